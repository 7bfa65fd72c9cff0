/-
  Parts of the proof: Am, An.
-/
import Derived.Test.YtbpmlbjapapoaaaGreatDoorRAl
import Derived.Test.YtbpmlbjapapoaaaGreatDoorRB9
import Derived.Test.YtbpmlbjapapoaaaGreatDoorRWv
import Derived.Test.YtbpmlbjapapoaaaGreatDoorRWy
set_option maxRecDepth 100000
set_option maxHeartbeats 64000000
namespace Go.Proofs.YtbpmlbjapapoaaaGreatDoor.Eng
open Go.RowKit
section
open Go.RowKit Go.Lib
attribute [local irreducible] xs T
theorem rrecsame_does (w : World) (a b : RcV) (ha : NdIn w a.nd) (hb : NdIn w b.nd) : Does Tryz.prog 23 #[.agg (rcC a).toArray,.agg (rcC b).toArray] w fun r w'=>r = .bool (decide (a.p = b.p)) ∧ Ext w w':=by
 refine does2 Tryz.func23 rfl (by kernel_rfl) ?_
 obtain ⟨p,l,n,q⟩:=a
 obtain ⟨p',l',n',q'⟩:=b
 dsimp only at ha hb
 have hdec : decide (RcV.p ⟨p,l,n,q⟩ = RcV.p ⟨p',l',n',q'⟩) = (decide (p = p') && decide (l = l') && decide (q = q') && decide (n.n = n'.n)):=by
  exact y28
 rw [hdec]
 refine goL ?_
 refine xbox rfl (fun w1 hB1 hE1 hs1=>?_)
 refine xbox rfl (fun w2 hB2 hE2 hs2=>?_)
 obtain ⟨g,hg⟩ : ∃ g,g = w.heap.size:=⟨_,rfl⟩
 rw [hs1] at hB2 hs2 ⊢
 rw [← hg] at hB1 hB2 hs1 hs2 ⊢
 have hA2 : Blk w2 g 49 (rcC ⟨p,l,n,q⟩).toArray:=Blk.ext hB1 hE2
 have hB2 : Blk w2 (g + 1) 49 (rcC ⟨p',l',n',q'⟩).toArray:=hB2
 have hE:=hE1.t hE2
 have a0 : w2.cell? ⟨g,0,none⟩ = some (.string (su p)):=hA2.cell 0
 have b0 : w2.cell? ⟨g + 1,0,none⟩ = some (.string (su p')):=hB2.cell 0
 have a1 : w2.cell? ⟨g,1,none⟩ = some (.int .i64 l):=hA2.cell 1
 have b1 : w2.cell? ⟨g + 1,1,none⟩ = some (.int .i64 l'):=hB2.cell 1
 have a14 : w2.cell? ⟨g,14,none⟩ = some (.int .i64 q):=hA2.cell 14
 have b14 : w2.cell? ⟨g + 1,14,none⟩ = some (.int .i64 q'):=hB2.cell 14
 by_cases h1 : p = p'
 ·rw [decide_eq_true h1]
  by_cases h2 : l = l'
  ·rw [decide_eq_true h2]
   by_cases h3 : q = q'
   ·rw [decide_eq_true h3]
    refine gz11 ?_
    refine xldz (cs:=ndC n) rfl rfl (rc_nd hA2) ?_
    refine goL ?_
    refine xldz (cs:=ndC n') rfl rfl (rc_nd hB2) ?_
    refine goL ?_
    refine xcallE rfl rfl (rsame_does w2 n n' (ha.ext hE) (hb.ext hE)) (fun r w3 h3=>?_)
    obtain ⟨rfl,hE3⟩:=h3
    exact y19
   ·rw [decide_eq_false h3]
    refine gz11 ?_
    exact y6
  ·rw [decide_eq_false h2]
   refine gz11 ?_
   exact y6
 ·exact y65
theorem rrecsames_does (w : World) (va vb : Value) (al bl : List RcV) (ha : Rw rcC w va al) (hb : Rw rcC w vb bl) (hia : ∀ x ∈ al,NdIn w x.nd) (hib : ∀ x ∈ bl,NdIn w x.nd) : Does Tryz.prog 10 #[va,vb] w fun r w'=>r = .bool (decide (al.map RcV.p = bl.map RcV.p)) ∧ Ext w w':=by
 refine does2 Tryz.func10 rfl (by kernel_rfl) ?_
 obtain ⟨A,c,rfl,hc1,hc2,hA⟩:=ha.op rcC_len
 obtain ⟨A',c',rfl,hc1',hc2',hA'⟩:=hb.op rcC_len
 by_cases hlen : al.length = bl.length
 ·refine goL ?_
  refine tloop (α:=Nat) (fun i=>[(0,.slice A al.length c),(1,.slice A' bl.length c'),(5,.int .i64 (i : Int))]) (fun i w'=>Ext w w' ∧ i ≤ al.length ∧ decide ((al.drop i).map RcV.p = (bl.drop i).map RcV.p) = decide (al.map RcV.p = bl.map RcV.p)) (fun i=>al.length - i) 0 (sub ⟨rfl,rfl,rfl⟩) ⟨Fr.refl _ _,Nat.zero_le _,rfl⟩ ?_
  rintro i w1 ⟨hE,hi,hgo⟩
  by_cases hlt : i < al.length
  ·obtain ⟨b,o,x,rfl,_,hx,hdr,hcell⟩:=hA.at_ hlt
   obtain ⟨b',o',y,rfl,_,hy,hdr',hcell'⟩:=hA'.at_ (i:=i) (by omega)
   rw [hdr,hdr',List.map_cons,List.map_cons] at hgo
   have hEd : Ext w w1.drew:=hE.d
   repeat' (first | refine xizq i (o + i * 15) rfl rfl rfl rfl rfl hlt ?_ | refine go1L ?_ | fail)
   refine xldz (cs:=rcC x) rfl rfl (fun j u hu=>hEd.cell (hcell j u hu)) ?_
   repeat' (first | refine xizq i (o' + i * 15) rfl rfl rfl rfl rfl (by omega) ?_ | refine go1L ?_ | fail)
   refine xldz (cs:=rcC y) rfl rfl (fun j u hu=>hEd.cell (hcell' j u hu)) ?_
   refine xcallE rfl rfl (rrecsame_does w1.drew x y ((hia x (List.mem_of_getElem? hx)).ext hEd) ((hib y (List.mem_of_getElem? hy)).ext hEd)) (fun v w3 h3=>?_)
   obtain ⟨rfl,hE3⟩:=h3
   by_cases e : x.p = y.p
   ·have hgo : decide ((al.drop (i + 1)).map RcV.p = (bl.drop (i + 1)).map RcV.p) = decide (al.map RcV.p = bl.map RcV.p):=by rw [← hgo,e];simp
    rw [decide_eq_true e]
    refine goL ?_
    exact tfin ⟨i + 1,sub ⟨rfl,rfl,rfl⟩,⟨hEd.t hE3,by omega,hgo⟩,(by show al.length - (i + 1) < al.length - i;omega)⟩
   ·rw [decide_eq_false (fun h=>e (List.cons.inj h).1)] at hgo
    rw [decide_eq_false e]
    refine goL ?_
    exact tret1 rfl rfl ⟨by rw [← hgo],hEd.t hE3⟩
  ·obtain rfl : i = al.length:=by omega
   rw [List.drop_length,hlen,List.drop_length] at hgo
   rw [← hgo]
   refine goL ?_
   exact y6
 ·refine goL ?_
  exact tret1 rfl rfl ⟨by rw [decide_eq_false fun e=>hlen (by have:=congrArg List.length e;simpa using this)],Fr.refl _ _⟩
end
section
open Go.RowKit Go.Lib
attribute [local irreducible] xs T
def ToldR22 : Prop:=∀ w : World,Does Tryz.prog 7 #[] w fun r w'=>r = .bool true ∧ Ext w w'
theorem bare_ok (n : Nd) : NdL (bareN n) ∧ bytesP (bareN n).data ≤ 1000000:=by
 unfold bareN
 by_cases h : nodeOK n = true
 ·rw [if_pos h]
  obtain ⟨d1,d2,_⟩:=nodeOK_data h
  have hp:=pcs_len h
  unfold nodeOK metaOK aclOK at h
  simp only [Bool.and_eq_true,decide_eq_true_eq] at h
  obtain ⟨⟨⟨⟨⟨_,ha⟩,_⟩,_⟩,⟨⟨⟨hc,_⟩,_⟩,_⟩⟩,_⟩:=h
  have hb : ∀ l : List Pce,(∀ p ∈ l,1 ≤ p.data.length ∧ p.data.length ≤ 4000) → bytesP (l.map barP) ≤ 4 * l.length:=fun l=>by
   induction l with
   | nil=>intro _;exact Nat.zero_le _
   | cons p r ih=>
    intro h
    have i:=ih fun q hq=>h q (List.mem_cons_of_mem _ hq)
    obtain ⟨h1,h2⟩:=h p List.mem_cons_self
    have e : decS p.data.length = Lib.decDigits p.data.length:=by
     unfold decS Lib.itoa
     rw [if_neg (by omega),Int.toNat_natCast]
    have:=(digF_dig p.data.length).2.2 4 (by decide) (by omega)
    rw [List.map_cons,bytesP,List.length_cons]
    have : (barP p).data.length ≤ 4:=by show (decS p.data.length).length ≤ 4;rw [e];exact this
    omega
  have:=hb n.data hp
  refine ⟨⟨by show n.attrs.length ≤ _;omega,by show n.acl.length ≤ _;omega,by show (n.data.map barP).length ≤ _;rw [List.length_map];omega⟩,by show bytesP (n.data.map barP) ≤ _;omega⟩
 ·rw [if_neg h]
  exact ⟨⟨Nat.zero_le _,Nat.zero_le _,Nat.zero_le _⟩,Nat.zero_le _⟩
theorem whole_le {t : Tre} (h : mayT t = true) : (recsM t).whole.length ≤ 1000000000:=by
 obtain ⟨_,h1,h2,_⟩:=guess_take h t.es.length (Nat.le_refl _)
 rw [List.take_length] at h1 h2
 unfold mayT at h
 simp only [Bool.and_eq_true,decide_eq_true_eq] at h
 have:=h.1.1.1.2
 show (rsts t.ns t.es).whole.length ≤ _
 omega
theorem alike_refl (t : Tre) : alikeT t t = true:=by
 unfold alikeT
 simp
end
end Go.Proofs.YtbpmlbjapapoaaaGreatDoor.Eng
