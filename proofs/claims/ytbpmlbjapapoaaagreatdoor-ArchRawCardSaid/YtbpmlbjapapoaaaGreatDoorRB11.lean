/-
  Parts of the proof: Af.
-/
import Derived.Test.YtbpmlbjapapoaaaGreatDoorRAc
import Derived.Test.YtbpmlbjapapoaaaGreatDoorRWm
set_option maxRecDepth 100000
set_option maxHeartbeats 64000000
namespace Go.Proofs.YtbpmlbjapapoaaaGreatDoor.Eng
open Go.RowKit
section
open Go.RowKit Go.Lib
theorem decF_dig : ∀ (k n : Nat) (s : Str),n < 10 ^ (k + 1) → decF k n s = Lib.decDigits n ++ s
 | 0,n,s,h=>by
  have h : n < 10:=by simpa using h
  rw [decF,Lib.decDigits_one h]
  rfl
 | k + 1,n,s,h=>by
  rw [decF]
  by_cases h1 : 9 < n
  ·rw [if_pos h1,decF_dig k (n / 10) _ (by rw [Nat.div_lt_iff_lt_mul (by decide)];rw [Nat.pow_succ] at h;omega)]
   conv=>rhs;rw [Lib.decDigits,dif_neg (by omega)]
   rw [List.append_assoc]
   rfl
  ·rw [if_neg h1,Lib.decDigits_one (by omega)]
   rfl
theorem decU_S (n : Nat) (h : n ≤ 9223372036854775807) : decU n = decS n:=by
 unfold decU decS Lib.itoa
 rw [if_neg (by omega),decF_dig 20 n [] (by omega),List.append_nil]
 rfl
structure NdB (w0 w : World) (x : NdV) : Prop where
 a : Rw attC w0 x.va x.n.attrs
 c : Rw acC w0 x.vc x.n.acl
 d : Rw pcC w x.vd x.n.data
 t : ∀ b,x.vd.ownBlock = some b → ∃ cs,Blk w b 65 cs
theorem NdB.nil (w0 w : World) : NdB w0 w ndZV:=⟨Rw.nil _ _ (by decide),Rw.nil _ _ (by decide),Rw.nil _ _ (by decide),fun b hb=>by cases hb⟩
theorem NdB.ext {w0 w w' : World} {x : NdV} (h : NdB w0 w x) (hE : Ext w w') : NdB w0 w' x:=⟨h.a,h.c,h.d.ext hE,fun b hb=>by obtain ⟨cs,hc⟩:=h.t b hb;exact ⟨cs,hc.ext hE⟩⟩
theorem NdB.back {w0 w1 w : World} {x : NdV} (h : NdB w1 w x) (ha : Rw attC w0 x.va x.n.attrs) (hc : Rw acC w0 x.vc x.n.acl) : NdB w0 w x:=⟨ha,hc,h.d,h.t⟩
theorem NdB.in {w0 w : World} {x : NdV} (h : NdB w0 w x) (hE : Ext w0 w) : NdIn w x:=⟨h.a.ext hE,h.c.ext hE,h.d⟩
structure RbI (w : World) (x : NdV) (g : Nat) (y : Nat × Value) (w' : World) : Prop where
 le : y.1 ≤ x.n.data.length
 o : Ow pcC 2 w' w.heap.size 65 y.2 ((x.n.data.take y.1).map barP)
 B : Blk w' g 47 (ndC x).toArray
 R : Blk w' (g + 1) 47 (ndC ndZV).toArray
 ext : Ext w w'
attribute [local irreducible] xs T
theorem rbare_does (w : World) (x : NdV) (hx : NdIn w x) (hb : bytesP x.n.data ≤ 1000000) (htl : x.n.target.length ≤ 1000000) (ld : x.n.data.length ≤ 1000000) : Does Tryz.prog 22 #[.agg (ndC x).toArray] w fun r w'=>∃ x' : NdV,r = .agg (ndC x').toArray ∧ x'.n = bareN x.n ∧ (x' = ndZV ∨ x'.va = x.va ∧ x'.vc = x.vc ∧ x'.n.attrs = x.n.attrs ∧ x'.n.acl = x.n.acl) ∧ NdB w w' x' ∧ Ext w w':=by
 refine does1 Tryz.func22 rfl (by kernel_rfl) ?_
 have hN : ∀ {a b c : World} {g : Nat},Ext a b → Fr (· = g) b c → a.heap.size ≤ g → Ext a c:=fun h1 h2 hg=>h1.trans h2 fun j hj e=>absurd hj (by omega)
 have hxi:=hx
 obtain ⟨Aa,ca,hva,_,_,_⟩:=hxi.a.op attC_len
 obtain ⟨Ac,cc,hvc,_,_,_⟩:=hxi.c.op acC_len
 obtain ⟨Ad,cd,hvd,_,_,hD⟩:=hxi.d.op pcC_len
 refine goL ?_
 refine xbox rfl (fun w1 hB1 hE1 hs1=>?_)
 obtain ⟨g,hg⟩ : ∃ g,g = w.heap.size:=⟨_,rfl⟩
 rw [← hg] at hB1 hs1 ⊢
 refine goL ?_
 refine xalloc (z:=.agg (ndC ndZV).toArray) (by kernel_rfl) (fun w2 hB2 hE2 hs2=>?_)
 rw [hs1] at hB2 hs2 ⊢
 have hB : Blk w2 g 47 (ndC x).toArray:=Blk.ext hB1 hE2
 have hE02 : Ext w w2:=hE1.t hE2
 refine goL ?_
 refine xlda (t:=47) hB rfl rfl ?_
 refine goL ?_
 refine xcall rfl rfl (rnodemay_does w2 x (hxi.ext hE02) hb htl) (fun r w3 h3=>?_)
 obtain ⟨rfl,hE3⟩:=h3
 have hB3:=hB.ext hE3
 have hR3 : Blk w3 (g + 1) 47 (ndC ndZV).toArray:=Blk.ext hB2 hE3
 have hE03:=hE02.t hE3
 cases hok : nodeOK x.n with
 | false=>
  refine goL ?_
  refine xbd (cells:=(ndC ndZV).toArray) rfl (by kernel_rfl) ?_
  refine xsta hR3 rfl rfl (by kernel_rfl) rfl (by kernel_rfl) (fun w7 hB7 hF7=>?_)
  refine goL ?_
  refine tretc rfl rfl hB7 (by kernel_rfl) ⟨ndZV,rfl,?_,?_,NdB.nil _ _,hN hE03 hF7 (by omega)⟩
  ·show ndZ = _
   unfold bareN
   rw [hok];rfl
  ·exact .inl rfl
 | true=>
  refine goL ?_
  refine tloop (α:=Nat × Value) (fun y=>[(1,.pointer (some ⟨g,0,none⟩)),(2,.pointer (some ⟨g + 1,0,none⟩)),(3,y.2),(4,.int .i64 (y.1 : Int))]) (RbI w x g) (fun y=>x.n.data.length - y.1) (0,.slice none 0 0) (sub ⟨rfl,rfl,rfl,rfl⟩) ⟨Nat.zero_le _,Ow.nil _ _ _,hB3,hR3,hE03⟩ ?_
  rintro ⟨i,v⟩ w' ⟨hi,ho,hB',hR',hE'⟩
  dsimp only at hi ho ⊢
  have k8 : w'.cell? ⟨g,8,none⟩ = some (.slice Ad x.n.data.length cd):=by rw [← hvd];exact hB'.cell 8
  by_cases hlt : i < x.n.data.length
  ·obtain ⟨b,o,p,rfl,hbl,hp,_,hcell⟩:=hD.at_ hlt
   have hplen : p.data.length ≤ 1000000:=by
    have:=bytesP_le x.n.data (i + 1)
    have h2:=bytesP_take hp
    omega
   obtain ⟨Af,cf,rfl,_,_⟩:=ho.form
   have hl : ((x.n.data.take i).map barP).length = i:=by rw [List.length_map,List.length_take];omega
   have hst : (x.n.data.take (i + 1)).map barP = (x.n.data.take i).map barP ++ [barP p]:=by
    rw [List.take_add_one,hp,List.map_append];rfl
   have hH0 : ∀ w'',Ext w' w'' → w''.cell? ⟨g,8,none⟩ = some (.slice (some ⟨b,o,none⟩) x.n.data.length cd) ∧ w''.cell? ⟨b,o + i * 2 + 0,none⟩ = some (.int .i64 p.pos) ∧ w''.cell? ⟨b,o + i * 2 + 1,none⟩ = some (.string (su p.data)):=fun w'' h=>⟨h.cell k8,h.cell (hE'.cell (hcell 0 _ rfl)),h.cell (hE'.cell (hcell 1 _ rfl))⟩
   refine goL ?_
   refine tdrawH [18,22,24,28] (fun w''=>w''.cell? ⟨g,8,none⟩ = some (.slice (some ⟨b,o,none⟩) x.n.data.length cd) ∧ w''.cell? ⟨b,o + i * 2 + 0,none⟩ = some (.int .i64 p.pos) ∧ w''.cell? ⟨b,o + i * 2 + 1,none⟩ = some (.string (su p.data))) (by kernel_rfl) (by decide +kernel) (hH0 _ (Fr.drew _ _)) ?_
   repeat' (first | refine xldh rfl rfl (fun _ h=>h.1) ?_ | refine xldh rfl rfl (fun _ h=>h.2.1) ?_ | refine xldh rfl rfl (fun _ h=>h.2.2) ?_ | refine xizq i (o + i * 2) rfl rfl rfl rfl rfl hlt ?_ | refine xuln1 rfl rfl ?_ | refine xuln rfl rfl ?_ | refine go1L ?_ | fail)
   refine xcall rfl rfl (rdec_does w'.drew p.data.length (by omega)) (fun r w4 h4=>?_) (fun r w4 h4=>h4.2 ▸ hH0 _ (Fr.drew _ _))
   obtain ⟨rfl,rfl⟩:=h4
   rw [decU_S _ (by omega)]
   refine goL ?_
   refine xbd (cells:=(pcC (barP p)).toArray) rfl (by kernel_rfl) ?_
   refine xbz1 sl_pcs rfl rfl (by decide) (by decide) (fun w5 hB5 hE5 hs5=>?_) (fun w'' h=>hH0 w'' ((Fr.drew _ _).t h))
   have hE05 : Ext w w5:=(hE'.t (Fr.drew _ _)).t hE5
   have ho5:=(ho.ext (Fr.drew (fun _=>False) w')).ext hE5
   refine xapz (B:=w.heap.size) (news:=pcC (barP p)) sl_pcs rfl (by decide) rfl ho5 rfl (blk_row hB5 (by decide) rfl) rfl (List.all_eq_true.1 (rfl : (pcC (barP p)).all (·.oneCell') = true)) (by rw [hl];unfold maxLen;omega) (by rw [hl];omega) hE05.size (fun v6 w6 hO6 hF6 _=>?_) (fun w'' hF=>by
    have hbb : ∀ j,(Value.slice Af ((x.n.data.take i).map barP).length cf).ownBlock = some j → ¬ (j = g ∨ j = b):=fun j hj=>by
     rintro (e | e)
     ·obtain ⟨cs,hc⟩:=ho.typ hj;exact hc.ne_ hB' (by decide) e
     ·have:=(ho.blk hj).1;omega
    have q:=hH0 w5 ((Fr.drew _ _).t hE5)
    exact ⟨hF.cell q.1 (fun h=>hbb _ h (.inl rfl)),hF.cell q.2.1 (fun h=>hbb _ h (.inr rfl)),hF.cell q.2.2 (fun h=>hbb _ h (.inr rfl))⟩)
   have hO6' : Ow pcC 2 w6 w.heap.size 65 v6 ((x.n.data.take (i + 1)).map barP):=by
    rw [hst];exact Ow.ext1 (l':=[barP p]) (by simpa using hO6)
   have hB5':=hB'.ext ((Fr.drew noneB w').t hE5)
   have hR5':=hR'.ext ((Fr.drew noneB w').t hE5)
   have hE06 : Ext w w6:=hE05.trans hF6 fun j hj h=>by have:=(ho5.blk h).1;omega
   refine goL ?_
   exact tfin ⟨(i + 1,v6),sub ⟨rfl,rfl,rfl,rfl⟩,⟨hlt,hO6',hB5'.fr hF6 (fun e=>by obtain ⟨cs,hc⟩:=ho5.typ e;exact hc.ne_ hB5' (by decide) rfl),hR5'.fr hF6 (fun e=>by obtain ⟨cs,hc⟩:=ho5.typ e;exact hc.ne_ hR5' (by decide) rfl),hE06⟩,(by show x.n.data.length - (i + 1) < x.n.data.length - i;omega)⟩
  ·obtain rfl : i = x.n.data.length:=by omega
   rw [List.take_length] at ho
   obtain ⟨Af,cf,rfl,_,_⟩:=ho.form
   refine goL ?_
   refine xstb hB' rfl rfl (by kernel_rfl) rfl rfl (fun w7 hB7 hF7=>?_)
   have hB7' : Blk w7 g 47 (ndC ⟨{ x.n with data:=x.n.data.map barP },x.va,x.vc,.slice Af (x.n.data.map barP).length cf⟩).toArray:=hB7
   have hR7:=hR'.fr hF7 (show ¬ g + 1 = g by omega)
   have ho7:=ho.fr hF7 fun b hb e=>by obtain ⟨cs,hc⟩:=ho.typ hb;exact hc.ne_ hB' (by decide) e
   have hE7:=hN hE' hF7 (by omega)
   rw [hva,hvc] at hB7'
   refine goL ?_
   refine xlda (t:=47) hB7' rfl rfl ?_
   refine xsta hR7 rfl rfl (by kernel_rfl) rfl (one_cells (l:=ndC ⟨{ x.n with data:=x.n.data.map barP },.slice Aa x.n.attrs.length ca,.slice Ac x.n.acl.length cc,.slice Af (x.n.data.map barP).length cf⟩) rfl) (fun w8 hB8 hF8=>?_)
   have ho8:=ho7.fr hF8 fun b hb e=>by obtain ⟨cs,hc⟩:=ho7.typ hb;exact hc.ne_ hR7 (by decide) e
   have hE8:=hN hE7 hF8 (by omega)
   refine goL ?_
   refine tretc rfl rfl hB8 (by kernel_rfl) ⟨⟨{ x.n with data:=x.n.data.map barP },.slice Aa x.n.attrs.length ca,.slice Ac x.n.acl.length cc,.slice Af (x.n.data.map barP).length cf⟩,rfl,?_,.inr ⟨hva.symm,hvc.symm,rfl,rfl⟩,?_,hE8⟩
   ·show ({ x.n with data:=x.n.data.map barP } : Nd) = bareN x.n
    unfold bareN;rw [if_pos hok]
   ·have ha:=hxi.a
    have hc:=hxi.c
    rw [hva] at ha;rw [hvc] at hc
    exact ⟨ha,hc,ho8.rw,fun b hb=>ho8.typ hb⟩
end
end Go.Proofs.YtbpmlbjapapoaaaGreatDoor.Eng
