/-
  Parts of the proof: Wo.
-/
import Derived.Test.YtbpmlbjapapoaaaGreatDoorRWn
set_option maxRecDepth 100000
set_option maxHeartbeats 64000000
namespace Go.Proofs.YtbpmlbjapapoaaaGreatDoor.Eng
open Go.RowKit
section
attribute [local irreducible] xs T
theorem parS_up {p : Str} (h : partsP p ≠ []) : parP p = some (upP p) ∧ parS p = upP p:=by
 have e : parP p = some (upP p):=by unfold parP;rw [if_neg h]
 exact ⟨e,by rw [parS,e];rfl⟩
theorem tmay_does (w : World) (ve vn : Value) (nvs : List NdV) (t : Tre) (hv : TrV w ve vn nvs t) (hn : NsOK t.ns) : Does Tryz.prog 18 #[.agg #[ve,vn]] w fun r w'=>r = .bool (mayT t) ∧ Ext w w':=by
 refine does1 Tryz.func18 rfl (by kernel_rfl) ?_
 have hv0:=hv
 obtain ⟨A,c,rfl,hc1,hc2,hA⟩:=hv.e.op enC_len
 obtain ⟨A',c',rfl,hc1',hc2',hA'⟩:=hv.n.op ndC_len
 have hlen:=hv.len
 rw [hlen] at hc1'
 unfold mayT
 refine goL ?_
 refine xbox rfl (fun w1 hB1 hE1 hs1=>?_)
 have hB : Blk w1 w.heap.size 25 #[.slice A t.es.length c,.slice A' nvs.length c']:=hB1
 have k0 : w1.cell? ⟨w.heap.size,0,none⟩ = some (.slice A t.es.length c):=hB.cell 0
 have k1 : w1.cell? ⟨w.heap.size,1,none⟩ = some (.slice A' t.ns.length c'):=by rw [← hlen];exact hB.cell 1
 refine goL ?_
 by_cases g1 : 1 ≤ t.es.length
 case neg=>
  refine tscope0 ?_
  refine goL ?_
  exact tret1 rfl rfl ⟨by simp only [decide_eq_false g1,Bool.false_and],hE1⟩
 by_cases g2 : t.es.length ≤ 100
 case neg=>
  refine tscope0 ?_
  refine goL ?_
  exact tret1 rfl rfl ⟨by simp only [decide_eq_false g2,Bool.false_and,Bool.and_false],hE1⟩
 rw [decide_eq_true g1,decide_eq_true g2,Bool.true_and,Bool.true_and]
 cases ho : ordB t.ns none 0 t.es with
 | false=>
  refine tscope0 ?_
  refine goL ?_
  refine xlda (t:=25) hB rfl rfl ?_
  refine goL ?_
  refine xcallE rfl rfl (ordered_does w1 _ _ nvs t (hv0.ext hE1) hn) (fun r w2 h2=>?_)
  obtain ⟨rfl,hE2⟩:=h2
  rw [ho]
  refine goL ?_
  exact tret1 rfl rfl ⟨by simp only [Bool.false_and],hE1.t hE2⟩
 | true=>
 rw [Bool.true_and]
 obtain ⟨hpa,hnu,_⟩:=(ordB_iff t.ns t.es none 0 (Nat.zero_le _)).1 ho
 have hnm:=numOK_mem hnu
 obtain ⟨b,o,e0,hAe,_,he0,hd0,hcell0⟩:=hA.at_ (i:=0) (by omega)
 subst hAe
 have hhead : t.es.headD default = e0:=by
  cases hes : t.es with
  | nil=>rw [hes] at he0;cases he0
  | cons x r=>rw [hes] at he0;exact Option.some.inj he0
 rw [hhead]
 have hm0:=hnm e0 (List.mem_of_getElem? he0)
 obtain ⟨k,hk⟩:=Int.eq_ofNat_of_zero_le hm0.1
 have hkl : k < nvs.length:=by omega
 obtain ⟨b',o',n0,hAn,_,hnx,_,hcn⟩:=hA'.at_ hkl
 subst hAn
 have hkind : kindAt t.ns e0.node = n0.n.kind:=by unfold kindAt;rw [hk,Int.toNat_natCast,hv0.getD hnx]
 rw [hkind]
 have hps : pathsOK (some e0.path) (t.es.drop 1) = true:=by
  rw [List.drop_zero] at hd0
  rw [hd0,pathsOK,Bool.and_eq_true] at hpa
  exact hpa.2
 by_cases g3 : n0.n.kind = 1
 case neg=>
  refine tscope0 ?_
  refine goL ?_
  refine xlda (t:=25) hB rfl rfl ?_
  refine goL ?_
  refine xcallE rfl rfl (ordered_does w1 _ _ nvs t (hv0.ext hE1) hn) (fun r w2 h2=>?_)
  obtain ⟨rfl,hE2⟩:=h2
  rw [ho]
  have m0 : w2.drew.cell? ⟨w.heap.size,0,none⟩ = some (.slice (some ⟨b,o,none⟩) t.es.length c):=hE2.cell k0
  have m1 : w2.drew.cell? ⟨w.heap.size,1,none⟩ = some (.slice (some ⟨b',o',none⟩) t.ns.length c'):=hE2.cell k1
  have q1 : w2.drew.cell? ⟨b,o + 0 * 2 + 1,none⟩ = some (.int .i64 e0.node):=hE2.cell (hE1.cell (hcell0 1 _ rfl))
  have r1 : w2.drew.cell? ⟨b',o' + k * 12 + 0,none⟩ = some (.int .i64 n0.n.kind):=hE2.cell (hE1.cell (hcn 0 _ rfl))
  refine gz25 ?_
  exact tret1 rfl rfl ⟨by simp only [decide_eq_false g3,Bool.false_and],(hE1.t hE2).d⟩
 rw [decide_eq_true g3,Bool.true_and]
 refine tscope1 (α:=Nat) 0 rfl (fun i=>[(1,.pointer (some ⟨w.heap.size,0,none⟩)),(3,.int .i64 (i : Int))]) (fun i w'=>Ext w1 w' ∧ 1 ≤ i ∧ i ≤ t.es.length ∧ (t.es.drop i).all (parOK t) = (t.es.drop 1).all (parOK t)) (fun i=>t.es.length - i) ?_ ?_
 ·rintro i w2 ⟨hE2,hi1,hi,hgo⟩
  have m0 : w2.cell? ⟨w.heap.size,0,none⟩ = some (.slice (some ⟨b,o,none⟩) t.es.length c):=hE2.cell k0
  by_cases hlt : i < t.es.length
  ·obtain ⟨b2,o2,e,e2,_,he,hdr,hcell⟩:=hA.at_ hlt
   injection e2 with e2
   injection e2 with e3 e4
   subst e3;subst e4
   have q0 : w2.cell? ⟨b,o + i * 2 + 0,none⟩ = some (.string (su e.path)):=hE2.cell (hE1.cell (hcell 0 _ rfl))
   rw [hdr,List.all_cons] at hgo
   have hed : e ∈ t.es.drop 1:=by
    refine List.mem_of_getElem? (i:=i - 1) ?_
    rw [List.getElem?_drop,show 1 + (i - 1) = i from by omega,he]
   have hpm:=pathsOK_may hps e hed
   have hpn:=pathsOK_ne hps e hed
   have hpar:=parS_up (p:=e.path) (by rw [partsP_ok hpm hpn];exact cutU_ne _)
   refine gz4 ?_
   refine xcallE rfl rfl (parent_does w2 e.path) (fun r w3 h3=>?_)
   obtain ⟨rfl,hE3⟩:=h3
   have hE03 : Ext w1 w3:=hE2.t hE3
   rw [hpar.2]
   have hB3 : Blk w3 w.heap.size 25 #[.slice (some ⟨b,o,none⟩) t.es.length c,.slice (some ⟨b',o',none⟩) nvs.length c']:=hB.ext hE03
   refine goL ?_
   refine xlda (t:=25) hB3 rfl rfl ?_
   refine goL ?_
   refine xcallE rfl rfl (find_does w3 _ _ t.es (upP e.path) (hv0.e.ext (hE1.t hE03))) (fun r w4 h4=>?_)
   obtain ⟨rfl,hE4⟩:=h4
   have hE04 : Ext w1 w4:=hE03.t hE4
   cases hf : findT t.es (upP e.path) with
   | none=>
    have epo : parOK t e = false:=by unfold parOK;rw [hf]
    rw [epo,Bool.false_and] at hgo
    refine goL ?_
    exact tret1 rfl rfl ⟨by rw [← hgo],hE1.t hE04⟩
   | some j=>
    have epo : parOK t e = decide (kindAt t.ns j = 1):=by unfold parOK;rw [hf]
    rw [epo] at hgo
    obtain ⟨e',he',_,hj⟩:=findT_mem hf
    have hjm:=hnm e' he'
    rw [hj] at hjm
    obtain ⟨q,hq⟩:=Int.eq_ofNat_of_zero_le hjm.1
    obtain ⟨b3,o3,n,e5,_,hny,_,hcy⟩:=hA'.at_ (i:=q) (by omega)
    injection e5 with e5
    injection e5 with e6 e7
    subst e6;subst e7
    have hkd : kindAt t.ns j = n.n.kind:=by unfold kindAt;rw [hq,Int.toNat_natCast,hv0.getD hny]
    rw [hkd] at hgo
    have r1 : w4.cell? ⟨w.heap.size,1,none⟩ = some (.slice (some ⟨b',o',none⟩) t.ns.length c'):=hE04.cell k1
    have r2 : w4.cell? ⟨b',o' + q * 12 + 0,none⟩ = some (.int .i64 n.n.kind):=hE04.cell (hE1.cell (hcy 0 _ rfl))
    have hgd : (some j : Option Int).getD 0 = j:=rfl
    by_cases g : n.n.kind = 1
    ·rw [decide_eq_true g,Bool.true_and] at hgo
     repeat' (first | refine xizq q (o' + q * 12) rfl rfl rfl hq rfl (by omega) ?_ | refine go1L ?_ | fail)
     exact tgoto rfl ⟨_,(by show t.es.length - (i + 1) < t.es.length - i;omega),rfl,i + 1,sub ⟨rfl,rfl⟩,⟨hE04,by omega,by omega,hgo⟩,rfl⟩
    ·rw [decide_eq_false g,Bool.false_and] at hgo
     repeat' (first | refine xizq q (o' + q * 12) rfl rfl rfl hq rfl (by omega) ?_ | refine go1L ?_ | fail)
     exact tret1 rfl rfl ⟨by rw [← hgo],hE1.t hE04⟩
  ·obtain rfl : i = t.es.length:=by omega
   rw [List.drop_length] at hgo
   refine goL ?_
   exact tret1 rfl rfl ⟨by rw [← hgo];rfl,hE1.t hE2⟩
 ·intro H
  refine goL ?_
  refine xlda (t:=25) hB rfl rfl ?_
  refine goL ?_
  refine xcallE rfl rfl (ordered_does w1 _ _ nvs t (hv0.ext hE1) hn) (fun r w2 h2=>?_)
  obtain ⟨rfl,hE2⟩:=h2
  rw [ho]
  have m0 : w2.drew.cell? ⟨w.heap.size,0,none⟩ = some (.slice (some ⟨b,o,none⟩) t.es.length c):=hE2.cell k0
  have m1 : w2.drew.cell? ⟨w.heap.size,1,none⟩ = some (.slice (some ⟨b',o',none⟩) t.ns.length c'):=hE2.cell k1
  have q1 : w2.drew.cell? ⟨b,o + 0 * 2 + 1,none⟩ = some (.int .i64 e0.node):=hE2.cell (hE1.cell (hcell0 1 _ rfl))
  have r1 : w2.drew.cell? ⟨b',o' + k * 12 + 0,none⟩ = some (.int .i64 n0.n.kind):=hE2.cell (hE1.cell (hcn 0 _ rfl))
  refine gz25 ?_
  refine tlabel ?_
  exact tweak (H 1 w2.drew ⟨hE2.d,Nat.le_refl _,by omega,rfl⟩) (sub ⟨rfl,rfl⟩)
end
end Go.Proofs.YtbpmlbjapapoaaaGreatDoor.Eng
