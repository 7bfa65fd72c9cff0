/-
  Parts of the proof: We.
-/
import Derived.Test.YtbpmlbjapapoaaaGreatDoorRWd
set_option maxRecDepth 100000
set_option maxHeartbeats 64000000
namespace Go.Proofs.YtbpmlbjapapoaaaGreatDoor.Eng
open Go.RowKit
section
attribute [local irreducible] xs T
def mtC (x : NdV) : List Value:=[.int .i64 x.n.mode,.int .i64 x.n.uid,.int .i64 x.n.gid,.int .i64 x.n.time,x.va,x.vc]
theorem idOK_iff (n : Int) : idOK n = true ↔ 0 ≤ n ∧ n ≤ 2147483647:=by simp only [idOK,Bool.and_eq_true,decide_eq_true_eq]
theorem attOK_iff (a : Att) : attOK a = true ↔ 1 ≤ (a.name.length : Int) ∧ (a.name.length : Int) ≤ 20 ∧ (a.value.length : Int) ≤ 200:=by
 simp only [attOK,Bool.and_eq_true,decide_eq_true_eq];omega
theorem id_does (w : World) (n : Int) : Does Tryz.prog 100 #[.int .i64 n] w fun r w'=>r = .bool (idOK n) ∧ w = w':=by
 refine does1 Tryz.func100 rfl (by kernel_rfl) ?_
 repeat' (first | refine go1L ?_ | refine xs_eql rfl rfl (fun hc=>?_) (fun hc=>?_) | refine xs_neq rfl rfl (fun hc=>?_) (fun hc=>?_) | refine xs_lss rfl rfl (fun hc=>?_) (fun hc=>?_) | refine xs_leq rfl rfl (fun hc=>?_) (fun hc=>?_) | refine xs_gtr rfl rfl (fun hc=>?_) (fun hc=>?_) | refine xs_geq rfl rfl (fun hc=>?_) (fun hc=>?_) | fail)
 all_goals first | exact tret1 rfl rfl ⟨bool_t (idOK_iff n) (by omega),rfl⟩ | exact tret1 rfl rfl ⟨bool_f (idOK_iff n) (by omega),rfl⟩
theorem attgood_does (w : World) (a : Att) : Does Tryz.prog 101 #[.agg (attC a).toArray] w fun r w'=>r = .bool (attOK a) ∧ Ext w w':=by
 refine does1 Tryz.func101 rfl (by kernel_rfl) ?_
 refine goL ?_
 refine xbox rfl (fun w1 hB1 hE1 hs1=>?_)
 have hB : Blk w1 w.heap.size 78 #[.string (su a.name),.string (su a.value)]:=hB1
 have k0 : w1.cell? ⟨w.heap.size,0,none⟩ = some (.string (su a.name)):=hB.cell 0
 have k1 : w1.cell? ⟨w.heap.size,1,none⟩ = some (.string (su a.value)):=hB.cell 1
 repeat' (first | refine xuln1 rfl rfl ?_ | refine xuln rfl rfl ?_ | refine go1L ?_ | refine xs_eql rfl rfl (fun hc=>?_) (fun hc=>?_) | refine xs_neq rfl rfl (fun hc=>?_) (fun hc=>?_) | refine xs_lss rfl rfl (fun hc=>?_) (fun hc=>?_) | refine xs_leq rfl rfl (fun hc=>?_) (fun hc=>?_) | refine xs_gtr rfl rfl (fun hc=>?_) (fun hc=>?_) | refine xs_geq rfl rfl (fun hc=>?_) (fun hc=>?_) | fail)
 all_goals first | exact tret1 rfl rfl ⟨bool_t (attOK_iff a) (by omega),hE1⟩ | exact tret1 rfl rfl ⟨bool_f (attOK_iff a) (by omega),hE1⟩
theorem metaOK_eq (n : Nd) : metaOK n = (decide (0 ≤ n.mode) && decide (n.mode ≤ 4095) && idOK n.uid && idOK n.gid && decide (0 ≤ n.time) && (decide (n.attrs.length ≤ 8) && (goodG attOK attLt none n.attrs && aclOK n.acl))):=by
 rw [metaOK,goodG_eq]
 simp [Bool.and_assoc]
theorem metamay_does (w : World) (x : NdV) (hx : NdIn w x) : Does Tryz.prog 76 #[.agg (mtC x).toArray] w fun r w'=>r = .bool (metaOK x.n) ∧ Ext w w':=by
 refine does1 Tryz.func76 rfl (by kernel_rfl) ?_
 rw [metaOK_eq]
 refine goL ?_
 refine xbox rfl (fun w1 hB1 hE1 hs1=>?_)
 have hB : Blk w1 w.heap.size 44 #[.int .i64 x.n.mode,.int .i64 x.n.uid,.int .i64 x.n.gid,.int .i64 x.n.time,x.va,x.vc]:=hB1
 obtain ⟨A,c,eva,hc1,hc2,hA⟩:=hx.a.op attC_len
 have k0 : w1.cell? ⟨w.heap.size,0,none⟩ = some (.int .i64 x.n.mode):=hB.cell 0
 have k1 : w1.cell? ⟨w.heap.size,1,none⟩ = some (.int .i64 x.n.uid):=hB.cell 1
 have k2 : w1.cell? ⟨w.heap.size,2,none⟩ = some (.int .i64 x.n.gid):=hB.cell 2
 have k3 : w1.cell? ⟨w.heap.size,3,none⟩ = some (.int .i64 x.n.time):=hB.cell 3
 have k4 : w1.cell? ⟨w.heap.size,4,none⟩ = some (.slice A x.n.attrs.length c):=by rw [← eva];exact hB.cell 4
 refine goL ?_
 by_cases h0 : ¬ 0 ≤ x.n.mode
 ·refine tscope0 ?_
  refine goL ?_
  exact tret1 rfl rfl ⟨by simp [h0],hE1⟩
 have h0 : 0 ≤ x.n.mode:=by omega
 by_cases h1 : ¬ x.n.mode ≤ 4095
 ·refine tscope0 ?_
  refine goL ?_
  exact tret1 rfl rfl ⟨by simp [h1],hE1⟩
 have h1 : x.n.mode ≤ 4095:=by omega
 cases hu : idOK x.n.uid with
 | false=>
  refine tscope0 ?_
  refine goL ?_
  refine xcallE rfl rfl (id_does w1 x.n.uid) (fun r w2 h2=>?_)
  obtain ⟨rfl,rfl⟩:=h2
  rw [hu]
  refine goL ?_
  exact tret1 rfl rfl ⟨by simp,hE1⟩
 | true=>
 cases hg : idOK x.n.gid with
 | false=>
  refine tscope0 ?_
  refine goL ?_
  refine xcallE rfl rfl (id_does w1 x.n.uid) (fun r w2 h2=>?_)
  obtain ⟨rfl,rfl⟩:=h2
  rw [hu]
  refine goL ?_
  refine xcallE rfl rfl (id_does w1 x.n.gid) (fun r w2 h2=>?_)
  obtain ⟨rfl,rfl⟩:=h2
  rw [hg]
  refine goL ?_
  exact tret1 rfl rfl ⟨by simp,hE1⟩
 | true=>
 by_cases h3 : ¬ 0 ≤ x.n.time
 ·refine tscope0 ?_
  refine goL ?_
  refine xcallE rfl rfl (id_does w1 x.n.uid) (fun r w2 h2=>?_)
  obtain ⟨rfl,rfl⟩:=h2
  rw [hu]
  refine goL ?_
  refine xcallE rfl rfl (id_does w1 x.n.gid) (fun r w2 h2=>?_)
  obtain ⟨rfl,rfl⟩:=h2
  rw [hg]
  refine goL ?_
  exact tret1 rfl rfl ⟨by simp [h3],hE1⟩
 have h3 : 0 ≤ x.n.time:=by omega
 rw [decide_eq_true h0,decide_eq_true h1,decide_eq_true h3,Bool.true_and,Bool.true_and,Bool.true_and,Bool.true_and,Bool.true_and]
 by_cases h8 : ¬ x.n.attrs.length ≤ 8
 ·refine tscope0 ?_
  refine goL ?_
  refine xcallE rfl rfl (id_does w1 x.n.uid) (fun r w2 h2=>?_)
  obtain ⟨rfl,rfl⟩:=h2
  rw [hu]
  refine goL ?_
  refine xcallE rfl rfl (id_does w1 x.n.gid) (fun r w2 h2=>?_)
  obtain ⟨rfl,rfl⟩:=h2
  rw [hg]
  refine goL ?_
  exact tret1 rfl rfl ⟨by simp [h8],hE1⟩
 have h8 : x.n.attrs.length ≤ 8:=by omega
 rw [decide_eq_true h8,Bool.true_and]
 obtain ⟨l,hl⟩ : ∃ l,l = x.n.attrs:=⟨_,rfl⟩
 rw [← hl] at h8 hA hc1 k4 ⊢
 refine tscope1 (α:=Nat) 0 rfl (fun i=>[(1,.pointer (some ⟨w.heap.size,0,none⟩)),(3,.int .i64 (i : Int))]) (fun i w'=>Ext w1 w' ∧ i ≤ l.length ∧ goodG attOK attLt (prevO l i) (l.drop i) = goodG attOK attLt none l) (fun i=>l.length - i) ?_ ?_
 ·rintro i w2 ⟨hE2,hi,hgo⟩
  have m4 : w2.cell? ⟨w.heap.size,4,none⟩ = some (.slice A l.length c):=hE2.cell k4
  have m4' : w2.drew.cell? ⟨w.heap.size,4,none⟩ = some (.slice A l.length c):=m4
  have m5 : w2.cell? ⟨w.heap.size,5,none⟩ = some x.vc:=(hB.ext hE2).cell 5
  by_cases hlt : i < l.length
  ·obtain ⟨b,o,y,rfl,_,hy,hdr,hcell⟩:=hA.at_ hlt
   rw [goodG_step hy] at hgo
   have hyc : ∀ j u,(attC y)[j]? = some u → w2.drew.cell? ⟨b,o + i * 2 + j,none⟩ = some u:=fun j u hu=>hE2.cell (hE1.cell (hcell j u hu))
   refine gz4 ?_
   refine xldz (cs:=attC y) rfl rfl hyc ?_
   refine xcallE rfl rfl (attgood_does w2.drew y) (fun r w3 h3=>?_)
   obtain ⟨rfl,hE3⟩:=h3
   have hE03 : Ext w1 w3:=hE2.d.t hE3
   cases hgd : attOK y with
   | false=>
    rw [hgd,Bool.false_and,Bool.false_and] at hgo
    refine goL ?_
    exact y53
   | true=>
    rw [hgd,Bool.true_and] at hgo
    cases i with
    | zero=>
     have hgo : goodG attOK attLt (prevO l (0 + 1)) (l.drop (0 + 1)) = goodG attOK attLt none l:=by simpa [prevO] using hgo
     refine goL ?_
     exact tgoto rfl ⟨_,(by show l.length - (0 + 1) < l.length - 0;omega),rfl,0 + 1,sub ⟨rfl,rfl⟩,⟨hE03,by omega,hgo⟩,rfl⟩
    | succ k=>
     obtain ⟨z,hz⟩ : ∃ z,l[k]? = some z:=⟨_,List.getElem?_eq_getElem (by omega)⟩
     have hpz : prevO l (k + 1) = some z:=hz
     rw [hpz] at hgo
     dsimp only at hgo
     obtain ⟨b',o',z',e',_,hz',_,hcell'⟩:=hA.at_ (i:=k) (by omega)
     injection e' with e'
     injection e' with e1 e2
     subst e1;subst e2
     rw [hz] at hz'
     injection hz' with hz'
     subst hz'
     have n4 : w3.cell? ⟨w.heap.size,4,none⟩ = some (.slice (some ⟨b,o,none⟩) l.length c):=hE03.cell k4
     have n1 : w3.cell? ⟨b,o + k * 2 + 0,none⟩ = some (.string (su z.name)):=hE03.cell (hE1.cell (hcell' 0 _ rfl))
     have n2 : w3.cell? ⟨b,o + (k + 1) * 2 + 0,none⟩ = some (.string (su y.name)):=hE03.cell (hE1.cell (hcell 0 _ rfl))
     cases hlt2 : attLt z y with
     | false=>
      rw [hlt2,Bool.false_and] at hgo
      have hb : Op.bytesLess z.name y.name = false:=hlt2
      repeat' (first | refine xizq k (o + k * 2) rfl rfl rfl (by omega) rfl (by omega) ?_ | refine xizq (k + 1) (o + (k + 1) * 2) rfl rfl rfl rfl rfl hlt ?_ | refine xucmp (op:=.geq) (r:=true) rfl rfl (by rw [cmpU,hb];rfl) ?_ | refine go1L ?_ | fail)
      exact y53
     | true=>
      rw [hlt2,Bool.true_and] at hgo
      have hb : Op.bytesLess z.name y.name = true:=hlt2
      repeat' (first | refine xizq k (o + k * 2) rfl rfl rfl (by omega) rfl (by omega) ?_ | refine xizq (k + 1) (o + (k + 1) * 2) rfl rfl rfl rfl rfl hlt ?_ | refine xucmp (op:=.geq) (r:=false) rfl rfl (by rw [cmpU,hb];rfl) ?_ | refine go1L ?_ | fail)
      exact y52
  ·obtain rfl : i = l.length:=by omega
   rw [List.drop_length] at hgo
   rw [← hgo]
   refine goL ?_
   refine xcall rfl rfl (aclmay_does w2 x.vc x.n.acl (hx.c.ext (hE1.t hE2))) (fun r w3 h3=>?_)
   obtain ⟨rfl,hE3⟩:=h3
   refine goL ?_
   exact tret1 rfl rfl ⟨by simp [goodG],hE1.t (hE2.t hE3)⟩
 ·intro H
  refine goL ?_
  refine xcallE rfl rfl (id_does w1 x.n.uid) (fun r w2 h2=>?_)
  obtain ⟨rfl,rfl⟩:=h2
  rw [hu]
  refine goL ?_
  refine xcallE rfl rfl (id_does w1 x.n.gid) (fun r w2 h2=>?_)
  obtain ⟨rfl,rfl⟩:=h2
  rw [hg]
  refine goL ?_
  refine tlabel ?_
  exact tweak (H 0 w1 ⟨Fr.refl _ _,Nat.zero_le _,rfl⟩) (sub ⟨rfl,rfl⟩)
end
end Go.Proofs.YtbpmlbjapapoaaaGreatDoor.Eng
