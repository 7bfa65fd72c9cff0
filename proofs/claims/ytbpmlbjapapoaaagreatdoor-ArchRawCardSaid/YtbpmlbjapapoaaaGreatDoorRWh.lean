/-
  Parts of the proof: Wh.
-/
import Derived.Test.YtbpmlbjapapoaaaGreatDoorRWe
set_option maxRecDepth 100000
set_option maxHeartbeats 64000000
namespace Go.Proofs.YtbpmlbjapapoaaaGreatDoor.Eng
open Go.RowKit
section
attribute [local irreducible] xs T
theorem race_does (w : World) (a : Ac) : Does Tryz.prog 141 #[.agg (acC a).toArray] w fun r w'=>r = .bool (acOK a) ∧ Ext w w':=by
 refine does1 Tryz.func141 rfl (by kernel_rfl) ?_
 refine goL ?_
 refine xbox rfl (fun w1 hB1 hE1 hs1=>?_)
 have hB : Blk w1 w.heap.size 80 #[.int .i64 a.kind,.int .i64 a.id,.int .i64 a.perm]:=hB1
 have k0 : w1.cell? ⟨w.heap.size,0,none⟩ = some (.int .i64 a.kind):=hB.cell 0
 have k1 : w1.cell? ⟨w.heap.size,1,none⟩ = some (.int .i64 a.id):=hB.cell 1
 have k2 : w1.cell? ⟨w.heap.size,2,none⟩ = some (.int .i64 a.perm):=hB.cell 2
 repeat' (first | refine go1L ?_ | refine xs_eql rfl rfl (fun hc=>?_) (fun hc=>?_) | refine xs_neq rfl rfl (fun hc=>?_) (fun hc=>?_) | refine xs_lss rfl rfl (fun hc=>?_) (fun hc=>?_) | refine xs_leq rfl rfl (fun hc=>?_) (fun hc=>?_) | refine xs_gtr rfl rfl (fun hc=>?_) (fun hc=>?_) | refine xs_geq rfl rfl (fun hc=>?_) (fun hc=>?_) | fail)
 all_goals first | exact tret1 rfl rfl ⟨bool_t (acOK_iff a) (by omega),hE1⟩ | exact tret1 rfl rfl ⟨bool_f (acOK_iff a) (by omega),hE1⟩
theorem acLt_iff (a b : Ac) : acLt a b = true ↔ a.kind < b.kind ∨ (a.kind = b.kind ∧ a.id < b.id):=by
 simp only [acLt,Bool.or_eq_true,Bool.and_eq_true,decide_eq_true_eq]
theorem raceless_does (w : World) (a b : Ac) : Does Tryz.prog 142 #[.agg (acC a).toArray,.agg (acC b).toArray] w fun r w'=>r = .bool (acLt a b) ∧ Ext w w':=by
 refine does2 Tryz.func142 rfl (by kernel_rfl) ?_
 refine goL ?_
 refine xbox rfl (fun w1 hB1 hE1 hs1=>?_)
 refine goL ?_
 refine xbox rfl (fun w2 hB2 hE2 hs2=>?_)
 have hE:=hE1.t hE2
 have hA : Blk w2 w.heap.size 80 #[.int .i64 a.kind,.int .i64 a.id,.int .i64 a.perm]:=hB1.ext hE2
 have hB : Blk w2 w1.heap.size 80 #[.int .i64 b.kind,.int .i64 b.id,.int .i64 b.perm]:=hB2
 have a0 : w2.cell? ⟨w.heap.size,0,none⟩ = some (.int .i64 a.kind):=hA.cell 0
 have a1 : w2.cell? ⟨w.heap.size,1,none⟩ = some (.int .i64 a.id):=hA.cell 1
 have b0 : w2.cell? ⟨w1.heap.size,0,none⟩ = some (.int .i64 b.kind):=hB.cell 0
 have b1 : w2.cell? ⟨w1.heap.size,1,none⟩ = some (.int .i64 b.id):=hB.cell 1
 repeat' (first | refine go1L ?_ | refine xs_eql rfl rfl (fun hc=>?_) (fun hc=>?_) | refine xs_neq rfl rfl (fun hc=>?_) (fun hc=>?_) | refine xs_lss rfl rfl (fun hc=>?_) (fun hc=>?_) | refine xs_leq rfl rfl (fun hc=>?_) (fun hc=>?_) | refine xs_gtr rfl rfl (fun hc=>?_) (fun hc=>?_) | refine xs_geq rfl rfl (fun hc=>?_) (fun hc=>?_) | fail)
 all_goals first | exact tret1 rfl rfl ⟨bool_t (acLt_iff a b) (by omega),hE⟩ | exact tret1 rfl rfl ⟨bool_f (acLt_iff a b) (by omega),hE⟩
def needsP (l : List Ac) : Bool:=!(l.any fun a=>decide (a.kind = 3)) && decide (l ≠ [])
theorem rneeds_does (w : World) (v : Value) (l : List Ac) (hv : Rw acC w v l) : Does Tryz.prog 143 #[v] w fun r w'=>r = .bool (needsP l) ∧ w = w':=by
 refine does1 Tryz.func143 rfl (by kernel_rfl) ?_
 obtain ⟨A,c,rfl,hc1,hc2,hA⟩:=hv.op acC_len
 unfold needsP
 refine goL ?_
 refine tloop (α:=Nat) (fun i=>[(0,.slice A l.length c),(3,.int .i64 (i : Int))]) (fun i w'=>w = w' ∧ i ≤ l.length ∧ ((l.drop i).any fun a=>decide (a.kind = 3)) = l.any fun a=>decide (a.kind = 3)) (fun i=>l.length - i) 0 (sub ⟨rfl,rfl⟩) ⟨rfl,Nat.zero_le _,rfl⟩ ?_
 rintro i w' ⟨rfl,hi,hgo⟩
 by_cases hlt : i < l.length
 ·obtain ⟨b,o,x,rfl,_,hx,hdr,hcell⟩:=hA.at_ hlt
  rw [hdr,List.any_cons] at hgo
  have k0 : w.cell? ⟨b,o + i * 3 + 0,none⟩ = some (.int .i64 x.kind):=hcell 0 _ rfl
  by_cases h : x.kind = 3
  ·rw [decide_eq_true h,Bool.true_or] at hgo
   refine gz8 ?_
   exact tret1 rfl rfl ⟨by rw [← hgo];rfl,rfl⟩
  ·rw [decide_eq_false h,Bool.false_or] at hgo
   refine gz8 ?_
   exact y26
 ·obtain rfl : i = l.length:=by omega
  rw [List.drop_length] at hgo
  rw [← hgo]
  by_cases h0 : l.length = 0
  ·have e0 : l = []:=List.length_eq_zero_iff.1 h0
   refine goL ?_
   exact tret1 rfl rfl ⟨by simp [e0],rfl⟩
  ·have e0 : l ≠ []:=fun e=>h0 (by rw [e];rfl)
   refine goL ?_
   exact tret1 rfl rfl ⟨by simp [e0],rfl⟩
theorem aclOK_eq (l : List Ac) : aclOK l = (goodG acOK acLt none l && (decide (l.length ≤ 16) && !needsP l)):=by
 rw [aclOK,goodG_eq,needsP]
 cases decide (l.length ≤ 16) <;> cases l.all acOK <;> cases ascF acLt none l <;> by_cases h : l = [] <;> simp [h]
theorem raclmay_does (w : World) (v : Value) (l : List Ac) (hv : Rw acC w v l) : Does Tryz.prog 109 #[v] w fun r w'=>r = .bool (aclOK l) ∧ Ext w w':=by
 refine does1 Tryz.func109 rfl (by kernel_rfl) ?_
 obtain ⟨A,c,rfl,hc1,hc2,hA⟩:=hv.op acC_len
 rw [aclOK_eq]
 refine goL ?_
 refine tloop (α:=Nat) (fun i=>[(0,.slice A l.length c),(3,.int .i64 (i : Int))]) (fun i w'=>Ext w w' ∧ i ≤ l.length ∧ goodG acOK acLt (prevO l i) (l.drop i) = goodG acOK acLt none l) (fun i=>l.length - i) 0 (sub ⟨rfl,rfl⟩) ⟨Fr.refl _ _,Nat.zero_le _,rfl⟩ ?_
 rintro i w1 ⟨hE,hi,hgo⟩
 by_cases hlt : i < l.length
 ·obtain ⟨b,o,x,rfl,_,hx,hdr,hcell⟩:=hA.at_ hlt
  rw [goodG_step hx] at hgo
  have hxc : ∀ j u,(acC x)[j]? = some u → w1.drew.cell? ⟨b,o + i * 3 + j,none⟩ = some u:=fun j u hu=>hE.cell (hcell j u hu)
  refine gz8 ?_
  refine xldz (cs:=acC x) rfl rfl hxc ?_
  refine xcallE rfl rfl (race_does w1.drew x) (fun r w2 h2=>?_)
  obtain ⟨rfl,hE2⟩:=h2
  have hE02 : Ext w w2:=hE.d.t hE2
  cases hg : acOK x with
  | false=>
   rw [hg,Bool.false_and,Bool.false_and] at hgo
   refine goL ?_
   exact tret1 rfl rfl ⟨by rw [← hgo];rfl,hE02⟩
  | true=>
   rw [hg,Bool.true_and] at hgo
   cases i with
   | zero=>
    have hgo : goodG acOK acLt (prevO l (0 + 1)) (l.drop (0 + 1)) = goodG acOK acLt none l:=by simpa [prevO] using hgo
    refine goL ?_
    exact tfin ⟨0 + 1,sub ⟨rfl,rfl⟩,⟨hE02,by omega,hgo⟩,(by show l.length - (0 + 1) < l.length - 0;omega)⟩
   | succ k=>
    obtain ⟨y,hy⟩ : ∃ y,l[k]? = some y:=⟨_,List.getElem?_eq_getElem (by omega)⟩
    have hpy : prevO l (k + 1) = some y:=hy
    rw [hpy] at hgo
    dsimp only at hgo
    obtain ⟨b',o',y',e',_,hy',_,hcell'⟩:=hA.at_ (i:=k) (by omega)
    injection e' with e'
    injection e' with e1 e2
    subst e1;subst e2
    rw [hy] at hy'
    injection hy' with hy'
    subst hy'
    have hyc : ∀ j u,(acC y)[j]? = some u → w2.cell? ⟨b,o + k * 3 + j,none⟩ = some u:=fun j u hu=>hE02.cell (hcell' j u hu)
    have hxc2 : ∀ j u,(acC x)[j]? = some u → w2.cell? ⟨b,o + (k + 1) * 3 + j,none⟩ = some u:=fun j u hu=>hE2.cell (hxc j u hu)
    repeat' (first | refine xizq k (o + k * 3) rfl rfl rfl (by omega) rfl (by omega) ?_ | refine go1L ?_ | fail)
    refine xldz (cs:=acC y) rfl rfl hyc ?_
    repeat' (first | refine xizq (k + 1) (o + (k + 1) * 3) rfl rfl rfl rfl rfl hlt ?_ | refine go1L ?_ | fail)
    refine xldz (cs:=acC x) rfl rfl hxc2 ?_
    refine goL ?_
    refine xcallE rfl rfl (raceless_does w2 y x) (fun r w3 h3=>?_)
    obtain ⟨rfl,hE3⟩:=h3
    have hE03 : Ext w w3:=hE02.t hE3
    cases hlt2 : acLt y x with
    | false=>
     rw [hlt2,Bool.false_and] at hgo
     refine goL ?_
     exact tret1 rfl rfl ⟨by rw [← hgo];rfl,hE03⟩
    | true=>
     rw [hlt2,Bool.true_and] at hgo
     refine goL ?_
     exact y74
 ·obtain rfl : i = l.length:=by omega
  rw [List.drop_length] at hgo
  rw [← hgo]
  by_cases h16 : l.length ≤ 16
  ·rw [decide_eq_true h16,Bool.true_and]
   refine goL ?_
   refine xcallE rfl rfl (rneeds_does w1 _ l (hv.ext hE)) (fun r w2 h2=>?_)
   obtain ⟨rfl,rfl⟩:=h2
   cases hm : needsP l with
   | true=>
    exact y42
   | false=>
    exact y42
  ·rw [decide_eq_false h16]
   exact y42
theorem rattr_does (w : World) (a : Att) : Does Tryz.prog 108 #[.agg (attC a).toArray] w fun r w'=>r = .bool (attOK a) ∧ Ext w w':=by
 refine does1 Tryz.func108 rfl (by kernel_rfl) ?_
 refine goL ?_
 refine xbox rfl (fun w1 hB1 hE1 hs1=>?_)
 have hB : Blk w1 w.heap.size 78 #[.string (su a.name),.string (su a.value)]:=hB1
 have k0 : w1.cell? ⟨w.heap.size,0,none⟩ = some (.string (su a.name)):=hB.cell 0
 have k1 : w1.cell? ⟨w.heap.size,1,none⟩ = some (.string (su a.value)):=hB.cell 1
 repeat' (first | refine xuln1 rfl rfl ?_ | refine xuln rfl rfl ?_ | refine go1L ?_ | refine xs_eql rfl rfl (fun hc=>?_) (fun hc=>?_) | refine xs_neq rfl rfl (fun hc=>?_) (fun hc=>?_) | refine xs_lss rfl rfl (fun hc=>?_) (fun hc=>?_) | refine xs_leq rfl rfl (fun hc=>?_) (fun hc=>?_) | refine xs_gtr rfl rfl (fun hc=>?_) (fun hc=>?_) | refine xs_geq rfl rfl (fun hc=>?_) (fun hc=>?_) | fail)
 all_goals first | exact tret1 rfl rfl ⟨bool_t (attOK_iff a) (by omega),hE1⟩ | exact tret1 rfl rfl ⟨bool_f (attOK_iff a) (by omega),hE1⟩
theorem bl_leq (a b : Str) : (Op.bytesLess a b || decide (a = b)) = !Op.bytesLess b a:=by
 by_cases e : a = b
 ·subst e;simp [bl_irr]
 ·rcases bl_tri a b e with h | h
  ·rw [h,bl_asym h];rfl
  ·rw [h,bl_asym h];simp [e]
def metaR (n : Nd) : Bool:=decide (0 ≤ n.mode) && decide (n.mode ≤ 4095) && idOK n.uid && idOK n.gid && decide (0 ≤ n.time) && decide (n.attrs.length ≤ 8)
theorem metaOK_eq2 (n : Nd) : metaOK n = (goodG attOK attLt none n.attrs && (metaR n && aclOK n.acl)):=by
 rw [metaOK_eq,metaR]
 cases goodG attOK attLt none n.attrs <;> simp [Bool.and_assoc]
theorem metaR_iff (n : Nd) : metaR n = true ↔ 0 ≤ n.mode ∧ n.mode ≤ 4095 ∧ 0 ≤ n.uid ∧ n.uid ≤ 2147483647 ∧ 0 ≤ n.gid ∧ n.gid ≤ 2147483647 ∧ 0 ≤ n.time ∧ n.attrs.length ≤ 8:=by
 simp only [metaR,idOK,Bool.and_eq_true,decide_eq_true_eq,and_assoc]
theorem metaR_no {n : Nd} (q : Bool) (h : ¬ (0 ≤ n.mode ∧ n.mode ≤ 4095 ∧ 0 ≤ n.uid ∧ n.uid ≤ 2147483647 ∧ 0 ≤ n.gid ∧ n.gid ≤ 2147483647 ∧ 0 ≤ n.time ∧ n.attrs.length ≤ 8)) : Value.bool false = .bool (metaR n && q):=by
 cases hm : metaR n with
 | false=>rfl
 | true=>exact absurd ((metaR_iff n).1 hm) h
theorem rmetamay_does (w : World) (x : NdV) (hx : NdIn w x) : Does Tryz.prog 80 #[.agg (mtC x).toArray] w fun r w'=>r = .bool (metaOK x.n) ∧ Ext w w':=by
 refine does1 Tryz.func80 rfl (by kernel_rfl) ?_
 rw [metaOK_eq2]
 refine goL ?_
 refine xbox rfl (fun w1 hB1 hE1 hs1=>?_)
 have hB : Blk w1 w.heap.size 44 #[.int .i64 x.n.mode,.int .i64 x.n.uid,.int .i64 x.n.gid,.int .i64 x.n.time,x.va,x.vc]:=hB1
 obtain ⟨A,c,eva,hc1,hc2,hA⟩:=hx.a.op attC_len
 have k4 : w1.cell? ⟨w.heap.size,4,none⟩ = some (.slice A x.n.attrs.length c):=by rw [← eva];exact hB.cell 4
 obtain ⟨l,hl⟩ : ∃ l,l = x.n.attrs:=⟨_,rfl⟩
 rw [← hl] at hA hc1 k4 ⊢
 refine goL ?_
 refine tloop (α:=Nat) (fun i=>[(1,.pointer (some ⟨w.heap.size,0,none⟩)),(3,.int .i64 (i : Int))]) (fun i w'=>Ext w1 w' ∧ i ≤ l.length ∧ goodG attOK attLt (prevO l i) (l.drop i) = goodG attOK attLt none l) (fun i=>l.length - i) 0 (sub ⟨rfl,rfl⟩) ⟨Fr.refl _ _,Nat.zero_le _,rfl⟩ ?_
 rintro i w2 ⟨hE2,hi,hgo⟩
 have m4 : w2.cell? ⟨w.heap.size,4,none⟩ = some (.slice A l.length c):=hE2.cell k4
 have m4' : w2.drew.cell? ⟨w.heap.size,4,none⟩ = some (.slice A l.length c):=m4
 by_cases hlt : i < l.length
 ·obtain ⟨b,o,y,rfl,_,hy,hdr,hcell⟩:=hA.at_ hlt
  rw [goodG_step hy] at hgo
  have hyc : ∀ j u,(attC y)[j]? = some u → w2.drew.cell? ⟨b,o + i * 2 + j,none⟩ = some u:=fun j u hu=>hE2.cell (hE1.cell (hcell j u hu))
  refine gz4 ?_
  refine xldz (cs:=attC y) rfl rfl hyc ?_
  refine xcallE rfl rfl (rattr_does w2.drew y) (fun r w3 h3=>?_)
  obtain ⟨rfl,hE3⟩:=h3
  have hE03 : Ext w1 w3:=hE2.d.t hE3
  cases hgd : attOK y with
  | false=>
   rw [hgd,Bool.false_and,Bool.false_and] at hgo
   refine goL ?_
   exact y53
  | true=>
   rw [hgd,Bool.true_and] at hgo
   cases i with
   | zero=>
    have hgo : goodG attOK attLt (prevO l (0 + 1)) (l.drop (0 + 1)) = goodG attOK attLt none l:=by simpa [prevO] using hgo
    refine goL ?_
    exact tfin ⟨0 + 1,sub ⟨rfl,rfl⟩,⟨hE03,by omega,hgo⟩,(by show l.length - (0 + 1) < l.length - 0;omega)⟩
   | succ k=>
    obtain ⟨z,hz⟩ : ∃ z,l[k]? = some z:=⟨_,List.getElem?_eq_getElem (by omega)⟩
    have hpz : prevO l (k + 1) = some z:=hz
    rw [hpz] at hgo
    dsimp only at hgo
    obtain ⟨b',o',z',e',_,hz',_,hcell'⟩:=hA.at_ (i:=k) (by omega)
    injection e' with e'
    injection e' with e1 e2
    subst e1;subst e2
    rw [hz] at hz'
    injection hz' with hz'
    subst hz'
    have n4 : w3.cell? ⟨w.heap.size,4,none⟩ = some (.slice (some ⟨b,o,none⟩) l.length c):=hE03.cell k4
    have n1 : w3.cell? ⟨b,o + k * 2 + 0,none⟩ = some (.string (su z.name)):=hE03.cell (hE1.cell (hcell' 0 _ rfl))
    have n2 : w3.cell? ⟨b,o + (k + 1) * 2 + 0,none⟩ = some (.string (su y.name)):=hE03.cell (hE1.cell (hcell 0 _ rfl))
    cases hlt2 : attLt z y with
    | false=>
     rw [hlt2,Bool.false_and] at hgo
     have hb : Op.bytesLess z.name y.name = false:=hlt2
     repeat' (first | refine xizq (k + 1) (o + (k + 1) * 2) rfl rfl rfl rfl rfl hlt ?_ | refine xizq k (o + k * 2) rfl rfl rfl (by omega) rfl (by omega) ?_ | refine xucmp (op:=.leq) (r:=true) rfl rfl (by rw [cmpU,bl_leq,hb];rfl) ?_ | refine go1L ?_ | fail)
     exact y53
    | true=>
     rw [hlt2,Bool.true_and] at hgo
     have hb : Op.bytesLess z.name y.name = true:=hlt2
     repeat' (first | refine xizq (k + 1) (o + (k + 1) * 2) rfl rfl rfl rfl rfl hlt ?_ | refine xizq k (o + k * 2) rfl rfl rfl (by omega) rfl (by omega) ?_ | refine xucmp (op:=.leq) (r:=false) rfl rfl (by rw [cmpU,bl_leq,hb];rfl) ?_ | refine go1L ?_ | fail)
     exact y74
 ·have hil : i = l.length:=by omega
  subst hil
  rw [List.drop_length] at hgo
  rw [← hgo]
  show T Tryz.prog _ (fun r w'=>r = .bool (metaR x.n && aclOK x.n.acl) ∧ Ext w w') _ _ _
  have m0 : w2.cell? ⟨w.heap.size,0,none⟩ = some (.int .i64 x.n.mode):=(hB.ext hE2).cell 0
  have m1 : w2.cell? ⟨w.heap.size,1,none⟩ = some (.int .i64 x.n.uid):=(hB.ext hE2).cell 1
  have m2 : w2.cell? ⟨w.heap.size,2,none⟩ = some (.int .i64 x.n.gid):=(hB.ext hE2).cell 2
  have m3 : w2.cell? ⟨w.heap.size,3,none⟩ = some (.int .i64 x.n.time):=(hB.ext hE2).cell 3
  have m5 : w2.cell? ⟨w.heap.size,5,none⟩ = some x.vc:=(hB.ext hE2).cell 5
  have hEE:=hE1.t hE2
  by_cases hq : 0 ≤ x.n.mode ∧ x.n.mode ≤ 4095 ∧ 0 ≤ x.n.uid ∧ x.n.uid ≤ 2147483647 ∧ 0 ≤ x.n.gid ∧ x.n.gid ≤ 2147483647 ∧ 0 ≤ x.n.time ∧ x.n.attrs.length ≤ 8
  ·rw [(metaR_iff x.n).2 hq,Bool.true_and]
   have hq8:=hq
   rw [← hl] at hq8
   refine goL ?_
   refine xcallE rfl rfl (raclmay_does w2 x.vc x.n.acl (hx.c.ext hEE)) (fun r w3 h3=>?_)
   obtain ⟨rfl,hE3⟩:=h3
   refine goL ?_
   exact tret1 rfl rfl ⟨rfl,hEE.t hE3⟩
  ·have hq8:=hq
   rw [← hl] at hq8
   repeat' (first | refine go1L ?_ | refine xs_eql rfl rfl (fun hc=>?_) (fun hc=>?_) | refine xs_neq rfl rfl (fun hc=>?_) (fun hc=>?_) | refine xs_lss rfl rfl (fun hc=>?_) (fun hc=>?_) | refine xs_leq rfl rfl (fun hc=>?_) (fun hc=>?_) | refine xs_gtr rfl rfl (fun hc=>?_) (fun hc=>?_) | refine xs_geq rfl rfl (fun hc=>?_) (fun hc=>?_) | fail)
   all_goals first | exact tret1 rfl rfl ⟨metaR_no _ hq,hEE⟩ | (exfalso;omega)
end
end Go.Proofs.YtbpmlbjapapoaaaGreatDoor.Eng
