/-
  Parts of the proof: Wm.
-/
import Derived.Test.YtbpmlbjapapoaaaGreatDoorRWi
import Derived.Test.YtbpmlbjapapoaaaGreatDoorRWk
set_option maxRecDepth 100000
set_option maxHeartbeats 64000000
namespace Go.Proofs.YtbpmlbjapapoaaaGreatDoor.Eng
open Go.RowKit
section
attribute [local irreducible] xs T
theorem rnodemay_does (w : World) (x : NdV) (hx : NdIn w x) (hb : bytesP x.n.data ≤ 1000000) (htl : x.n.target.length ≤ 1000000) : Does Tryz.prog 52 #[.agg (ndC x).toArray] w fun r w'=>r = .bool (nodeOK x.n) ∧ Ext w w':=by
 refine does1 Tryz.func52 rfl (by kernel_rfl) ?_
 refine goL ?_
 refine xbox rfl (fun w1 hB1 hE1 hs1=>?_)
 have hB : Blk w1 w.heap.size 47 (ndC x).toArray:=hB1
 obtain ⟨A,c,evd,hc1,hc2,hA⟩:=hx.d.op pcC_len
 have hmt : ∀ j u,(mtC x)[j]? = some u → w1.cell? ⟨w.heap.size,0 + 1 + j,none⟩ = some u:=fun j u hu=>by rw [Nat.zero_add,hB.cell];exact mt_get hu
 refine goL ?_
 refine xldz (cs:=mtC x) rfl rfl hmt ?_
 refine xcallE rfl rfl (rmetamay_does w1 x (hx.ext hE1)) (fun r w2 h2=>?_)
 obtain ⟨rfl,hE2⟩:=h2
 have hE:=hE1.t hE2
 unfold nodeOK
 cases hm : metaOK x.n with
 | false=>
  exact y30
 | true=>
 rw [Bool.true_and]
 have hB2 : Blk w2 w.heap.size 47 (ndC x).toArray:=hB.ext hE2
 have k0 : w2.cell? ⟨w.heap.size,0,none⟩ = some (.int .i64 x.n.kind):=hB2.cell 0
 have k7 : w2.cell? ⟨w.heap.size,7,none⟩ = some (.int .i64 x.n.size):=hB2.cell 7
 have k8 : w2.cell? ⟨w.heap.size,8,none⟩ = some (.slice A x.n.data.length c):=by rw [← evd];exact hB2.cell 8
 have k9 : w2.cell? ⟨w.heap.size,9,none⟩ = some (.string (su x.n.target)):=hB2.cell 9
 have k10 : w2.cell? ⟨w.heap.size,10,none⟩ = some (.int .i64 x.n.major):=hB2.cell 10
 have k11 : w2.cell? ⟨w.heap.size,11,none⟩ = some (.int .i64 x.n.minor):=hB2.cell 11
 have hd0 : x.n.data.length = 0 ↔ x.n.data = []:=List.length_eq_zero_iff
 refine gz1 ?_
 refine tcut (α:=Unit) (fun _=>[(1,.pointer (some ⟨w.heap.size,0,none⟩)),(3,.bool (noData x.n))]) (fun _ w'=>w2 = w') ?_ ?_
 ·by_cases hz : x.n.size = 0
  ·by_cases hl : x.n.data.length = 0
   ·have e : noData x.n = true:=by simp only [noData,decide_eq_true hz,decide_eq_true (hd0.1 hl),Bool.and_self]
    rw [e]
    exact y31
   ·have e : noData x.n = false:=by simp only [noData,decide_eq_false (fun e=>hl (hd0.2 e)),Bool.and_false]
    rw [e]
    exact y31
  ·have e : noData x.n = false:=by simp only [noData,decide_eq_false hz,Bool.false_and]
   rw [e]
   exact y31
 rintro _ _ rfl
 refine gz1 ?_
 refine tcut (α:=Unit) (fun _=>[(1,.pointer (some ⟨w.heap.size,0,none⟩)),(3,.bool (noData x.n)),(4,.bool (noText x.n))]) (fun _ w'=>w2 = w') ?_ ?_
 ·repeat' (first | refine xucmp (op:=.eql) (b:=[]) rfl rfl rfl ?_ | refine go1L ?_ | fail)
  exact tfin ⟨(),sub ⟨rfl,rfl,rfl⟩,rfl⟩
 rintro _ _ rfl
 refine gz1 ?_
 refine tcut (α:=Unit) (fun _=>[(1,.pointer (some ⟨w.heap.size,0,none⟩)),(3,.bool (noData x.n)),(4,.bool (noText x.n)),(5,.bool (noDev x.n))]) (fun _ w'=>w2 = w') ?_ ?_
 ·by_cases hv : x.n.major = 0
  ·by_cases hv2 : x.n.minor = 0
   ·have e : noDev x.n = true:=by simp only [noDev,decide_eq_true hv,decide_eq_true hv2,Bool.and_self]
    exact y48
   ·have e : noDev x.n = false:=by simp only [noDev,decide_eq_false hv2,Bool.and_false]
    exact y48
  ·have e : noDev x.n = false:=by simp only [noDev,decide_eq_false hv,Bool.false_and]
   exact y48
 rintro _ _ rfl
 generalize hp : noData x.n = p
 generalize hq : noText x.n = q
 generalize hs : noDev x.n = s
 clear hp hq hs
 by_cases g1 : x.n.kind = 1 ∨ x.n.kind = 6
 ·rw [if_pos g1]
  rcases g1 with g1 | g1
  ·cases p with
   | false=>
    refine goL ?_
    exact y6
   | true=>
   cases q with
   | false=>
    refine goL ?_
    exact y6
   | true=>
   cases s with
   | false=>
    refine goL ?_
    exact y6
   | true=>
    refine goL ?_
    exact y6
  ·cases p with
   | false=>
    refine goL ?_
    exact y6
   | true=>
   cases q with
   | false=>
    refine goL ?_
    exact y6
   | true=>
   cases s with
   | false=>
    refine goL ?_
    exact y6
   | true=>
    refine goL ?_
    exact y6
 rw [if_neg g1]
 by_cases g2 : x.n.kind = 2
 ·rw [if_pos g2]
  refine goL ?_
  refine xlda (t:=47) hB2 rfl rfl ?_
  refine goL ?_
  refine xcallE rfl rfl (rdata_does w2 x (hx.ext hE) hb) (fun r w3 h3=>?_)
  obtain ⟨rfl,hE3⟩:=h3
  generalize fileOK x.n = f
  cases f with
  | false=>
   exact y19
  | true=>
  cases q with
  | false=>
   exact y19
  | true=>
  cases s with
  | false=>
   exact y19
  | true=>
   exact y19
 rw [if_neg g2]
 by_cases g3 : x.n.kind = 3
 ·rw [if_pos g3]
  obtain ⟨l,hl⟩ : ∃ l,l = x.n.target:=⟨_,rfl⟩
  rw [← hl] at k9 htl ⊢
  refine goL ?_
  refine tloop (α:=Nat) (fun i=>[(1,.pointer (some ⟨w.heap.size,0,none⟩)),(3,.bool p),(5,.bool s),(6,.int .i64 (i : Int))]) (fun i w'=>w2 = w' ∧ i ≤ l.length ∧ ((l.drop i).all fun c=>decide (c ≠ 0)) = l.all fun c=>decide (c ≠ 0)) (fun i=>l.length - i) 0 (sub ⟨rfl,rfl,rfl,rfl⟩) ⟨rfl,Nat.zero_le _,rfl⟩ ?_
  rintro i w3 ⟨rfl,hi,hgo⟩
  by_cases hlt : i < l.length
  ·obtain ⟨c,hc⟩ : ∃ c,l[i]? = some c:=⟨_,List.getElem?_eq_getElem hlt⟩
   rw [drop_get hc,List.all_cons] at hgo
   by_cases g : c = 0
   ·have e1 : ((c.toNat : Int)) = 0:=by rw [g];rfl
    refine gz3 ?_
    refine tret1 rfl rfl ⟨?_,hE⟩
    rw [← hgo,g]
    simp
   ·have e1 : ¬ ((c.toNat : Int)) = 0:=fun h=>g ((u8_eq (n:=0) (by decide)).1 h)
    rw [decide_eq_true g,Bool.true_and] at hgo
    refine gz3 ?_
    exact tfin ⟨i + 1,sub ⟨rfl,rfl,rfl,rfl⟩,⟨rfl,by omega,hgo⟩,(by show l.length - (i + 1) < l.length - i;omega)⟩
  ·obtain rfl : i = l.length:=by omega
   rw [List.drop_length] at hgo
   rw [← hgo,List.all_nil,Bool.and_true]
   cases p with
   | false=>
    refine gz2 ?_
    exact y6
   | true=>
   cases s with
   | false=>
    refine gz2 ?_
    exact y6
   | true=>
   by_cases t1 : 1 ≤ l.length
   ·by_cases t2 : l.length ≤ 200
    ·refine gz2 ?_
     exact tret1 rfl rfl ⟨by simp [t1,t2],hE⟩
    ·refine gz2 ?_
     exact tret1 rfl rfl ⟨by simp [t2],hE⟩
   ·refine gz2 ?_
    exact tret1 rfl rfl ⟨by simp [t1],hE⟩
 rw [if_neg g3]
 by_cases g4 : x.n.kind = 4 ∨ x.n.kind = 5
 ·rw [if_pos g4]
  have hq4 : (true && true && decide (0 ≤ x.n.major) && decide (x.n.major ≤ 65535) && decide (0 ≤ x.n.minor) && decide (x.n.minor ≤ 65535)) = true ↔ 0 ≤ x.n.major ∧ x.n.major ≤ 65535 ∧ 0 ≤ x.n.minor ∧ x.n.minor ≤ 65535:=by simp only [Bool.true_and,Bool.and_eq_true,decide_eq_true_eq,and_assoc]
  rcases g4 with g4 | g4
  ·cases p with
   | false=>
    exact y30
   | true=>
   cases q with
   | false=>
    exact y30
   | true=>
    repeat' (first | refine go1L ?_ | refine xs_eql rfl rfl (fun hc=>?_) (fun hc=>?_) | refine xs_neq rfl rfl (fun hc=>?_) (fun hc=>?_) | refine xs_lss rfl rfl (fun hc=>?_) (fun hc=>?_) | refine xs_leq rfl rfl (fun hc=>?_) (fun hc=>?_) | refine xs_gtr rfl rfl (fun hc=>?_) (fun hc=>?_) | refine xs_geq rfl rfl (fun hc=>?_) (fun hc=>?_) | fail)
    all_goals first | exact tret1 rfl rfl ⟨bool_t hq4 (by omega),hE⟩ | exact tret1 rfl rfl ⟨bool_f hq4 (by omega),hE⟩
  ·cases p with
   | false=>
    exact y30
   | true=>
   cases q with
   | false=>
    exact y30
   | true=>
    repeat' (first | refine go1L ?_ | refine xs_eql rfl rfl (fun hc=>?_) (fun hc=>?_) | refine xs_neq rfl rfl (fun hc=>?_) (fun hc=>?_) | refine xs_lss rfl rfl (fun hc=>?_) (fun hc=>?_) | refine xs_leq rfl rfl (fun hc=>?_) (fun hc=>?_) | refine xs_gtr rfl rfl (fun hc=>?_) (fun hc=>?_) | refine xs_geq rfl rfl (fun hc=>?_) (fun hc=>?_) | fail)
    all_goals first | exact tret1 rfl rfl ⟨bool_t hq4 (by omega),hE⟩ | exact tret1 rfl rfl ⟨bool_f hq4 (by omega),hE⟩
 ·rw [if_neg g4]
  refine goL ?_
  exact y6
end
end Go.Proofs.YtbpmlbjapapoaaaGreatDoor.Eng
