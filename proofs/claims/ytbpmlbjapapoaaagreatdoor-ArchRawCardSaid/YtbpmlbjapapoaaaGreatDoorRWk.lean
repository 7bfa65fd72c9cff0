/-
  Parts of the proof: Wk.
-/
import Derived.Test.YtbpmlbjapapoaaaGreatDoorRB5
set_option maxRecDepth 100000
set_option maxHeartbeats 64000000
namespace Go.Proofs.YtbpmlbjapapoaaaGreatDoor.Eng
open Go.RowKit
section
attribute [local irreducible] xs T
theorem sixb_does (w : World) (l : Str) (c : UInt8) : Does Tryz.prog 78 #[.string (su l),.int .u8 (c.toNat : Int)] w fun r w'=>r = .int .i64 (idxI l c) ∧ w = w':=by
 refine does2 Tryz.func78 rfl (by kernel_rfl) ?_
 refine goL ?_
 refine xcall rfl rfl (ixb_does w l c) (fun r w1 h1=>?_)
 exact y16
theorem idx0 (l : Str) : idxI l 0 < 0 ↔ (l.all fun c=>decide (c ≠ 0)) = true:=by
 unfold idxI
 cases h : l.findIdx? (· == 0) with
 | none=>
  rw [List.findIdx?_eq_none_iff] at h
  refine ⟨fun _=>List.all_eq_true.2 fun c hc=>?_,fun _=>by dsimp only;omega⟩
  have:=h c hc
  simpa using this
 | some i=>
  obtain ⟨hi,h1,h2⟩:=List.findIdx?_eq_some_iff_getElem.1 h
  refine ⟨fun h=>by dsimp only at h;omega,fun h=>?_⟩
  have:=List.all_eq_true.1 h l[i] (List.getElem_mem hi)
  simp at h1 this
  exact absurd h1 this
theorem nodemay_does (w : World) (x : NdV) (hx : NdIn w x) (hb : bytesP x.n.data ≤ 1000000) : Does Tryz.prog 46 #[.agg (ndC x).toArray] w fun r w'=>r = .bool (nodeOK x.n) ∧ Ext w w':=by
 refine does1 Tryz.func46 rfl (by kernel_rfl) ?_
 refine goL ?_
 refine xbox rfl (fun w1 hB1 hE1 hs1=>?_)
 have hB : Blk w1 w.heap.size 47 (ndC x).toArray:=hB1
 obtain ⟨A,c,evd,hc1,hc2,hA⟩:=hx.d.op pcC_len
 have k0 : w1.cell? ⟨w.heap.size,0,none⟩ = some (.int .i64 x.n.kind):=hB.cell 0
 have hmt : ∀ j u,(mtC x)[j]? = some u → w1.cell? ⟨w.heap.size,0 + 1 + j,none⟩ = some u:=fun j u hu=>by rw [Nat.zero_add,hB.cell];exact mt_get hu
 by_cases hk0 : ¬ 1 ≤ x.n.kind
 ·exact y59
 have hk0 : 1 ≤ x.n.kind:=by omega
 by_cases hk1 : ¬ x.n.kind ≤ 6
 ·exact y59
 have hk1 : x.n.kind ≤ 6:=by omega
 refine goL ?_
 refine xldz (cs:=mtC x) rfl rfl hmt ?_
 refine goL ?_
 refine xcallE rfl rfl (metamay_does w1 x (hx.ext hE1)) (fun r w2 h2=>?_)
 obtain ⟨rfl,hE2⟩:=h2
 have hE:=hE1.t hE2
 unfold nodeOK
 cases hm : metaOK x.n with
 | false=>
  exact y30
 | true=>
 rw [Bool.true_and]
 have hB2 : Blk w2 w.heap.size 47 (ndC x).toArray:=hB.ext hE2
 have k0 : w2.cell? ⟨w.heap.size,0,none⟩ = some (.int .i64 x.n.kind):=hB2.cell 0
 have k7 : w2.cell? ⟨w.heap.size,7,none⟩ = some (.int .i64 x.n.size):=hB2.cell 7
 have k8 : w2.cell? ⟨w.heap.size,8,none⟩ = some (.slice A x.n.data.length c):=by rw [← evd];exact hB2.cell 8
 have k9 : w2.cell? ⟨w.heap.size,9,none⟩ = some (.string (su x.n.target)):=hB2.cell 9
 have k10 : w2.cell? ⟨w.heap.size,10,none⟩ = some (.int .i64 x.n.major):=hB2.cell 10
 have k11 : w2.cell? ⟨w.heap.size,11,none⟩ = some (.int .i64 x.n.minor):=hB2.cell 11
 have hd0 : x.n.data.length = 0 ↔ x.n.data = []:=List.length_eq_zero_iff
 have ud : noData x.n = true ↔ x.n.size = 0 ∧ x.n.data.length = 0:=by simp only [noData,Bool.and_eq_true,decide_eq_true_eq,hd0]
 have ut : noText x.n = decide (x.n.target = []):=rfl
 have uv : noDev x.n = true ↔ x.n.major = 0 ∧ x.n.minor = 0:=by simp only [noDev,Bool.and_eq_true,decide_eq_true_eq]
 by_cases g2 : x.n.kind = 2
 ·rw [if_neg (by omega),if_pos g2]
  by_cases ht : x.n.target = []
  ·rw [ut,decide_eq_true ht]
   by_cases hv : x.n.major = 0
   ·by_cases hv2 : x.n.minor = 0
    ·rw [uv.2 ⟨hv,hv2⟩,Bool.and_true,Bool.and_true]
     refine gz9 ?_
     refine xlda (t:=47) hB2 rfl rfl ?_
     refine goL ?_
     refine xcallE rfl rfl (mayfile_does w2 x (hx.ext hE) hb) (fun r w3 h3=>?_)
     obtain ⟨rfl,hE3⟩:=h3
     exact y19
    ·refine gz9 ?_
     exact tret1 rfl rfl ⟨by simp [noDev,hv2],hE⟩
   ·refine gz9 ?_
    exact tret1 rfl rfl ⟨by simp [noDev,hv],hE⟩
  ·repeat' (first | refine xucmp (op:=.neq) (b:=[]) (r:=true) rfl rfl (by simp [cmpU,ht]) ?_ | refine go1L ?_ | fail)
   exact tret1 rfl rfl ⟨by simp [noText,ht],hE⟩
 by_cases hz : ¬ x.n.size = 0
 ·have e : noData x.n = false:=by simp [noData,hz]
  repeat' (first | refine go1L ?_ | refine xs_eql rfl rfl (fun hc=>?_) (fun hc=>?_) | refine xs_neq rfl rfl (fun hc=>?_) (fun hc=>?_) | refine xs_lss rfl rfl (fun hc=>?_) (fun hc=>?_) | refine xs_leq rfl rfl (fun hc=>?_) (fun hc=>?_) | refine xs_gtr rfl rfl (fun hc=>?_) (fun hc=>?_) | refine xs_geq rfl rfl (fun hc=>?_) (fun hc=>?_) | fail)
  all_goals
   refine tret1 rfl rfl ⟨?_,hE⟩
   rw [if_neg g2,e]
   simp
 have hz : x.n.size = 0:=by omega
 by_cases hl : ¬ x.n.data.length = 0
 ·have e : noData x.n = false:=by simp only [noData,decide_eq_false (fun e=>hl (hd0.2 e)),Bool.and_false]
  repeat' (first | refine go1L ?_ | refine xs_eql rfl rfl (fun hc=>?_) (fun hc=>?_) | refine xs_neq rfl rfl (fun hc=>?_) (fun hc=>?_) | refine xs_lss rfl rfl (fun hc=>?_) (fun hc=>?_) | refine xs_leq rfl rfl (fun hc=>?_) (fun hc=>?_) | refine xs_gtr rfl rfl (fun hc=>?_) (fun hc=>?_) | refine xs_geq rfl rfl (fun hc=>?_) (fun hc=>?_) | fail)
  all_goals
   refine tret1 rfl rfl ⟨?_,hE⟩
   rw [if_neg g2,e]
   simp
 have hl : x.n.data.length = 0:=by omega
 rw [if_neg g2,ud.2 ⟨hz,hl⟩]
 simp only [Bool.true_and]
 by_cases g3 : x.n.kind = 3
 ·rw [if_neg (by omega),if_pos g3]
  by_cases hv : x.n.major = 0
  ·by_cases hv2 : x.n.minor = 0
   ·rw [uv.2 ⟨hv,hv2⟩,Bool.true_and]
    by_cases t1 : 1 ≤ x.n.target.length
    ·by_cases t2 : x.n.target.length ≤ 200
     ·rw [decide_eq_true t1,decide_eq_true t2,Bool.true_and,Bool.true_and]
      have hi:=idx0 x.n.target
      refine gz2 ?_
      refine xcallE rfl rfl (sixb_does w2 x.n.target 0) (fun r w3 h3=>?_)
      obtain ⟨rfl,rfl⟩:=h3
      cases ha : (x.n.target.all fun c=>decide (c ≠ 0)) with
      | true=>
       have hi:=hi.2 ha
       refine goL ?_
       exact y6
      | false=>
       have hi : ¬ idxI x.n.target 0 < 0:=fun h=>by rw [hi.1 h] at ha;cases ha
       refine goL ?_
       exact y6
     ·refine gz2 ?_
      exact tret1 rfl rfl ⟨by simp [t2],hE⟩
    ·refine gz2 ?_
     exact tret1 rfl rfl ⟨by simp [t1],hE⟩
   ·refine goL ?_
    exact tret1 rfl rfl ⟨by simp [noDev,hv2],hE⟩
  ·refine goL ?_
   exact tret1 rfl rfl ⟨by simp [noDev,hv],hE⟩
 rw [if_neg g3]
 by_cases ht : ¬ x.n.target = []
 ·repeat' (first | refine xucmp (op:=.neq) (b:=[]) (r:=true) rfl rfl (by simp [cmpU,ht]) ?_ | refine go1L ?_ | refine xs_eql rfl rfl (fun hc=>?_) (fun hc=>?_) | refine xs_neq rfl rfl (fun hc=>?_) (fun hc=>?_) | refine xs_lss rfl rfl (fun hc=>?_) (fun hc=>?_) | refine xs_leq rfl rfl (fun hc=>?_) (fun hc=>?_) | refine xs_gtr rfl rfl (fun hc=>?_) (fun hc=>?_) | refine xs_geq rfl rfl (fun hc=>?_) (fun hc=>?_) | fail)
  all_goals
   refine tret1 rfl rfl ⟨?_,hE⟩
   rw [ut,decide_eq_false ht]
   simp
 have ht : x.n.target = []:=Decidable.not_not.1 ht
 rw [ut,decide_eq_true ht]
 simp only [Bool.true_and]
 by_cases g4 : x.n.kind = 4 ∨ x.n.kind = 5
 ·rw [if_neg (by omega),if_pos g4]
  have hq : (decide (0 ≤ x.n.major) && decide (x.n.major ≤ 65535) && decide (0 ≤ x.n.minor) && decide (x.n.minor ≤ 65535)) = true ↔ 0 ≤ x.n.major ∧ x.n.major ≤ 65535 ∧ 0 ≤ x.n.minor ∧ x.n.minor ≤ 65535:=by simp only [Bool.and_eq_true,decide_eq_true_eq,and_assoc]
  rcases g4 with g4 | g4
  ·repeat' (first | refine xucmp (op:=.neq) (b:=[]) (r:=false) rfl rfl (by simp [cmpU,ht]) ?_ | refine go1L ?_ | refine xs_eql rfl rfl (fun hc=>?_) (fun hc=>?_) | refine xs_neq rfl rfl (fun hc=>?_) (fun hc=>?_) | refine xs_lss rfl rfl (fun hc=>?_) (fun hc=>?_) | refine xs_leq rfl rfl (fun hc=>?_) (fun hc=>?_) | refine xs_gtr rfl rfl (fun hc=>?_) (fun hc=>?_) | refine xs_geq rfl rfl (fun hc=>?_) (fun hc=>?_) | fail)
   all_goals first | exact tret1 rfl rfl ⟨bool_t hq (by omega),hE⟩ | exact tret1 rfl rfl ⟨bool_f hq (by omega),hE⟩
  ·repeat' (first | refine xucmp (op:=.neq) (b:=[]) (r:=false) rfl rfl (by simp [cmpU,ht]) ?_ | refine go1L ?_ | refine xs_eql rfl rfl (fun hc=>?_) (fun hc=>?_) | refine xs_neq rfl rfl (fun hc=>?_) (fun hc=>?_) | refine xs_lss rfl rfl (fun hc=>?_) (fun hc=>?_) | refine xs_leq rfl rfl (fun hc=>?_) (fun hc=>?_) | refine xs_gtr rfl rfl (fun hc=>?_) (fun hc=>?_) | refine xs_geq rfl rfl (fun hc=>?_) (fun hc=>?_) | fail)
   all_goals first | exact tret1 rfl rfl ⟨bool_t hq (by omega),hE⟩ | exact tret1 rfl rfl ⟨bool_f hq (by omega),hE⟩
 ·rw [if_pos (by omega)]
  by_cases hv : x.n.major = 0
  ·by_cases hv2 : x.n.minor = 0
   ·rw [uv.2 ⟨hv,hv2⟩]
    refine gz9 ?_
    exact y6
   ·refine gz9 ?_
    exact tret1 rfl rfl ⟨by simp [noDev,hv2],hE⟩
  ·refine gz9 ?_
   exact tret1 rfl rfl ⟨by simp [noDev,hv],hE⟩
end
end Go.Proofs.YtbpmlbjapapoaaaGreatDoor.Eng
