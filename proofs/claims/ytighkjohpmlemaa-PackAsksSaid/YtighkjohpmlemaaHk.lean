/-
  The law's examples (told), and the law short: what they return.
-/
import Derived.Test.YtighkjohpmlemaaHj
import Derived.Test.YtighkjohpmlemaaPa
namespace Go.Proofs.Ytighkjohpmlemaa
open Go.RowKit
namespace Eng

theorem IB.of {w : World} {b : Nat} {l : List Int} {a : Array Value} (h : Blk w b 3 a) (e : a = (l.map (Value.int .i64)).toArray) : IB w b l := by subst e; exact h
theorem UB.ext {w w' : World} {b : Nat} {l : List Int} (h : UB w b l) (hf : Ext w w') : UB w' b l := Blk.ext h hf
theorem UB.fr {S : Nat → Prop} {w w' : World} {b : Nat} {l : List Int} (h : UB w b l) (hf : Fr S w w') (hS : ¬ S b) : UB w' b l := Blk.fr h hf hS
theorem UB.cell {w : World} {b : Nat} {l : List Int} (h : UB w b l) {i : Nat} (hi : i < l.length) : w.cell? ⟨b, i, none⟩ = some (.int .u64 (l.getD i 0)) := by
  rw [Blk.cell h, List.getD_eq_getElem?_getD, List.getElem?_eq_getElem hi]
  simp [hi]
theorem IB.new' {w : World} {b : Nat} (l : List Int) {vs : List Value} (h : Blk w b 3 vs.toArray) (e : vs = l.map (Value.int .i64)) : IB w b l := by subst e; exact h
theorem BB.new' {w : World} {b : Nat} (l : List Int) {vs : List Value} (h : Blk w b 5 vs.toArray) (e : vs = l.map (Value.int .u8)) : BB w b l := by subst e; exact h

theorem ix0 (w : World) : IRow w (.slice none 0 0) [] := ⟨_, _, rfl, Nat.le_refl _, by unfold maxLen; omega, fun h => absurd h (by simp)⟩

set_option maxRecDepth 20000 in
set_option maxHeartbeats 8000000 in
theorem told_does (w : World) : Does Try.prog 14 #[] w fun r w' => r = .bool true ∧ Ext w w' := by
  refine does0 Try.func14 rfl ?_
  have l551 : lengthsB [5, 5, 1] = [2, 1, 2] := by decide +kernel
  have l07 : lengthsB [0, 7] = [0, 1] := by decide +kernel
  have c212 : codesB [2, 1, 2] = [2, 0, 3] := by decide +kernel
  refine wk ?_
  refine xbs sl_ints rfl rfl (by decide) (by decide) (fun u hu => by simp at hu; rcases hu with rfl | rfl | rfl <;> rfl) (fun w1 hB1 hE1 hs1 => ?_)
  have r1 := (IB.new' [5, 5, 1] hB1 rfl).row (by decide) 3 rfl
  refine xcall rfl rfl (lengths_does w1 _ [5, 5, 1] r1 (by decide +kernel)) (fun r w2 h2 => ?_)
  obtain ⟨ga, rfl, hga, hIa, hE2⟩ := h2
  rw [l551] at hIa
  refine wk ?_
  refine xbs sl_ints rfl rfl (by decide) (by decide) (fun u hu => by simp at hu; rcases hu with rfl | rfl <;> rfl) (fun w3 hB3 hE3 hs3 => ?_)
  have r3 := (IB.new' [0, 7] hB3 rfl).row (by decide) 2 rfl
  refine xcall rfl rfl (lengths_does w3 _ [0, 7] r3 (by decide +kernel)) (fun r w4 h4 => ?_)
  obtain ⟨gb, rfl, hgb, hIb, hE4⟩ := h4
  rw [l07] at hIb
  have hE : Ext w w4 := ((hE1.t hE2).t hE3).t hE4
  have hIa := (hIa.ext hE3).ext hE4
  clear hE1 hE2 hE3 hE4 hB1 hB3 r1 r3 hs1 hs3
  refine wk ?_
  refine xcall rfl rfl (lengths_no w4 _ [] ⟨_, _, rfl, Nat.le_refl _, by decide, fun h => absurd h (by simp)⟩ (by decide +kernel)) (fun r w5 h5 => ?_)
  obtain ⟨rfl, rfl⟩ := h5
  refine wk ?_
  refine xbs sl_ints rfl rfl (by decide) (by decide) (fun u hu => by simp at hu; rcases hu with rfl | rfl | rfl <;> rfl) (fun w5 hB5 hE5 hs5 => ?_)
  have r5 := (IB.new' [2, 1, 2] hB5 rfl).row (by decide) 3 rfl
  refine xcall rfl rfl (codes_does w5 _ [2, 1, 2] r5 (by decide +kernel)) (fun r w6 h6 => ?_)
  obtain ⟨gc, rfl, hgc, hUc, hE6⟩ := h6
  rw [c212] at hUc
  have hIa := (hIa.ext hE5).ext hE6
  have hIb := (hIb.ext hE5).ext hE6
  have hE := (hE.t hE5).t hE6
  clear hE5 hE6 hB5 r5 hs5
  refine wk ?_
  refine xalloc (z := .agg #[.pointer none, .int .u64 0, .int .i64 0]) (by kernel_rfl) (fun w7 hB7 hE7 hs7 => ?_)
  have ho := OutR.new hB7
  obtain ⟨go, hgo⟩ : ∃ g, g = w6.heap.size := ⟨_, rfl⟩
  rw [← hgo] at ho hs7 ⊢
  have ha := hIa.lt; have hb := hIb.lt; have hc := Blk.lt hUc
  have hIa := hIa.ext hE7
  have hIb := hIb.ext hE7
  have hUc := hUc.ext hE7
  have hE := hE.t hE7
  have hwg : w.heap.size ≤ go := by have := hE.size; rw [hgo]; have h0 : Ext w w6 := by assumption
                                    exact h0.size
  clear hE7 hB7
  refine wk ?_
  refine xbs sl_ints rfl rfl (by decide) (by decide) (fun u hu => by simp at hu; rcases hu with rfl | rfl | rfl <;> rfl) (fun w8 hB8 hE8 hs8 => ?_)
  have r8 := (IB.new' [2, 1, 2] hB8 rfl).row (by decide) 3 rfl
  refine xcall rfl rfl (hput_ok w8 go [] _ [2, 1, 2] 0 2 (ho.ext hE8) r8 (by simp [Value.ownBlock]; omega) (by decide +kernel) rfl (by decide) (by decide)) (fun r w9 h9 => ?_)
  obtain ⟨rfl, ho9, hF9⟩ := h9
  have hIa := (hIa.ext hE8).fr hF9 (by omega)
  have hIb := (hIb.ext hE8).fr hF9 (by omega)
  have hUc := (hUc.ext hE8).fr hF9 (by omega)
  have hE := Ext.te (hE.t hE8) hF9 (by intro j hj e; omega)
  clear hB8 r8 hE8 hF9
  refine wk ?_
  refine xbs sl_ints rfl rfl (by decide) (by decide) (fun u hu => by simp at hu; rcases hu with rfl | rfl | rfl <;> rfl) (fun w10 hB10 hE10 hs10 => ?_)
  have r10 := (IB.new' [2, 1, 2] hB10 rfl).row (by decide) 3 rfl
  refine xcall rfl rfl (hput_no w10 go _ [2, 1, 2] 3 r10 (by decide +kernel) (by decide) (by decide)) (fun r w11 h11 => ?_)
  obtain ⟨rfl, rfl⟩ := h11
  have hIa := hIa.ext hE10
  have hIb := hIb.ext hE10
  have hUc := hUc.ext hE10
  have hE := hE.t hE10
  have ho := ho9.ext hE10
  clear hB10 r10 hE10 ho9
  have hbb : ([] : List Nat) ++ bitsOf (codeB [2, 1, 2] 0) 2 = [1, 0] := by decide +kernel
  rw [hbb] at ho
  refine wk ?_
  refine xcall rfl rfl (bytes_does _ go [1, 0] ho (by decide)) (fun r w12 h12 => ?_)
  obtain ⟨bb, rfl, hbb2, hBB, hE12⟩ := h12
  have hpk : pk [1, 0] = [128] := by decide +kernel
  rw [hpk] at hBB ⊢
  have hIa := hIa.ext hE12
  have hIb := hIb.ext hE12
  have hUc := hUc.ext hE12
  have hE := hE.t hE12
  clear hE12 ho
  refine xcall rfl rfl (from_does w12 _ [128] (hBB.row (by decide)) (fun z hz => by simp at hz; omega) (by decide)) (fun r w13 h13 => ?_)
  obtain ⟨gi, rfl, hgi, hIn, hE13⟩ := h13
  have hIa := hIa.ext hE13
  have hIb := hIb.ext hE13
  have hUc := hUc.ext hE13
  have hE := hE.t hE13
  have hn1 : ga < gi := by have := hIa.lt; have := (‹IB w12 ga _›).lt; omega
  have hn2 : gb < gi := by have := (‹IB w12 gb _›).lt; omega
  have hn3 : gc < gi := by have := Blk.lt (‹UB w12 gc _›); omega
  have hn4 : w.heap.size ≤ gi := by have := (‹Ext w w12›).size; omega
  have hgl := hIn.lt
  clear hE13 hBB
  refine xbs sl_ints rfl rfl (by decide) (by decide) (fun u hu => by simp at hu; rcases hu with rfl | rfl | rfl <;> rfl) (fun w14 hB14 hE14 hs14 => ?_)
  have r14 := (IB.new' [2, 1, 2] hB14 rfl).row (by decide) 3 rfl
  refine xcall rfl rfl (hget_does w14 gi _ [2, 1, 2] [128] 0 (hIn.ext hE14) r14 (by simp [Value.ownBlock]; omega) (by decide +kernel) (by decide)) (fun r w15 h15 => ?_)
  obtain ⟨rfl, _, hF15⟩ := h15
  have hg1 : getB [2, 1, 2] [128] 0 = (0, 0, 2) := by decide +kernel
  rw [hg1]
  have hIa := (hIa.ext hE14).fr hF15 (by omega)
  have hIb := (hIb.ext hE14).fr hF15 (by omega)
  have hUc := (hUc.ext hE14).fr hF15 (by omega)
  have hE := Ext.te (hE.t hE14) hF15 (by intro j hj e; omega)
  clear hE14 hF15 hB14 r14 hIn
  refine wk ?_
  refine xbs sl_bytes rfl rfl (by decide) (by decide) (fun u hu => by simp at hu; subst hu; rfl) (fun w16 hB16 hE16 hs16 => ?_)
  have hBB := BB.new' [255] hB16 rfl
  refine xcall rfl rfl (from_does w16 _ [255] (hBB.row (by decide)) (fun z hz => by simp at hz; omega) (by decide)) (fun r w17 h17 => ?_)
  obtain ⟨gj, rfl, hgj, hIn, hE17⟩ := h17
  have hE17' : Ext w15 w17 := hE16.t hE17
  have hm1 : ga < gj := by have := hIa.lt; have := hE16.size; omega
  have hm2 : gb < gj := by have := hIb.lt; have := hE16.size; omega
  have hm3 : gc < gj := by have := Blk.lt hUc; have := hE16.size; omega
  have hm4 : w.heap.size ≤ gj := by have := hE.size; have := hE16.size; omega
  have hIa := hIa.ext hE17'
  have hIb := hIb.ext hE17'
  have hUc := hUc.ext hE17'
  have hE := hE.t hE17'
  have hgl := hIn.lt
  clear hE16 hE17 hE17' hB16 hBB
  refine xbs sl_ints rfl rfl (by decide) (by decide) (fun u hu => by simp at hu; rcases hu with rfl | rfl <;> rfl) (fun w18 hB18 hE18 hs18 => ?_)
  have r18 := (IB.new' [0, 1] hB18 rfl).row (by decide) 2 rfl
  refine xcall rfl rfl (hget_does w18 gj _ [0, 1] [255] 0 (hIn.ext hE18) r18 (by simp [Value.ownBlock]; omega) (by decide +kernel) (by decide)) (fun r w19 h19 => ?_)
  obtain ⟨rfl, _, hF19⟩ := h19
  have hg2 : getB [0, 1] [255] 0 = (0, 3, 1) := by decide +kernel
  rw [hg2]
  have hIa := (hIa.ext hE18).fr hF19 (by omega)
  have hIb := (hIb.ext hE18).fr hF19 (by omega)
  have hUc := (hUc.ext hE18).fr hF19 (by omega)
  have hE := Ext.te (hE.t hE18) hF19 (by intro j hj e; omega)
  clear hE18 hF19 hB18 r18 hIn
  have a0 : w19.cell? ⟨ga, 0, none⟩ = some (.int .i64 2) := hIa.cell (i := 0) (by decide)
  have a1 : w19.cell? ⟨ga, 1, none⟩ = some (.int .i64 1) := hIa.cell (i := 1) (by decide)
  have a2 : w19.cell? ⟨ga, 2, none⟩ = some (.int .i64 2) := hIa.cell (i := 2) (by decide)
  have b0 : w19.cell? ⟨gb, 0, none⟩ = some (.int .i64 0) := hIb.cell (i := 0) (by decide)
  have b1 : w19.cell? ⟨gb, 1, none⟩ = some (.int .i64 1) := hIb.cell (i := 1) (by decide)
  have c0 : w19.cell? ⟨gc, 0, none⟩ = some (.int .u64 2) := hUc.cell (i := 0) (by decide)
  have c1 : w19.cell? ⟨gc, 1, none⟩ = some (.int .u64 0) := hUc.cell (i := 1) (by decide)
  have c2 : w19.cell? ⟨gc, 2, none⟩ = some (.int .u64 3) := hUc.cell (i := 2) (by decide)
  repeat' (first | refine xp rfl ?_ | refine xnil ?_ | refine xgy rfl ?_ | refine xct rfl rfl rfl rfl ?_ | refine xisq 0 0 rfl rfl rfl rfl rfl (by decide) ?_ | refine xisq 1 1 rfl rfl rfl rfl rfl (by decide) ?_ | refine xisq 2 2 rfl rfl rfl rfl rfl (by decide) ?_ | refine xld rfl rfl (by assumption) ?_ | refine tseq ?_ | refine treg (by kernel_rfl) ?_)
  refine xbs sl_ints rfl rfl (by decide) (by decide) (fun u hu => by simp at hu; rcases hu with rfl | rfl | rfl <;> rfl) (fun w20 hB20 hE20 hs20 => ?_)
  have r20 := (IB.new' [2, 1, 2] hB20 rfl).row (by decide) 3 rfl
  repeat' (first | refine xp rfl ?_ | refine xgy rfl ?_)
  refine xcall rfl rfl (may_does w20 _ [2, 1, 2] r20) (fun r w21 h21 => ?_)
  obtain ⟨rfl, rfl⟩ := h21
  have m1 : mayB [2, 1, 2] = true := by decide +kernel
  rw [m1]
  repeat' (first | refine xp rfl ?_ | refine xgy rfl ?_)
  refine xbs sl_ints rfl rfl (by decide) (by decide) (fun u hu => by simp at hu; rcases hu with rfl | rfl <;> rfl) (fun w22 hB22 hE22 hs22 => ?_)
  have r22 := (IB.new' [2, 2] hB22 rfl).row (by decide) 2 rfl
  repeat' (first | refine xp rfl ?_ | refine xgy rfl ?_)
  refine xcall rfl rfl (may_does w22 _ [2, 2] r22) (fun r w23 h23 => ?_)
  obtain ⟨rfl, rfl⟩ := h23
  have m2 : mayB [2, 2] = false := by decide +kernel
  rw [m2]
  repeat' (first | refine xp rfl ?_ | refine xgy rfl ?_)
  refine xcall rfl rfl (may_does w22 _ [] (ix0 _)) (fun r w24 h24 => ?_)
  obtain ⟨rfl, rfl⟩ := h24
  have m3 : mayB [] = true := by decide +kernel
  rw [m3]
  refine wk ?_
  exact tret1 rfl rfl ⟨rfl, (hE.t hE20).t hE22⟩
end Eng
end Go.Proofs.Ytighkjohpmlemaa
