/-
  The reference's tokens: MayTok, Symbol, Best, Toks.
-/
import Derived.Test.YtighkjohpmlemaaPf
import Derived.Test.YtighkjohpmlemaaEngS
namespace Go.Proofs.Ytighkjohpmlemaa
open Go.RowKit
namespace Eng
attribute [local irreducible] xs T

set_option maxRecDepth 20000 in
set_option maxHeartbeats 4000000 in
theorem rmayt_does (w : World) (t : Tkn) :
    Does Try.prog 69 #[.agg (tkC t).toArray] w fun r w' => r = .bool (mayT t) ∧ Ext w w' := by
  refine does1 Try.func69 rfl (by kernel_rfl) ?_
  obtain ⟨l, b, g⟩ := t
  refine goL ?_
  refine xbox rfl (fun w1 hB1 hE1 hs1 => ?_)
  have c0 : w1.cell? ⟨w.heap.size, 0, none⟩ = some (.int .i64 l) := hB1.cell 0
  have c1 : w1.cell? ⟨w.heap.size, 1, none⟩ = some (.int .i64 b) := hB1.cell 1
  have c2 : w1.cell? ⟨w.heap.size, 2, none⟩ = some (.int .i64 g) := hB1.cell 2
  unfold mayT
  repeat' (first | refine go1 ?_ | refine xs_eql rfl rfl (fun hc => ?_) (fun hc => ?_) | refine xs_neq rfl rfl (fun hc => ?_) (fun hc => ?_) | refine xs_lss rfl rfl (fun hc => ?_) (fun hc => ?_) | refine xs_leq rfl rfl (fun hc => ?_) (fun hc => ?_) | refine xs_gtr rfl rfl (fun hc => ?_) (fun hc => ?_) | refine xs_geq rfl rfl (fun hc => ?_) (fun hc => ?_) | fail)
  all_goals (refine tret1 rfl rfl ⟨?_, hE1⟩)
  all_goals (first | rw [if_pos (by dsimp only; omega)] | rw [if_neg (by dsimp only; omega)])
  all_goals (congr 1; rw [Bool.eq_iff_iff]; simp only [Bool.and_eq_true, decide_eq_true_eq, Bool.false_eq_true, false_iff, true_iff]; omega)

set_option maxRecDepth 20000 in
set_option maxHeartbeats 4000000 in
theorem rsym_does (w : World) (t : Tkn) :
    Does Try.prog 38 #[.agg (tkC t).toArray] w fun r w' => r = .tuple #[.int .i64 (symT t).1, .int .i64 (symT t).2.1, .int .i64 (symT t).2.2] ∧ Ext w w' := by
  refine does1 Try.func38 rfl (by kernel_rfl) ?_
  refine goL ?_
  refine xbox rfl (fun w1 hB1 hE1 hs1 => ?_)
  have hB1' : Blk w1 w.heap.size 67 (tkC t).toArray := hB1
  refine goL ?_
  refine xlda hB1' rfl rfl ?_
  refine xcall rfl rfl (rmayt_does w1 t) (fun r w2 h2 => ?_)
  obtain ⟨rfl, hE2⟩ := h2
  have hE := hE1.t hE2
  unfold symT
  cases hm : mayT t with
  | false =>
    refine goL ?_
    exact tret3 rfl rfl rfl rfl ⟨rfl, hE⟩
  | true =>
    have hmo := mayT_op hm
    have hB2 : Blk w2 w.heap.size 67 #[.int .i64 t.lit, .int .i64 t.back, .int .i64 t.long] := hB1'.ext hE2
    have c0 : w2.cell? ⟨w.heap.size, 0, none⟩ = some (.int .i64 t.lit) := hB2.cell 0
    have c1 : w2.cell? ⟨w.heap.size, 1, none⟩ = some (.int .i64 t.back) := hB2.cell 1
    have c2 : w2.cell? ⟨w.heap.size, 2, none⟩ = some (.int .i64 t.long) := hB2.cell 2
    rw [if_neg (by decide)]
    by_cases h0 : 0 ≤ t.lit
    · rw [if_pos h0]
      refine goL ?_
      exact tret3 rfl rfl rfl rfl ⟨rfl, hE⟩
    · rw [if_neg h0]
      refine go ?_
      exact tret3 rfl rfl rfl rfl ⟨rfl, hE.d⟩

set_option maxRecDepth 20000 in
set_option maxHeartbeats 4000000 in
theorem rbest_does (w : World) (zs : List Int) (at_ : Nat) (hb : Byts zs) (hlt : at_ < zs.length) (hl : zs.length ≤ 2 ^ 30) :
    Does Try.prog 82 #[.string (strOfNums zs), .int .i64 (at_ : Int)] w fun r w' => r = .tuple #[.int .i64 ((bestB zs at_).1 : Int), .int .i64 ((bestB zs at_).2 : Int)] ∧ Ext w w' := by
  refine does2 Try.func82 rfl (by kernel_rfl) ?_
  have hmost : mostB zs at_ = min 66 (zs.length - at_) := rfl
  refine goL ?_
  refine tloop (α := Nat) (fun k => [(0, .string (strOfNums zs)), (1, .int .i64 (at_ : Int)), (6, .int .i64 ((bestF zs at_ (mostB zs at_) k).1 : Int)), (7, .int .i64 ((bestF zs at_ (mostB zs at_) k).2 : Int)), (8, .int .i64 ((k + 1 : Nat) : Int))]) (fun k w' => k ≤ min 1024 at_ ∧ Ext w w') (fun k => min 1024 at_ - k) 0 (sub ⟨rfl, rfl, rfl, rfl, rfl⟩) ⟨Nat.zero_le _, Fr.refl _ _⟩ ?_
  rintro k w1 ⟨hk, hE⟩
  by_cases hgo : k < min 1024 at_
  · repeat' (first | refine xsln rfl rfl ?_ | refine go1L ?_ | fail)
    refine tloop (α := Nat) (fun n => [(0, .string (strOfNums zs)), (1, .int .i64 (at_ : Int)), (6, .int .i64 ((bestF zs at_ (mostB zs at_) k).1 : Int)), (7, .int .i64 ((bestF zs at_ (mostB zs at_) k).2 : Int)), (8, .int .i64 ((k + 1 : Nat) : Int)), (9, .int .i64 (n : Int))]) (fun n w' => (n ≤ mostB zs at_ ∧ eqGo zs at_ (k + 1) n (mostB zs at_ - n) = eqB zs at_ (k + 1) (mostB zs at_)) ∧ Ext w w') (fun n => mostB zs at_ - n) 0 (sub ⟨rfl, rfl, rfl, rfl, rfl, rfl⟩) ⟨⟨Nat.zero_le _, rfl⟩, hE⟩ ?_
    rintro n w2 ⟨⟨hn, heq⟩, hE2⟩
    by_cases hn2 : n < mostB zs at_
    · obtain ⟨z, hz⟩ : ∃ z, zs[at_ + n]? = some z := ⟨_, List.getElem?_eq_getElem (by omega)⟩
      obtain ⟨z', hz'⟩ : ∃ z, zs[at_ + n - (k + 1)]? = some z := ⟨_, List.getElem?_eq_getElem (by omega)⟩
      have hzb := hb z (List.mem_of_getElem? hz)
      have hzb' := hb z' (List.mem_of_getElem? hz')
      rw [show mostB zs at_ - n = (mostB zs at_ - n - 1) + 1 from by omega, eqGo, getD_of hz, getD_of hz'] at heq
      by_cases he : z = z'
      · rw [if_pos he] at heq
        repeat' (first | refine xsi (at_ + n) rfl rfl rfl (by omega) hz hzb ?_ | refine xsi (at_ + n - (k + 1)) rfl rfl rfl (by omega) hz' hzb' ?_ | refine xsln rfl rfl ?_ | refine go1L ?_ | fail)
        exact tfin ⟨n + 1, sub ⟨rfl, rfl, rfl, rfl, rfl, rfl⟩, ⟨⟨by omega, by rw [show mostB zs at_ - (n + 1) = mostB zs at_ - n - 1 from by omega]; exact heq⟩, hE2.d⟩, (by show mostB zs at_ - (n + 1) < mostB zs at_ - n; omega)⟩
      · rw [if_neg he] at heq
        have hs : bestF zs at_ (mostB zs at_) (k + 1) = if (bestF zs at_ (mostB zs at_) k).2 < n then (k + 1, n) else bestF zs at_ (mostB zs at_) k := by rw [bestF, ← heq]
        by_cases hbt : (bestF zs at_ (mostB zs at_) k).2 < n
        · rw [if_pos hbt] at hs
          repeat' (first | refine xsi (at_ + n) rfl rfl rfl (by omega) hz hzb ?_ | refine xsi (at_ + n - (k + 1)) rfl rfl rfl (by omega) hz' hzb' ?_ | refine xsln rfl rfl ?_ | refine go1L ?_ | fail)
          exact tfin ⟨k + 1, sub ⟨rfl, rfl, by rw [hs]; rfl, by rw [hs]; rfl, rfl⟩, ⟨by omega, hE2.d⟩, (by show min 1024 at_ - (k + 1) < min 1024 at_ - k; omega)⟩
        · rw [if_neg hbt] at hs
          repeat' (first | refine xsi (at_ + n) rfl rfl rfl (by omega) hz hzb ?_ | refine xsi (at_ + n - (k + 1)) rfl rfl rfl (by omega) hz' hzb' ?_ | refine xsln rfl rfl ?_ | refine go1L ?_ | fail)
          exact tfin ⟨k + 1, sub ⟨rfl, rfl, by rw [hs]; rfl, by rw [hs]; rfl, rfl⟩, ⟨by omega, hE2.d⟩, (by show min 1024 at_ - (k + 1) < min 1024 at_ - k; omega)⟩
    · obtain rfl : n = mostB zs at_ := by omega
      rw [Nat.sub_self, eqGo] at heq
      have hs : bestF zs at_ (mostB zs at_) (k + 1) = if (bestF zs at_ (mostB zs at_) k).2 < mostB zs at_ then (k + 1, mostB zs at_) else bestF zs at_ (mostB zs at_) k := by rw [bestF, ← heq]
      by_cases h66 : mostB zs at_ < 66
      · by_cases hbt : (bestF zs at_ (mostB zs at_) k).2 < mostB zs at_
        · rw [if_pos hbt] at hs
          repeat' (first | refine xsln rfl rfl ?_ | refine go1L ?_ | fail)
          exact tfin ⟨k + 1, sub ⟨rfl, rfl, by rw [hs]; rfl, by rw [hs]; rfl, rfl⟩, ⟨by omega, hE2.d⟩, (by show min 1024 at_ - (k + 1) < min 1024 at_ - k; omega)⟩
        · rw [if_neg hbt] at hs
          repeat' (first | refine xsln rfl rfl ?_ | refine go1L ?_ | fail)
          exact tfin ⟨k + 1, sub ⟨rfl, rfl, by rw [hs]; rfl, by rw [hs]; rfl, rfl⟩, ⟨by omega, hE2.d⟩, (by show min 1024 at_ - (k + 1) < min 1024 at_ - k; omega)⟩
      · by_cases hbt : (bestF zs at_ (mostB zs at_) k).2 < mostB zs at_
        · rw [if_pos hbt] at hs
          repeat' (first | refine xsln rfl rfl ?_ | refine go1L ?_ | fail)
          exact tfin ⟨k + 1, sub ⟨rfl, rfl, by rw [hs]; rfl, by rw [hs]; rfl, rfl⟩, ⟨by omega, hE2.d⟩, (by show min 1024 at_ - (k + 1) < min 1024 at_ - k; omega)⟩
        · rw [if_neg hbt] at hs
          repeat' (first | refine xsln rfl rfl ?_ | refine go1L ?_ | fail)
          exact tfin ⟨k + 1, sub ⟨rfl, rfl, by rw [hs]; rfl, by rw [hs]; rfl, rfl⟩, ⟨by omega, hE2.d⟩, (by show min 1024 at_ - (k + 1) < min 1024 at_ - k; omega)⟩
  · obtain rfl : k = min 1024 at_ := by omega
    unfold bestB
    by_cases h3 : (bestF zs at_ (mostB zs at_) (min 1024 at_)).2 < 3
    · rw [if_pos h3]
      by_cases h1024 : at_ < 1024
      · repeat' (first | refine xsln rfl rfl ?_ | refine go1L ?_ | fail)
        exact tret2 rfl rfl rfl ⟨rfl, hE⟩
      · repeat' (first | refine xsln rfl rfl ?_ | refine go1L ?_ | fail)
        exact tret2 rfl rfl rfl ⟨rfl, hE⟩
    · rw [if_neg h3]
      by_cases h1024 : at_ < 1024
      · repeat' (first | refine xsln rfl rfl ?_ | refine go1L ?_ | fail)
        exact tret2 rfl rfl rfl ⟨rfl, hE⟩
      · repeat' (first | refine xsln rfl rfl ?_ | refine go1L ?_ | fail)
        exact tret2 rfl rfl rfl ⟨rfl, hE⟩

theorem sl_rtoks : SlT 103 67 (.agg #[.int .i64 0, .int .i64 0, .int .i64 0]) 3 24 := slT Try.underlying103 (by kernel_rfl)

structure RtI (zs : List Int) (w0 : World) (x : Nat × Value × List Tkn) (w : World) : Prop where
  le : x.1 ≤ zs.length
  own : OwnZ w w0.heap.size 67 3 x.2.1 x.2.2.length (tksC x.2.2)
  go : x.2.2 ++ toksAt zs x.1 = toksB zs
  len : x.2.2.length ≤ x.1
  ext : Ext w0 w

set_option maxRecDepth 20000 in
set_option maxHeartbeats 4000000 in
theorem rtoks_does (w : World) (zs : List Int) (hb : Byts zs) (hl : zs.length ≤ 2 ^ 30) :
    Does Try.prog 65 #[.string (strOfNums zs)] w fun r w' => OwnZ w' w.heap.size 67 3 r (toksB zs).length (tksC (toksB zs)) ∧ Ext w w' := by
  refine does1 Try.func65 rfl (by kernel_rfl) ?_
  refine goL ?_
  refine tloop (α := Nat × Value × List Tkn) (fun x => [(0, .string (strOfNums zs)), (3, x.2.1), (4, .int .i64 (x.1 : Int))]) (RtI zs w) (fun x => zs.length - x.1) (0, .slice none 0 0, []) (sub ⟨rfl, rfl, rfl⟩) ⟨Nat.zero_le _, OwnZ.nil _ _ _ _, rfl, Nat.zero_le _, Fr.refl _ _⟩ ?_
  rintro ⟨i, v2, ts⟩ w2 ⟨hi, hown, hgo, hlen, hE⟩
  dsimp only at hi hown hgo hlen hE ⊢
  have hsz := hE.size
  by_cases hlt : i < zs.length
  · obtain ⟨z, hz⟩ : ∃ z, zs[i]? = some z := ⟨_, List.getElem?_eq_getElem hlt⟩
    have hzb := hb z (List.mem_of_getElem? hz)
    repeat' (first | refine xsln rfl rfl ?_ | refine go1L ?_ | fail)
    refine xcall rfl rfl (rbest_does w2 zs i hb hlt hl) (fun r w3 h3 => ?_)
    obtain ⟨rfl, hE3⟩ := h3
    have hsz3 := hE3.size
    by_cases h0 : (bestB zs i).2 = 0
    · rw [toksAt_lit zs hlt h0, getD_of hz] at hgo
      repeat' (first | refine xsi i rfl rfl rfl rfl hz hzb ?_ | refine xcvi rfl rfl rfl (by omega) (by omega) ?_ | refine xsln rfl rfl ?_ | refine go1L ?_ | fail)
      refine xbd (cells := #[.int .i64 z, .int .i64 0, .int .i64 0]) rfl (by kernel_rfl) ?_
      refine xbz1 sl_rtoks rfl rfl (by decide) (by decide) (fun w4 hB4 hE4 hs4 => ?_)
      refine xapz sl_rtoks rfl (by decide) rfl ((hown.ext hE3).ext hE4) rfl (blk_row hB4 (by decide) rfl) rfl (fun u hu => tkC_one ⟨z, 0, 0⟩ u hu) (by unfold maxLen; omega) (by omega) (by omega) (fun v5 w5 hown5 hF5 hv5 => ?_)
      repeat' (first | refine xsln rfl rfl ?_ | refine go1L ?_ | fail)
      refine tfin ⟨(i + 1, v5, ts ++ [⟨z, 0, 0⟩]), sub ⟨rfl, rfl, rfl⟩, ⟨by dsimp only; omega, ?_, by dsimp only; rw [List.append_assoc]; exact hgo, by dsimp only; rw [List.length_append]; simp; omega, Ext.te (hE.t (hE3.t hE4)) hF5 fun j hj e => ?_⟩, (by show zs.length - (i + 1) < zs.length - i; omega)⟩
      · dsimp only
        rw [List.length_append, tksC_snoc]
        exact hown5
      · have := (hown.blk e).1
        omega
    · rw [toksAt_cp zs hlt h0] at hgo
      rcases bestB_ok zs i with e | e
      · rw [e] at h0; exact absurd rfl h0
      have hl3 := e.l3
      have hl1 := e.l1
      have hb2 := e.b2
      repeat' (first | refine xsln rfl rfl ?_ | refine go1L ?_ | fail)
      refine xbd (cells := #[.int .i64 (-1), .int .i64 ((bestB zs i).1 : Int), .int .i64 ((bestB zs i).2 : Int)]) rfl (by kernel_rfl) ?_
      refine xbz1 sl_rtoks rfl rfl (by decide) (by decide) (fun w4 hB4 hE4 hs4 => ?_)
      refine xapz sl_rtoks rfl (by decide) rfl ((hown.ext hE3).ext hE4) rfl (blk_row hB4 (by decide) rfl) rfl (fun u hu => tkC_one ⟨-1, (bestB zs i).1, (bestB zs i).2⟩ u hu) (by unfold maxLen; omega) (by omega) (by omega) (fun v5 w5 hown5 hF5 hv5 => ?_)
      repeat' (first | refine xsln rfl rfl ?_ | refine go1L ?_ | fail)
      refine tfin ⟨(i + (bestB zs i).2, v5, ts ++ [⟨-1, (bestB zs i).1, (bestB zs i).2⟩]), sub ⟨rfl, rfl, ieq (by dsimp only; omega)⟩, ⟨by dsimp only; omega, ?_, by dsimp only; rw [List.append_assoc]; exact hgo, by dsimp only; rw [List.length_append]; simp; omega, Ext.te (hE.t (hE3.t hE4)) hF5 fun j hj e => ?_⟩, (by show zs.length - (i + (bestB zs i).2) < zs.length - i; omega)⟩
      · dsimp only
        rw [List.length_append, tksC_snoc]
        exact hown5
      · have := (hown.blk e).1
        omega
  · obtain rfl : i = zs.length := by omega
    rw [toksAt_end zs (Nat.le_refl _), List.append_nil] at hgo
    repeat' (first | refine xsln rfl rfl ?_ | refine go1L ?_ | fail)
    exact tret1 rfl rfl ⟨by rw [← hgo]; exact hown, hE⟩
end Eng
end Go.Proofs.Ytighkjohpmlemaa
