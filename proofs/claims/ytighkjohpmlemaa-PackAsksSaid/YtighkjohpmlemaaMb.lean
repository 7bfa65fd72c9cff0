/-
  Package match: equal, Best, May, add, Join, All; pack.Symbol.
-/
import Derived.Test.YtighkjohpmlemaaMa
import Derived.Test.YtighkjohpmlemaaRc
namespace Go.Proofs.Ytighkjohpmlemaa
open Go.RowKit
namespace Eng
attribute [local irreducible] xs T

theorem Own.brow {w : World} {B : Nat} {e : TypeId} {v : Value} {zs : List Int} (h : Own w B e v (zs.map (Value.int .u8))) : BRow w v zs := by
  have := h.row; rwa [List.length_map] at this
theorem getD_of {zs : List Int} {i : Nat} {z : Int} (h : zs[i]? = some z) : zs.getD i 0 = z := by rw [List.getD_eq_getElem?_getD, h]; rfl

set_option maxRecDepth 20000 in
set_option maxHeartbeats 4000000 in
theorem equal_does (w : World) (v : Value) (zs : List Int) (at_ back most : Nat) (hv : BRow w v zs) (h1 : 1 ≤ back) (h2 : back ≤ at_) (h3 : at_ + most ≤ zs.length) :
    Does Try.prog 96 #[v, .int .i64 (at_ : Int), .int .i64 (back : Int), .int .i64 (most : Int)] w fun r w' => r = .int .i64 (eqB zs at_ back most : Int) ∧ Ext w w' := by
  refine does4 Try.func96 rfl (by kernel_rfl) ?_
  obtain ⟨A, c, rfl, hcc, hcm, hA⟩ := hv.op
  refine go ?_
  refine tscope1 (α := Nat) 0 rfl (fun n => [(0, .slice A zs.length c), (1, .int .i64 (at_ : Int)), (2, .int .i64 (back : Int)), (3, .int .i64 (most : Int)), (9, .int .i64 (n : Int))]) (fun n w' => (n ≤ most ∧ eqGo zs at_ back n (most - n) = eqB zs at_ back most) ∧ Ext w w') (fun n => most - n) ?_ ?_
  · rintro n w1 ⟨⟨hn, hgo⟩, hE⟩
    by_cases hlt : n < most
    · obtain ⟨b, o, z, rfl, _, hz, hcell, _⟩ := hA.at_ (show at_ + n < zs.length by omega)
      obtain ⟨b', o', z', e, _, hz', hcell', _⟩ := hA.at_ (show at_ + n - back < zs.length by omega)
      injection e with e; injection e with e1 e2; subst e1; subst e2
      have q1 := hE.cell hcell
      have q2 := hE.cell hcell'
      rw [show most - n = (most - n - 1) + 1 from by omega, eqGo, getD_of hz, getD_of hz'] at hgo
      by_cases he : z = z'
      · rw [if_pos he] at hgo
        repeat' (first | refine xisq (at_ + n) (o + (at_ + n)) rfl rfl rfl (by omega) rfl (by omega) ?_ | refine xisq (at_ + n - back) (o + (at_ + n - back)) rfl rfl rfl (by omega) rfl (by omega) ?_ | refine go1 ?_ | fail)
        exact tgoto rfl ⟨_, (by show most - (n + 1) < most - n; omega), rfl, n + 1, sub ⟨rfl, rfl, rfl, rfl, rfl⟩, ⟨⟨by omega, by rw [show most - (n + 1) = most - n - 1 from by omega]; exact hgo⟩, hE.d⟩, rfl⟩
      · rw [if_neg he] at hgo
        repeat' (first | refine xisq (at_ + n) (o + (at_ + n)) rfl rfl rfl (by omega) rfl (by omega) ?_ | refine xisq (at_ + n - back) (o + (at_ + n - back)) rfl rfl rfl (by omega) rfl (by omega) ?_ | refine go1 ?_ | fail)
        exact tret1 rfl rfl ⟨by rw [hgo], hE.d⟩
    · obtain rfl : n = most := by omega
      rw [Nat.sub_self, eqGo] at hgo
      refine go ?_
      exact tret1 rfl rfl ⟨by rw [← hgo], hE.d⟩
  · intro H
    refine go ?_
    refine tlabel ?_
    exact tweak (H 0 w ⟨⟨Nat.zero_le _, rfl⟩, Fr.refl _ _⟩) (sub ⟨rfl, rfl, rfl, rfl, rfl⟩)

/-- The best so far, as the program keeps it. -/
def blB (zs : List Int) (at_ most k : Nat) : Nat × Nat := if (bestF zs at_ most k).2 < 3 then (0, 2) else bestF zs at_ most k
theorem blB_succ (zs : List Int) (at_ most k : Nat) : blB zs at_ most (k + 1) = if (blB zs at_ most k).2 < eqB zs at_ (k + 1) most then (k + 1, eqB zs at_ (k + 1) most) else blB zs at_ most k := by
  unfold blB
  rw [bestF]
  by_cases h : (bestF zs at_ most k).2 < 3
  · rw [if_pos h]
    by_cases h2 : (bestF zs at_ most k).2 < eqB zs at_ (k + 1) most
    · rw [if_pos h2]
      by_cases h3 : eqB zs at_ (k + 1) most < 3
      · rw [if_pos h3, if_neg (by dsimp only; omega)]
      · rw [if_neg h3, if_pos (by dsimp only; omega)]
    · rw [if_neg h2, if_pos h, if_neg (by dsimp only; omega)]
  · rw [if_neg h]
    by_cases h2 : (bestF zs at_ most k).2 < eqB zs at_ (k + 1) most
    · rw [if_pos h2, if_neg (by dsimp only; omega)]
    · rw [if_neg h2, if_neg h]
theorem blB_end (zs : List Int) (at_ k : Nat) (hk : k ≤ min 1024 at_) (h : k = min 1024 at_ ∨ mostB zs at_ ≤ (blB zs at_ (mostB zs at_) k).2) :
    bestB zs at_ = if (blB zs at_ (mostB zs at_) k).1 = 0 then (0, 0) else blB zs at_ (mostB zs at_) k := by
  have hk0 : ¬ (bestF zs at_ (mostB zs at_) k).2 < 3 → (bestF zs at_ (mostB zs at_) k).1 ≠ 0 := fun hh => by
    rcases bestF_ok zs at_ (mostB zs at_) k with e | e
    · rw [e] at hh; exact absurd (by decide) hh
    · omega
  unfold bestB
  rcases h with rfl | h
  · unfold blB
    by_cases hh : (bestF zs at_ (mostB zs at_) (min 1024 at_)).2 < 3
    · rw [if_pos hh, if_pos hh]; rfl
    · rw [if_neg hh, if_neg hh, if_neg (hk0 hh)]
  · unfold blB at h ⊢
    by_cases hh : (bestF zs at_ (mostB zs at_) k).2 < 3
    · rw [if_pos hh] at h ⊢
      have := bestF_most zs at_ (mostB zs at_) (min 1024 at_)
      dsimp only at h
      rw [if_pos (by omega)]; rfl
    · rw [if_neg hh] at h ⊢
      have e := bestF_stop zs at_ (mostB zs at_) h (min 1024 at_ - k)
      rw [show k + (min 1024 at_ - k) = min 1024 at_ from by omega] at e
      rw [e, if_neg hh, if_neg (hk0 hh)]

set_option maxRecDepth 20000 in
set_option maxHeartbeats 4000000 in
theorem best_does (w : World) (v : Value) (zs : List Int) (at_ : Nat) (hv : BRow w v zs) (hlt : at_ < zs.length) :
    Does Try.prog 92 #[v, .int .i64 (at_ : Int)] w fun r w' => r = .tuple #[.int .i64 ((bestB zs at_).1 : Int), .int .i64 ((bestB zs at_).2 : Int)] ∧ Ext w w' := by
  refine does2 Try.func92 rfl (by kernel_rfl) ?_
  have hrow := hv
  obtain ⟨A, c, rfl, hcc, hcm, hA⟩ := hv.op
  have hmost : mostB zs at_ ≤ 66 ∧ at_ + mostB zs at_ ≤ zs.length := by unfold mostB; omega
  refine go ?_
  refine tscope1 (α := Nat) 0 rfl (fun k => [(0, .slice A zs.length c), (1, .int .i64 (at_ : Int)), (6, .int .i64 (mostB zs at_ : Int)), (7, .int .i64 ((min 1024 at_ : Nat) : Int)), (8, .int .i64 ((blB zs at_ (mostB zs at_) k).1 : Int)), (9, .int .i64 ((blB zs at_ (mostB zs at_) k).2 : Int)), (10, .int .i64 ((k + 1 : Nat) : Int))]) (fun k w' => k ≤ min 1024 at_ ∧ Ext w w') (fun k => min 1024 at_ - k) ?_ ?_
  · rintro k w1 ⟨hk, hE⟩
    have hend := blB_end zs at_ k hk
    have hsucc := blB_succ zs at_ (mostB zs at_) k
    by_cases hgo : k < min 1024 at_ ∧ (blB zs at_ (mostB zs at_) k).2 < mostB zs at_
    · refine go ?_
      refine xcall rfl rfl (equal_does w1 _ zs at_ (k + 1) (mostB zs at_) (hrow.ext hE) (by omega) (by omega) hmost.2) (fun r w2 h2 => ?_)
      obtain ⟨rfl, hE2⟩ := h2
      by_cases hb : (blB zs at_ (mostB zs at_) k).2 < eqB zs at_ (k + 1) (mostB zs at_)
      · rw [if_pos hb] at hsucc
        refine go ?_
        exact tgoto rfl ⟨_, (by show min 1024 at_ - (k + 1) < min 1024 at_ - k; omega), rfl, k + 1, sub ⟨rfl, rfl, rfl, rfl, by rw [hsucc]; rfl, by rw [hsucc]; rfl, rfl⟩, ⟨by omega, hE.t hE2⟩, rfl⟩
      · rw [if_neg hb] at hsucc
        refine go ?_
        exact tgoto rfl ⟨_, (by show min 1024 at_ - (k + 1) < min 1024 at_ - k; omega), rfl, k + 1, sub ⟨rfl, rfl, rfl, rfl, by rw [hsucc]; rfl, by rw [hsucc]; rfl, rfl⟩, ⟨by omega, hE.t hE2⟩, rfl⟩
    · have hend := hend (by omega)
      by_cases h0 : (blB zs at_ (mostB zs at_) k).1 = 0
      · rw [if_pos h0] at hend
        by_cases hk2 : k < min 1024 at_
        · refine go ?_
          exact tret2 rfl rfl rfl ⟨by rw [hend]; rfl, hE⟩
        · refine go ?_
          exact tret2 rfl rfl rfl ⟨by rw [hend]; rfl, hE⟩
      · rw [if_neg h0] at hend
        by_cases hk2 : k < min 1024 at_
        · refine go ?_
          exact tret2 rfl rfl rfl ⟨by rw [hend], hE⟩
        · refine go ?_
          exact tret2 rfl rfl rfl ⟨by rw [hend], hE⟩
  · intro H
    repeat' (first | refine xmin rfl rfl ?_ | refine go1 ?_ | fail)
    refine tlabel ?_
    exact tweak (H 0 w ⟨Nat.zero_le _, Fr.refl _ _⟩) (sub ⟨rfl, rfl, ieq (by unfold mostB; omega), ieq (by omega), rfl, rfl, rfl⟩)

def tkC (t : Tkn) : List Value := [.int .i64 t.lit, .int .i64 t.back, .int .i64 t.long]
/-- A token whose numbers fit an int. -/
def Fit (t : Tkn) : Prop := (-9223372036854775808 ≤ t.lit ∧ t.lit ≤ 9223372036854775807) ∧ (-9223372036854775808 ≤ t.back ∧ t.back ≤ 9223372036854775807) ∧ (-9223372036854775808 ≤ t.long ∧ t.long ≤ 9223372036854775807)

set_option maxRecDepth 20000 in
set_option maxHeartbeats 4000000 in
theorem mayt_does (w : World) (t : Tkn) :
    Does Try.prog 68 #[.agg (tkC t).toArray] w fun r w' => r = .bool (mayT t) ∧ Ext w w' := by
  refine does1 Try.func68 rfl (by kernel_rfl) ?_
  obtain ⟨l, b, g⟩ := t
  refine go ?_
  refine xbox rfl (fun w1 hB1 hE1 hs1 => ?_)
  have c0 : w1.cell? ⟨w.heap.size, 0, none⟩ = some (.int .i64 l) := hB1.cell 0
  have c1 : w1.cell? ⟨w.heap.size, 1, none⟩ = some (.int .i64 b) := hB1.cell 1
  have c2 : w1.cell? ⟨w.heap.size, 2, none⟩ = some (.int .i64 g) := hB1.cell 2
  unfold mayT
  repeat' (first | refine go1 ?_ | refine xs_eql rfl rfl (fun hc => ?_) (fun hc => ?_) | refine xs_neq rfl rfl (fun hc => ?_) (fun hc => ?_) | refine xs_lss rfl rfl (fun hc => ?_) (fun hc => ?_) | refine xs_leq rfl rfl (fun hc => ?_) (fun hc => ?_) | refine xs_gtr rfl rfl (fun hc => ?_) (fun hc => ?_) | refine xs_geq rfl rfl (fun hc => ?_) (fun hc => ?_) | fail)
  all_goals (refine tret1 rfl rfl ⟨?_, hE1⟩)
  all_goals (first | rw [if_pos (by dsimp only; omega)] | rw [if_neg (by dsimp only; omega)])
  all_goals (congr 1; rw [Bool.eq_iff_iff]; simp only [Bool.and_eq_true, decide_eq_true_eq, Bool.false_eq_true, false_iff, true_iff]; omega)
end Eng
end Go.Proofs.Ytighkjohpmlemaa
