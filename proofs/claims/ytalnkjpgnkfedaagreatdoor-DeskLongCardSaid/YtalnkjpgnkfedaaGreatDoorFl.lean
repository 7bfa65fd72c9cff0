/-
  Plain law: the double of a whole number below 2^52, read back and compared.
-/
import Derived.ProofKit
import GoSem.Core.Float
namespace Go.Proofs.YtalnkjpgnkfedaaGreatDoor
namespace Eng
open Go Ieee

/-- The word of a whole number. -/
def fw (n : Nat) : Nat := FloatKind.f64.nearest (n : Int)

theorem fw_zero : fw 0 = 0 := by decide +kernel

theorem log2_bd {n : Nat} (h0 : 0 < n) : 2 ^ n.log2 ≤ n ∧ n < 2 ^ (n.log2 + 1) := ⟨Nat.log2_self_le (by omega), Nat.lt_log2_self⟩

theorem fw_pos {n : Nat} (h0 : 0 < n) (hn : n < 2 ^ 52) : fw n = (n.log2 + 1022) * 2 ^ 52 + n * 2 ^ (52 - n.log2) := by
  have hL : n.log2 < 52 := (Nat.log2_lt (by omega)).2 hn
  obtain ⟨h1, h2⟩ := log2_bd h0
  have e1 : (max ((0 : Int) + n.log2 - (52 : Nat)) Ieee.double.leastPlace) = (n.log2 : Int) - 52 := by
    have : Ieee.double.leastPlace = -1074 := by decide +kernel
    rw [this]; omega
  unfold fw FloatKind.nearest FloatKind.encode FloatKind.format Format.write
  dsimp only
  unfold Format.nearest
  have hn0 : ¬ ((n : Int).natAbs = 0) := by omega
  rw [if_neg hn0]
  have hna : (n : Int).natAbs = n := by omega
  have hneg : (decide ((n : Int) < 0)) = false := by simp
  rw [hna, hneg]
  have hf : Ieee.double.fractionBits = 52 := rfl
  rw [hf, e1]
  have hlp : Ieee.double.leastPlace = -1074 := by decide +kernel
  rw [hlp]
  dsimp only
  have e2 : ((0 : Int) - ((n.log2 : Int) - 52)).toNat = 52 - n.log2 := by omega
  have e3 : ((n.log2 : Int) - 52 - 0).toNat = 0 := by omega
  rw [e2, e3]
  have ecut : Toward.even.cut false (n <<< (52 - n.log2)) 0 = n * 2 ^ (52 - n.log2) := by
    unfold Toward.cut
    simp [Nat.shiftLeft_eq, Nat.mod_one]
  rw [ecut]
  have e4 : ((n.log2 : Int) - 52 - -1074).toNat = n.log2 + 1022 := by omega
  rw [e4]
  have hb : Ieee.double.binade = 2 ^ 52 := rfl
  have hinf : Ieee.double.infRung = 2047 * 2 ^ 52 := by decide +kernel
  rw [hb, hinf]
  have hk : n * 2 ^ (52 - n.log2) < 2 ^ 53 := by
    calc n * 2 ^ (52 - n.log2) < 2 ^ (n.log2 + 1) * 2 ^ (52 - n.log2) := Nat.mul_lt_mul_of_pos_right h2 (Nat.two_pow_pos _)
      _ = 2 ^ 53 := by rw [← Nat.pow_add]; congr 1; omega
  unfold Format.word
  rw [if_neg (by decide)]
  rw [Nat.min_eq_left]
  omega

theorem fw_read {n : Nat} (hn : n < 2 ^ 52) : ∃ m k : Nat, FloatKind.f64.decode (fw n) = .number false m (-(k : Int)) ∧ m = n * 2 ^ k := by
  by_cases h0 : n = 0
  · subst h0
    obtain ⟨k, hk⟩ : ∃ k : Nat, k = 1074 := ⟨_, rfl⟩
    exact ⟨0, k, by rw [hk]; decide +kernel, (Nat.zero_mul _).symm⟩
  · have h0 : 0 < n := by omega
    have hL : n.log2 < 52 := (Nat.log2_lt (by omega)).2 hn
    obtain ⟨h1, h2⟩ := log2_bd h0
    have hk1 : 2 ^ 52 ≤ n * 2 ^ (52 - n.log2) := by
      calc 2 ^ 52 = 2 ^ n.log2 * 2 ^ (52 - n.log2) := by rw [← Nat.pow_add]; congr 1; omega
        _ ≤ _ := Nat.mul_le_mul_right _ h1
    have hk : n * 2 ^ (52 - n.log2) < 2 ^ 53 := by
      calc n * 2 ^ (52 - n.log2) < 2 ^ (n.log2 + 1) * 2 ^ (52 - n.log2) := Nat.mul_lt_mul_of_pos_right h2 (Nat.two_pow_pos _)
        _ = 2 ^ 53 := by rw [← Nat.pow_add]; congr 1; omega
    refine ⟨n * 2 ^ (52 - n.log2), 52 - n.log2, ?_, rfl⟩
    rw [fw_pos h0 hn]
    obtain ⟨L, hLe⟩ : ∃ L, L = n.log2 := ⟨_, rfl⟩
    obtain ⟨m, hm⟩ : ∃ m, m = n * 2 ^ (52 - n.log2) := ⟨_, rfl⟩
    rw [← hm] at hk1 hk ⊢
    rw [← hLe] at hL ⊢
    have hlp : Ieee.double.leastPlace = -1074 := by decide +kernel
    have hinf : Ieee.double.infRung = 2047 * 2 ^ 52 := by decide +kernel
    have hsw : Ieee.double.signWeight = 2 ^ 63 := by decide +kernel
    have hb : Ieee.double.binade = 2 ^ 52 := rfl
    show Ieee.double.read _ = _
    unfold Format.read
    rw [hlp, hinf, hsw, hb]
    dsimp only
    have hr : (L + 1022) * 2 ^ 52 + m < 2 ^ 63 := by omega
    have hr1 : ((L + 1022) * 2 ^ 52 + m) % 2 ^ 63 = (L + 1022) * 2 ^ 52 + m := Nat.mod_eq_of_lt hr
    have hr2 : ((L + 1022) * 2 ^ 52 + m) / 2 ^ 63 = 0 := Nat.div_eq_of_lt hr
    rw [hr1, hr2]
    rw [if_neg (show ¬ (L + 1022) * 2 ^ 52 + m < 2 ^ 52 by omega), if_pos (show (L + 1022) * 2 ^ 52 + m < 2047 * 2 ^ 52 by omega)]
    have e1 : ((L + 1022) * 2 ^ 52 + m) % 2 ^ 52 = m - 2 ^ 52 := by omega
    have e2 : ((L + 1022) * 2 ^ 52 + m) / 2 ^ 52 = L + 1023 := by omega
    rw [e1, e2]
    have e3 : (-1074 + ((L + 1023 - 1 : Nat) : Int)) = -((52 - L : Nat) : Int) := by omega
    have e4 : 2 ^ 52 + (m - 2 ^ 52) = m := by omega
    rw [e3, e4]
    rfl

theorem fw_int {n : Nat} (hn : n < 2 ^ 52) : (FloatKind.f64.decode (fw n)).toInt .zero = some (n : Int) := by
  obtain ⟨m, k, h1, h2⟩ := fw_read hn
  rw [h1]
  unfold Datum.toInt Datum.integral
  dsimp only
  have e1 : (-(k : Int)).toNat = 0 := by omega
  have e2 : (- -(k : Int)).toNat = k := by omega
  rw [e1, e2, Nat.shiftLeft_zero]
  have ecut : Toward.zero.cut false m k = n := by
    unfold Toward.cut
    dsimp only
    rw [h2]
    by_cases h0 : n = 0
    · subst h0; simp
    · have hlog : (n * 2 ^ k).log2 ≥ k := by
        have := Nat.log2_self_le (n := n * 2 ^ k) (by have := Nat.two_pow_pos k; exact Nat.mul_ne_zero h0 (by omega))
        rw [ge_iff_le, Nat.le_log2 (by have := Nat.two_pow_pos k; exact Nat.mul_ne_zero h0 (by omega))]
        exact Nat.le_mul_of_pos_left _ (by omega)
      rw [Nat.min_eq_left (by omega), Nat.shiftLeft_eq, Nat.one_mul, Nat.mul_div_cancel _ (Nat.two_pow_pos k)]
      rfl
  rw [ecut]
  simp [signed]

theorem fw_ord {a b : Nat} (ha : a < 2 ^ 52) (hb : b < 2 ^ 52) : FloatKind.f64.format.order (fw a) (fw b) = some (compare a b) := by
  obtain ⟨m, i, h1, h2⟩ := fw_read ha
  obtain ⟨n, j, h3, h4⟩ := fw_read hb
  show (FloatKind.f64.decode (fw a)).order (FloatKind.f64.decode (fw b)) = _
  rw [h1, h3]
  unfold Datum.order
  dsimp only
  have e1 : (-(i : Int) - min (-(i : Int)) (-(j : Int))).toNat = max i j - i := by omega
  have e2 : (-(j : Int) - min (-(i : Int)) (-(j : Int))).toNat = max i j - j := by omega
  rw [e1, e2]
  have e3 : signed false m (max i j - i) = ((a * 2 ^ max i j : Nat) : Int) := by
    simp only [signed, Bool.false_eq_true, if_false, Nat.shiftLeft_eq, h2, Nat.mul_assoc, ← Nat.pow_add]
    congr 3; omega
  have e4 : signed false n (max i j - j) = ((b * 2 ^ max i j : Nat) : Int) := by
    simp only [signed, Bool.false_eq_true, if_false, Nat.shiftLeft_eq, h4, Nat.mul_assoc, ← Nat.pow_add]
    congr 3; omega
  rw [e3, e4]
  congr 1
  have hp := Nat.two_pow_pos (max i j)
  obtain ⟨p, hpe⟩ : ∃ p, p = 2 ^ max i j := ⟨_, rfl⟩
  rw [← hpe] at hp ⊢
  rcases Nat.lt_trichotomy a b with h | h | h
  · rw [(Nat.compare_eq_lt).2 h]
    have := Nat.mul_lt_mul_of_pos_right h hp
    exact Int.compare_eq_lt.2 (by exact_mod_cast this)
  · subst h; simp
  · rw [(Nat.compare_eq_gt).2 h]
    have := Nat.mul_lt_mul_of_pos_right h hp
    exact Int.compare_eq_gt.2 (by exact_mod_cast this)
end Eng
end Go.Proofs.YtalnkjpgnkfedaaGreatDoor
