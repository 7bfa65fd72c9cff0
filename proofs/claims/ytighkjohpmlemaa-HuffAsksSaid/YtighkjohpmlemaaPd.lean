/-
  Plain law: canonical codes: no code begins another; what is written is read again.
-/
import Derived.Test.YtighkjohpmlemaaPc
namespace Go.Proofs.Ytighkjohpmlemaa
open Go.RowKit
namespace Eng

/-- The part of the code's room that lengths up to l take. -/
def ksum (zs : List Int) : Nat → Nat
  | 0 => 0
  | l + 1 => ksum zs l + manyB zs (l + 1) * 2 ^ (12 - (l + 1))

theorem ksum_eq (zs : List Int) : ∀ l, l ≤ 12 → 2 ^ (12 - l) * (firstB zs l + manyB zs l) = ksum zs l
  | 0, _ => by simp [firstB, manyB, ksum]
  | l + 1, h => by
    have ih := ksum_eq zs l (by omega)
    simp only [ksum, firstB]
    rw [← ih, show 12 - l = (12 - (l + 1)) + 1 from by omega, Nat.pow_succ]
    generalize 2 ^ (12 - (l + 1)) = p
    generalize firstB zs l + manyB zs l = q
    rw [Nat.mul_add, Nat.mul_comm (manyB zs (l + 1)) p]
    have : p * (q * 2) = p * 2 * q := by rw [Nat.mul_assoc, Nat.mul_comm 2 q]
    omega

theorem many_cons (z : Int) (r : List Int) (l : Nat) : manyB (z :: r) (l + 1) = manyB r (l + 1) + if z = ((l + 1 : Nat) : Int) then 1 else 0 := by
  unfold manyB
  rw [if_neg (by omega), if_neg (by omega), List.count_cons]
  by_cases h : z = ((l + 1 : Nat) : Int)
  · simp [h]
  · have : (z == ((l + 1 : Nat) : Int)) = false := by simpa using h
    rw [this, if_neg h]; rfl

theorem ksum_cons (z : Int) (r : List Int) : ∀ l, l ≤ 12 → ksum (z :: r) l = ksum r l + if 0 < z ∧ z ≤ l then mg z else 0
  | 0, _ => by simp only [ksum]; rw [if_neg (by omega)]
  | l + 1, h => by
    simp only [ksum]
    rw [ksum_cons z r l (by omega), many_cons, Nat.add_mul]
    by_cases h1 : z = ((l + 1 : Nat) : Int)
    · rw [if_pos h1, if_neg (by omega), if_pos (by omega)]
      unfold mg
      rw [if_pos (by omega), h1, Int.toNat_natCast]; omega
    · rw [if_neg h1]
      by_cases h2 : 0 < z ∧ z ≤ l
      · rw [if_pos h2, if_pos (by omega)]; omega
      · rw [if_neg h2, if_neg (by omega)]; omega

theorem ksum_all : ∀ zs : List Int, Lens zs → ksum zs 12 = (zs.map mg).sum
  | [], _ => by decide
  | z :: r, h => by
    have hz := h z (List.mem_cons_self ..)
    rw [ksum_cons z r 12 (by omega), ksum_all r fun y hy => h y (List.mem_cons_of_mem _ hy), List.map_cons, List.sum_cons]
    by_cases h0 : 0 < z
    · rw [if_pos (by omega)]; omega
    · rw [if_neg (by omega)]
      have : mg z = 0 := by unfold mg; rw [if_neg h0]
      omega

theorem ksum_le (zs : List Int) : ∀ l k, ksum zs l ≤ ksum zs (l + k)
  | l, 0 => Nat.le_refl _
  | l, k + 1 => by
    have := ksum_le zs l k
    show _ ≤ ksum zs (l + k) + _
    omega

theorem may_cases {zs : List Int} (h : mayB zs = true) : (npos zs = 0 ∧ (zs.map mg).sum = 0) ∨ (npos zs = 1 ∧ (zs.map mg).sum = 2048) ∨ (2 ≤ npos zs ∧ (zs.map mg).sum = 4096) := by
  have hL := may_lens h
  have hm := h
  unfold mayB at hm
  rw [Bool.and_eq_true, mayGo_eq zs 0 0 hL, mayGo_nil] at hm
  have hm := hm.2
  have zero : npos zs = 0 → (zs.map mg).sum = 0 := fun h0 => by
    unfold npos at h0
    rw [List.countP_eq_zero] at h0
    have : zs.map mg = zs.map fun _ => 0 := List.map_congr_left fun z hz => by
      have := h0 z hz
      unfold mg
      rw [if_neg (by simpa using this)]
    rw [this]
    have zs0 : ∀ l : List Int, (l.map fun _ => (0 : Nat)).sum = 0 := by
      intro l
      induction l with
      | nil => rfl
      | cons x r ih => rw [List.map_cons, List.sum_cons, ih]
    exact zs0 zs
  rcases Nat.eq_zero_or_pos (npos zs) with h0 | h0
  · exact .inl ⟨h0, zero h0⟩
  · rcases Nat.eq_or_lt_of_le h0 with h1 | h1
    · refine .inr (.inl ⟨by omega, ?_⟩)
      rw [if_pos (by omega)] at hm
      simp only [decide_eq_true_eq] at hm
      omega
    · refine .inr (.inr ⟨by omega, ?_⟩)
      rw [if_neg (by omega)] at hm
      simp only [Bool.or_eq_true, decide_eq_true_eq] at hm
      omega

theorem first_le {zs : List Int} (h : mayB zs = true) (l : Nat) (hl : l ≤ 12) : firstB zs l + manyB zs l ≤ 2 ^ l := by
  have h1 := ksum_eq zs l hl
  have h2 := ksum_le zs l (12 - l)
  rw [show l + (12 - l) = 12 from by omega, ksum_all zs (may_lens h)] at h2
  have h3 : (zs.map mg).sum ≤ 4096 := by rcases may_cases h with ⟨_, e⟩ | ⟨_, e⟩ | ⟨_, e⟩ <;> omega
  have h4 : 2 ^ (12 - l) * 2 ^ l = 4096 := by rw [← Nat.pow_add, show 12 - l + l = 12 from by omega]
  rcases Nat.lt_or_ge (2 ^ l) (firstB zs l + manyB zs l) with h5 | h5
  · have h6 : 2 ^ (12 - l) * (2 ^ l + 1) ≤ 2 ^ (12 - l) * (firstB zs l + manyB zs l) := Nat.mul_le_mul_left _ h5
    have h7 : 0 < 2 ^ (12 - l) := Nat.pow_pos (by decide)
    rw [Nat.mul_add] at h6
    omega
  · exact h5

theorem first_next (zs : List Int) (l : Nat) : ∀ k, 2 ^ (k + 1) * (firstB zs l + manyB zs l) ≤ firstB zs (l + k + 1)
  | 0 => by simp only [firstB]; omega
  | k + 1 => by
    have ih := first_next zs l k
    show _ ≤ (firstB zs (l + k + 1) + manyB zs (l + k + 1)) * 2
    have e : 2 ^ (k + 1 + 1) * (firstB zs l + manyB zs l) = 2 ^ (k + 1) * (firstB zs l + manyB zs l) * 2 := by rw [Nat.pow_succ 2 (k + 1), Nat.mul_right_comm]
    omega

theorem code_eq {zs : List Int} {s q : Nat} (hs : zs[s]? = some (q : Int)) (hq : 0 < q) : codeB zs s = firstB zs q + (zs.take s).count (q : Int) := by
  unfold codeB
  rw [hs]
  dsimp only
  rw [if_pos (by omega), Int.toNat_natCast]
theorem code_bd {zs : List Int} {s q : Nat} (hs : zs[s]? = some (q : Int)) (hq : 0 < q) : firstB zs q ≤ codeB zs s ∧ codeB zs s < firstB zs q + manyB zs q := by
  rw [code_eq hs hq]
  have := take_count_lt hs
  have h3 : manyB zs q = zs.count (q : Int) := by unfold manyB; rw [if_neg (by omega)]
  omega
theorem code_lt {zs : List Int} {s q : Nat} (h : mayB zs = true) (hs : zs[s]? = some (q : Int)) (hq : 0 < q) : codeB zs s < 2 ^ q := by
  have h1 := code_bd hs hq
  have h2 := first_le h q (by have := (may_lens h _ (List.mem_of_getElem? hs)).2; omega)
  omega

/-- A shorter code is below every beginning of a longer one. -/
theorem code_below {zs : List Int} {t l l' : Nat} (ht : zs[t]? = some (l' : Int)) (hlt : l < l') : firstB zs l + manyB zs l ≤ codeB zs t / 2 ^ (l' - l) := by
  have h1 := (code_bd ht (by omega)).1
  have h2 := first_next zs l (l' - l - 1)
  rw [show l' - l - 1 + 1 = l' - l from by omega, show l + (l' - l - 1) + 1 = l' from by omega] at h2
  rw [Nat.le_div_iff_mul_le (Nat.pow_pos (by decide)), Nat.mul_comm]
  omega

theorem count_take_lt {zs : List Int} {s t : Nat} {z : Int} (hs : zs[s]? = some z) (hst : s < t) : (zs.take s).count z < (zs.take t).count z := by
  have e : zs.take t = zs.take s ++ z :: (zs.drop (s + 1)).take (t - s - 1) := by
    have h1 : zs.take t = zs.take s ++ (zs.drop s).take (t - s) := by
      have := List.take_add (l := zs) (i := s) (j := t - s)
      rwa [show s + (t - s) = t from by omega] at this
    have hlt : s < zs.length := (List.getElem?_eq_some_iff.1 hs).1
    have hz : zs[s] = z := by rw [List.getElem?_eq_getElem hlt] at hs; injection hs
    rw [h1, List.drop_eq_getElem_cons hlt, hz, show t - s = (t - s - 1) + 1 from by omega, List.take_succ_cons]
    rfl
  rw [e, List.count_append, List.count_cons_self]
  omega

theorem code_free {zs : List Int} {s t l l' : Nat} (hs : zs[s]? = some (l : Int)) (ht : zs[t]? = some (l' : Int)) (hl : 0 < l) (hle : l ≤ l') (hst : s ≠ t) : codeB zs t / 2 ^ (l' - l) ≠ codeB zs s := by
  rcases Nat.eq_or_lt_of_le hle with h | h
  · subst h
    rw [Nat.sub_self, Nat.pow_zero, Nat.div_one, code_eq hs hl, code_eq ht hl]
    rcases Nat.lt_or_ge s t with h | h
    · have := count_take_lt hs h; omega
    · have := count_take_lt ht (show t < s by omega); omega
  · have h1 := code_below ht h
    have h2 := (code_bd hs hl).2
    omega

/-- The symbol is found by its place among those of its length. -/
theorem symGo_spec : ∀ (zs : List Int) (l : Int) (s i : Nat), zs[s]? = some l → symGo zs l ((zs.take s).count l) i = i + s
  | [], l, s, i, h => by simp at h
  | z :: r, l, 0, i, h => by
    have : z = l := by simpa using h
    subst this
    simp [symGo]
  | z :: r, l, s + 1, i, h => by
    have h' : r[s]? = some l := by simpa using h
    have ih := symGo_spec r l s (i + 1) h'
    rw [List.take_succ_cons, List.count_cons]
    by_cases hz : z = l
    · subst hz
      simp only [beq_self_eq_true, if_true]
      unfold symGo
      rw [if_pos rfl]
      show symGo r z ((r.take s).count z) (i + 1) = _
      rw [ih]; omega
    · have hb : (z == l) = false := by simpa using hz
      rw [hb]
      unfold symGo
      rw [if_neg hz]
      show symGo r l ((r.take s).count l + 0) (i + 1) = _
      rw [Nat.add_zero, ih]; omega
theorem symB_spec {zs : List Int} {l : Int} {s : Nat} (h : zs[s]? = some l) : symB zs l ((zs.take s).count l) = s := by
  unfold symB
  rw [symGo_spec zs l s 0 h]; omega

/-- Reading the code of a symbol. -/
theorem getGo_hit {zs ys : List Int} {s q top : Nat} (hs : zs[s]? = some (q : Int)) (hq : 0 < q) (htop : q ≤ top) (p0 : Nat) (hlen : p0 + q ≤ 8 * ys.length) (hbits : ∀ j, j < q → bitAt ys (p0 + j) = codeB zs s / 2 ^ (q - j - 1) % 2) (hc : codeB zs s < 2 ^ q) :
    ∀ (d f long : Nat), long + d = q → 0 < d → d ≤ f → getGo zs ys top f (p0 + long) long (codeB zs s / 2 ^ d) = ((s : Int), 0, p0 + q)
  | 0, f, long, h1, h2, h3 => by omega
  | d + 1, 0, long, h1, h2, h3 => by omega
  | d + 1, f + 1, long, h1, h2, h3 => by
    unfold getGo
    rw [if_neg (by omega)]
    have hb := hbits long (by omega)
    have hcode : 2 * (codeB zs s / 2 ^ (d + 1)) + bitAt ys (p0 + long) = codeB zs s / 2 ^ d := by
      rw [hb, show q - long - 1 = d from by omega, Nat.pow_succ, ← Nat.div_div_eq_div_mul]
      omega
    rw [hcode]
    cases d with
    | zero =>
      have hl : long + 1 = q := by omega
      rw [hl, Nat.pow_zero, Nat.div_one]
      have hbd := code_bd hs hq
      rw [if_pos (by omega)]
      have e : codeB zs s - firstB zs q = (zs.take s).count (q : Int) := by rw [code_eq hs hq]; omega
      rw [e, symB_spec hs]
      congr 2
      omega
    | succ d =>
      have hb2 := code_below (l := long + 1) hs (by omega)
      rw [show q - (long + 1) = d + 1 from by omega] at hb2
      rw [if_neg (by omega), if_pos (by omega)]
      exact getGo_hit hs hq htop p0 hlen hbits hc (d + 1) f (long + 1) (by omega) (by omega) (by omega)

theorem bitsOf_get (n : Nat) : ∀ (L j : Nat), j < L → (bitsOf n L)[j]? = some (n / 2 ^ (L - j - 1) % 2)
  | 0, j, h => by omega
  | L + 1, 0, h => by simp [bitsOf]
  | L + 1, j + 1, h => by
    simp only [bitsOf, List.getElem?_cons_succ]
    rw [bitsOf_get n L j (by omega), show L + 1 - (j + 1) - 1 = L - j - 1 from by omega]

theorem get_hit {zs ys : List Int} {s q : Nat} (h : mayB zs = true) (hs : zs[s]? = some (q : Int)) (hq : 0 < q) (p : Nat) (hlen : p + q ≤ 8 * ys.length) (hbits : unpk ys p q = bitsOf (codeB zs s) q) : getB zs ys p = ((s : Int), 0, p + q) := by
  have hmem := maxL_le (List.mem_of_getElem? hs)
  have hc := code_lt h hs hq
  unfold getB
  have := getGo_hit (top := (maxL zs).toNat) hs hq (by omega) p hlen (fun j hj => by
    have h1 := bitsOf_get (codeB zs s) q j hj
    rw [← hbits] at h1
    unfold unpk at h1
    rw [List.getElem?_map, List.getElem?_range hj] at h1
    injection h1) hc q (maxL zs).toNat 0 (by omega) hq (by omega)
  rw [Nat.div_eq_of_lt hc] at this
  exact this
end Eng
end Go.Proofs.Ytighkjohpmlemaa
