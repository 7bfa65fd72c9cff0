/-
  Plain law of packed forms: no packed form is the beginning of another; what Get returns; how long packed forms are.
-/
import Derived.Test.YtighkjohpmlemaaPi
namespace Go.Proofs.Ytighkjohpmlemaa
open Go.RowKit
namespace Eng

theorem bitAt_app (ys zs : List Int) {p : Nat} (h : p < 8 * ys.length) : bitAt (ys ++ zs) p = bitAt ys p := by
  unfold bitAt
  rw [getD_app_left (by omega)]
theorem unpk_app (ys zs : List Int) {p l : Nat} (h : p + l ≤ 8 * ys.length) : unpk (ys ++ zs) p l = unpk ys p l := by
  unfold unpk
  apply List.map_congr_left
  intro i hi
  rw [List.mem_range] at hi
  exact bitAt_app ys zs (by omega)
theorem getGo_app (lens ys zs : List Int) (top : Nat) : ∀ f p long code, (getGo lens ys top f p long code).2.1 = 0 → getGo lens (ys ++ zs) top f p long code = getGo lens ys top f p long code
  | 0, p, long, code, h => rfl
  | f + 1, p, long, code, h => by
    unfold getGo at h ⊢
    by_cases hp : 8 * ys.length ≤ p
    · rw [if_pos hp] at h; simp at h
    · rw [if_neg hp] at h
      rw [if_neg hp, if_neg (by rw [List.length_append]; omega), bitAt_app ys zs (by omega)]
      by_cases h1 : firstB lens (long + 1) ≤ 2 * code + bitAt ys p ∧ 2 * code + bitAt ys p - firstB lens (long + 1) < manyB lens (long + 1)
      · rw [if_pos h1, if_pos h1]
      · rw [if_neg h1] at h
        rw [if_neg h1, if_neg h1]
        by_cases h2 : long + 1 < top
        · rw [if_pos h2] at h
          rw [if_pos h2, if_pos h2]
          exact getGo_app lens ys zs top f _ _ _ h
        · rw [if_neg h2, if_neg h2]
theorem tokB_app {lens ys : List Int} (zs : List Int) {p : Nat} {q : Tkn × Nat} (h : tokB lens ys p = some q) : tokB lens (ys ++ zs) p = some q := by
  unfold tokB at h ⊢
  by_cases h0 : okGet lens = false
  · rw [if_pos h0] at h; cases h
  rw [if_neg h0] at h
  rw [if_neg h0]
  by_cases h1 : (getB lens ys p).2.1 ≠ 0
  · rw [if_pos h1] at h; cases h
  rw [if_neg h1] at h
  have e : getB lens (ys ++ zs) p = getB lens ys p := getGo_app lens ys zs _ _ _ _ _ (Decidable.not_not.1 h1)
  rw [e, if_neg h1]
  by_cases h2 : (getB lens ys p).1 < 256
  · rw [if_pos h2] at h ⊢; exact h
  rw [if_neg h2] at h
  rw [if_neg h2]
  by_cases h3 : 8 * ys.length - (getB lens ys p).2.2 < 10
  · rw [if_pos h3] at h; cases h
  rw [if_neg h3] at h
  rw [if_neg (by rw [List.length_append]; omega), unpk_app ys zs (by omega)]
  exact h
theorem unGo_app {lens ys : List Int} (zs : List Int) (n : Nat) : ∀ (f p long : Nat) (ts : List Tkn), unGo lens ys n f p long = some ts → unGo lens (ys ++ zs) n f p long = some ts
  | f, p, long, ts, h => by
    unfold unGo at h ⊢
    by_cases h0 : n ≤ long
    · rw [if_pos h0] at h ⊢; exact h
    rw [if_neg h0] at h
    rw [if_neg h0]
    cases f with
    | zero => cases h
    | succ f =>
      dsimp only at h ⊢
      cases ht : tokB lens ys p with
      | none => rw [ht] at h; cases h
      | some q =>
        rw [tokB_app zs ht]
        rw [ht] at h
        obtain ⟨t, p'⟩ := q
        dsimp only at h ⊢
        cases hr : unGo lens ys n f p' (long + tlen t) with
        | none => rw [hr] at h; cases h
        | some r => rw [unGo_app zs n f p' _ r hr]; rw [hr] at h; exact h
theorem lensR_app {ys : List Int} (zs : List Int) {k : Nat} (h : 4 * k ≤ 8 * ys.length) : lensR (ys ++ zs) k = lensR ys k := by
  unfold lensR
  apply List.map_congr_left
  intro i hi
  rw [List.mem_range] at hi
  rw [unpk_app ys zs (by omega)]
theorem unB_app {M n : Nat} {ys x : List Int} (zs : List Int) (h : unB M ys n = some x) : unB M (ys ++ zs) n = some x := by
  unfold unB at h ⊢
  by_cases h0 : 8 * ys.length < 1280
  · rw [if_pos h0] at h; cases h
  rw [if_neg h0] at h
  rw [if_neg (by rw [List.length_append]; omega), lensR_app zs (by omega)]
  cases hu : unGo (lensR ys 320) ys n n 1280 0 with
  | none => rw [hu] at h; cases h
  | some ts => rw [unGo_app zs n n 1280 0 ts hu]; rw [hu] at h; exact h

theorem num_pre {m n : Nat} {a b : List Int} (hm : m < 62500) (hn : n < 62500) (h : numB m ++ a = numB n ++ b) : m = n ∧ a = b := by
  have h1 := ng_num hm a
  have h2 := ng_num hn b
  rw [h, h2] at h1
  injection h1 with h1
  injection h1 with h1 _
  subst h1
  exact ⟨rfl, List.append_cancel_left h⟩
/-- No compressed form is the beginning of another one. -/
theorem sq_pre {x y zs : List Int} (hx : Byts x) (hy : Byts y) (lx : x.length ≤ 12000) (ly : y.length ≤ 12000) (h : sqB y = sqB x ++ zs) : x = y := by
  unfold sqB at h
  rw [List.cons_append, List.append_assoc] at h
  injection h with _ h
  obtain ⟨h1, h2⟩ := num_pre (by omega) (by omega) h
  have e1 := unB_app zs (un_sq hx (Nat.le_refl _))
  have e2 := un_sq hy (Nat.le_refl _)
  rw [← h2, ← h1, e2] at e1
  injection e1 with e1
  exact e1.symm

theorem sqB_head (xs : List Int) : (sqB xs)[0]? = some 1 := rfl
theorem sqB_min (xs : List Int) : 161 < (sqB xs).length := by
  have h1 : 0 < (numB xs.length).length := by
    unfold numB
    cases xs.length with
    | zero => simp [numGo]
    | succ k => rw [numGo]; split <;> simp
  have h2 : (pk (sqBits (toksB xs))).length = ((sqBits (toksB xs)).length + 7) / 8 := length_pk _
  have h3 : (sqBits (toksB xs)).length = 1280 + ((toksB xs).flatMap (tkBits (lensOf (toksB xs)))).length := by unfold sqBits; rw [List.length_append, lnBits_len, lensOf_len]
  unfold sqB
  rw [List.length_cons, List.length_append]
  omega
theorem sqB_max {xs : List Int} (hb : Byts xs) (hl : xs.length ≤ 12000) : (sqB xs).length ≤ 4 + (1287 + 22 * (toksB xs).length) / 8 := by
  have h1 := numB_len (n := xs.length) (by omega)
  have h2 : (pk (sqBits (toksB xs))).length = ((sqBits (toksB xs)).length + 7) / 8 := length_pk _
  have h3 : (sqBits (toksB xs)).length = 1280 + ((toksB xs).flatMap (tkBits (lensOf (toksB xs)))).length := by unfold sqBits; rw [List.length_append, lnBits_len, lensOf_len]
  have h4 := tkBits_sum (ts := toksB xs) (l := toksB xs) (toksB_may hb) (fun t ht => ht)
  unfold sqB
  rw [List.length_cons, List.length_append]
  omega
theorem putB_short {xs : List Int} (h : xs.length ≤ 160) : putB xs = 0 :: xs := by
  have := sqB_min xs
  unfold putB
  rw [if_neg (by omega)]
theorem putB_len (xs : List Int) : 0 < (putB xs).length ∧ (putB xs).length ≤ xs.length + 1 := by
  have := sqB_min xs
  unfold putB
  split
  · omega
  · simp
theorem putB_min {xs : List Int} (hb : Byts xs) (hl : xs.length ≤ 12000) : (putB xs).length ≤ 4 + (1287 + 22 * (toksB xs).length) / 8 := by
  have := sqB_max hb hl
  unfold putB
  split
  · exact this
  · simp; omega
theorem putB_one {xs : List Int} : (putB xs).getD 0 0 = 0 ∧ putB xs = 0 :: xs ∨ (putB xs).getD 0 0 = 1 ∧ putB xs = sqB xs := by
  unfold putB
  split
  · exact .inr ⟨rfl, rfl⟩
  · exact .inl ⟨rfl, rfl⟩
theorem putB_inj {x y : List Int} (hx : Byts x) (hy : Byts y) (lx : x.length ≤ 12000) (ly : y.length ≤ 12000) (h : putB x = putB y) : x = y := by
  have h1 := open_put hx lx
  rw [h, open_put hy ly] at h1
  injection h1 with h1
  exact h1.symm
/-- A compressed form, cut off or with bytes behind it, is no packed form. -/
theorem put_cut {x y : List Int} {k : Nat} (hx : Byts x) (hy : Byts y) (lx : x.length ≤ 12000) (ly : y.length ≤ 12000) (h1 : (putB x).getD 0 0 ≠ 0) (hk : k < (putB x).length) : putB y ≠ (putB x).take k := by
  intro h
  have hl := (putB_len y).1
  rcases putB_one (xs := x) with ⟨e, _⟩ | ⟨_, e⟩
  · exact h1 e
  have hk0 : 0 < k := by
    rcases Nat.eq_zero_or_pos k with h0 | h0
    · rw [h0] at h; rw [h] at hl; simp at hl
    · exact h0
  rcases putB_one (xs := y) with ⟨e2, _⟩ | ⟨_, e2⟩
  · rw [h, List.getD_eq_getElem?_getD, List.getElem?_take_of_lt hk0, e, sqB_head] at e2
    cases e2
  have : sqB x = sqB y ++ (putB x).drop k := by rw [← e2, h, List.take_append_drop, e]
  have hxy := sq_pre hy hx ly lx this
  subst hxy
  have := congrArg List.length h
  rw [List.length_take] at this
  omega
theorem put_ext {x y : List Int} {c : Int} (hx : Byts x) (hy : Byts y) (lx : x.length ≤ 12000) (ly : y.length ≤ 12000) (h1 : (putB x).getD 0 0 ≠ 0) : putB y ≠ putB x ++ [c] := by
  intro h
  rcases putB_one (xs := x) with ⟨e, _⟩ | ⟨_, e⟩
  · exact h1 e
  rcases putB_one (xs := y) with ⟨e2, _⟩ | ⟨_, e2⟩
  · have h3 := (putB_len x).1
    rw [h, getD_app_left h3] at e2
    exact h1 e2
  have : sqB y = sqB x ++ [c] := by rw [← e2, h, e]
  have hxy := sq_pre hx hy lx ly this
  subst hxy
  have := congrArg List.length h
  simp at this

/-- What Get returns: the error, the bytes. -/
def gtB (bs : List Int) (most : Int) : Int × List Int := match openB bs with
  | none => (3, [])
  | some x => if ptE x ≠ 0 ∨ ptB x ≠ bs then (3, []) else if max most 0 < (x.length : Int) then (13, []) else (0, x)

theorem cpB_byts (back : Nat) : ∀ (n : Nat) (acc : List Int), Byts acc → Byts (cpB back n acc)
  | 0, acc, h => h
  | n + 1, acc, h => cpB_byts back n _ fun z hz => by
    rcases List.mem_append.1 hz with hz | hz
    · exact h z hz
    · rw [List.mem_singleton] at hz
      subst hz
      rw [List.getD_eq_getElem?_getD]
      cases hg : acc[acc.length - back]? with
      | none => simp
      | some z => exact h z (List.mem_of_getElem? hg)
theorem addB_byts {acc : List Int} {t : Tkn} (hm : mayT t = true) (h : Byts acc) : Byts (addB acc t) := by
  unfold addB
  split
  · intro z hz
    rcases List.mem_append.1 hz with hz | hz
    · exact h z hz
    · rw [List.mem_singleton] at hz
      rcases mayT_op hm with h1 | h1 <;> omega
  · exact cpB_byts _ _ _ h
theorem joinB_byts (most : Nat) : ∀ (ts : List Tkn) (acc : List Int), Byts acc → Byts (joinB most acc ts).2
  | [], acc, h => h
  | t :: r, acc, h => by
    unfold joinB
    by_cases h1 : mayT t = false
    · rw [if_pos h1]; exact fun z hz => by cases hz
    rw [if_neg h1]
    by_cases h2 : (acc.length : Int) < t.back
    · rw [if_pos h2]; exact fun z hz => by cases hz
    rw [if_neg h2]
    by_cases h3 : (most : Int) - acc.length < max t.long 1
    · rw [if_pos h3]; exact fun z hz => by cases hz
    rw [if_neg h3]
    exact joinB_byts most r _ (addB_byts (by simpa using h1) h)
theorem unB_byts {M n : Nat} {ys x : List Int} (h : unB M ys n = some x) : Byts x := by
  unfold unB at h
  split at h
  · cases h
  split at h
  · cases h
  · rename_i ts _
    split at h
    · injection h with h; subst h; exact joinB_byts M ts [] fun z hz => by cases hz
    · cases h
theorem openB_byts {bs x : List Int} (hb : Byts bs) (h : openB bs = some x) : Byts x := by
  unfold openB at h
  split at h
  · cases h
  split at h
  · injection h with h; subst h; exact fun z hz => hb z (List.mem_of_mem_drop hz)
  split at h
  · cases h
  split at h
  · cases h
  · exact unB_byts h

theorem gt_op {bs : List Int} (hb : Byts bs) (most : Int) : gtB bs most = (3, []) ∨ ∃ x, Byts x ∧ x.length ≤ 12000 ∧ putB x = bs ∧ gtB bs most = if max most 0 < (x.length : Int) then (13, []) else (0, x) := by
  cases h : openB bs with
  | none => left; unfold gtB; rw [h]
  | some x =>
    by_cases hp : ptE x ≠ 0 ∨ ptB x ≠ bs
    · left; unfold gtB; rw [h]; dsimp only; rw [if_pos hp]
    · right
      have h1 : ptE x = 0 := Decidable.not_not.1 fun hh => hp (.inl hh)
      have h2 : ptB x = bs := Decidable.not_not.1 fun hh => hp (.inr hh)
      have hl : x.length ≤ 12000 := by
        unfold ptE at h1
        split at h1
        · cases h1
        · omega
      have h3 : putB x = bs := by unfold ptB at h2; rw [if_neg (by omega)] at h2; exact h2
      refine ⟨x, openB_byts hb h, hl, h3, ?_⟩
      unfold gtB
      rw [h]
      dsimp only
      rw [if_neg hp]
theorem gt_put {x : List Int} (hx : Byts x) (lx : x.length ≤ 12000) (most : Int) : gtB (putB x) most = if max most 0 < (x.length : Int) then (13, []) else (0, x) := by
  unfold gtB
  rw [open_put hx lx]
  dsimp only
  rw [if_neg (by unfold ptE ptB; rw [if_neg (by omega), if_neg (by omega)]; simp)]
theorem gt_no {bs : List Int} (hb : Byts bs) (h : ∀ x, Byts x → x.length ≤ 12000 → putB x ≠ bs) (most : Int) : gtB bs most = (3, []) := by
  rcases gt_op hb most with h1 | ⟨x, h1, h2, h3, _⟩
  · exact h1
  · exact absurd h3 (h x h1 h2)

/-! Bytes that repeat. -/
def Per (p : Nat) (xs : List Int) : Prop := ∀ j, j + p < xs.length → xs.getD (j + p) 0 = xs.getD j 0
theorem best_per {p : Nat} {xs : List Int} (hp : Per p xs) (h1 : 1 ≤ p) (h2 : p ≤ 1024) {at_ : Nat} (ha : p ≤ at_) (hl : at_ < xs.length) (h3 : 3 ≤ mostB xs at_) : (bestB xs at_).2 = mostB xs at_ := by
  have hm : mostB xs at_ ≤ xs.length - at_ := by unfold mostB; omega
  have he : eqB xs at_ p (mostB xs at_) = mostB xs at_ := by
    unfold eqB
    rw [eqGo_all xs at_ p (mostB xs at_) 0 fun j _ hj => ?_, Nat.zero_add]
    have := hp (at_ + j - p) (by omega)
    rw [show at_ + j - p + p = at_ + j from by omega] at this
    exact this
  have hge := bestF_ge xs at_ (mostB xs at_) (min 1024 at_) p h1 (by omega)
  have hle := bestF_most xs at_ (mostB xs at_) (min 1024 at_)
  rw [he] at hge
  unfold bestB
  rw [if_neg (by omega)]
  omega
theorem toksAt_count (xs : List Int) {at_ : Nat} (h : at_ ≤ xs.length) : (toksAt xs at_).length ≤ xs.length - at_ := by
  have h1 := sum_tlen_ge (toksAt xs at_)
  have h2 := toks_len xs (xs.length - at_) at_ h (by omega)
  unfold toksAt at h1 ⊢
  omega
theorem toks_per {p : Nat} {xs : List Int} (hp : Per p xs) (h1 : 1 ≤ p) (h2 : p ≤ 1024) : ∀ (r at_ : Nat), p ≤ at_ → xs.length - at_ ≤ r → (toksAt xs at_).length ≤ (xs.length - at_) / 66 + 2
  | 0, at_, h3, h4 => by rw [toksAt_end xs (by omega)]; simp
  | r + 1, at_, h3, h4 => by
    rcases Nat.lt_or_ge at_ xs.length with hl | hl
    · rcases Nat.lt_or_ge (xs.length - at_) 3 with h5 | h5
      · have := toksAt_count xs (at_ := at_) (by omega); omega
      · have hm : mostB xs at_ = min 66 (xs.length - at_) := rfl
        have hb := best_per hp h1 h2 h3 hl (by omega)
        rw [toksAt_cp xs hl (by omega), List.length_cons]
        have ih := toks_per hp h1 h2 r (at_ + (bestB xs at_).2) (by omega) (by omega)
        by_cases h6 : xs.length - at_ ≤ 66
        · rw [toksAt_end xs (by omega)]; simp
        · omega
    · rw [toksAt_end xs hl]; simp
theorem toks_per0 {p : Nat} {xs : List Int} (hp : Per p xs) (h1 : 1 ≤ p) (h2 : p ≤ 1024) : ∀ (r at_ : Nat), p - at_ ≤ r → (toksAt xs at_).length ≤ (p - at_) + (xs.length - p) / 66 + 2
  | 0, at_, h3 => by
    have := toks_per hp h1 h2 (xs.length - at_) at_ (by omega) (Nat.le_refl _)
    have h5 : (xs.length - at_) / 66 ≤ (xs.length - p) / 66 := Nat.div_le_div_right (by omega)
    omega
  | r + 1, at_, h3 => by
    rcases Nat.lt_or_ge at_ xs.length with hl | hl
    · rcases Nat.lt_or_ge at_ p with hlt | hge
      · by_cases hb : (bestB xs at_).2 = 0
        · have ih := toks_per0 hp h1 h2 r (at_ + 1) (by omega)
          rw [toksAt_lit xs hl hb, List.length_cons]
          omega
        · have ih := toks_per0 hp h1 h2 r (at_ + (bestB xs at_).2) (by omega)
          rw [toksAt_cp xs hl hb, List.length_cons]
          omega
      · have := toks_per hp h1 h2 (xs.length - at_) at_ hge (Nat.le_refl _)
        have h5 : (xs.length - at_) / 66 ≤ (xs.length - p) / 66 := Nat.div_le_div_right (by omega)
        omega
    · rw [toksAt_end xs hl]; simp
/-- How long the packed form of bytes that repeat is. -/
theorem put_per {p : Nat} {xs : List Int} (hb : Byts xs) (hl : xs.length ≤ 12000) (hp : Per p xs) (h1 : 1 ≤ p) (h2 : p ≤ 1024) : (sqB xs).length ≤ 4 + (1287 + 22 * (p + (xs.length - p) / 66 + 2)) / 8 := by
  have h3 := sqB_max hb hl
  have h4 := toks_per0 hp h1 h2 p 0 (by omega)
  have h5 : (toksB xs).length ≤ p + (xs.length - p) / 66 + 2 := h4
  have : (1287 + 22 * (toksB xs).length) / 8 ≤ (1287 + 22 * (p + (xs.length - p) / 66 + 2)) / 8 := Nat.div_le_div_right (by omega)
  omega
end Eng
end Go.Proofs.Ytighkjohpmlemaa
