/-
  Plain law: tokens of bytes: the longest match, all tokens, what they stand for.
-/
import Derived.Test.YtighkjohpmlemaaMem
namespace Go.Proofs.Ytighkjohpmlemaa
namespace Eng

/-- A token: a byte, or a copy (lit -1). -/
structure Tkn where
  lit : Int
  back : Int
  long : Int
deriving DecidableEq

/-- How many bytes from at on equal those back before them, n of them known, k at most more. -/
def eqGo (xs : List Int) (at_ back : Nat) (n : Nat) : Nat → Nat
  | 0 => n
  | k + 1 => if xs.getD (at_ + n) 0 = xs.getD (at_ + n - back) 0 then eqGo xs at_ back (n + 1) k else n
def eqB (xs : List Int) (at_ back most : Nat) : Nat := eqGo xs at_ back 0 most

theorem eqGo_le (xs : List Int) (at_ back : Nat) : ∀ (k n : Nat), eqGo xs at_ back n k ≤ n + k ∧ n ≤ eqGo xs at_ back n k
  | 0, n => by simp [eqGo]
  | k + 1, n => by
    rw [eqGo]
    split
    · have := eqGo_le xs at_ back k (n + 1); omega
    · omega
theorem eqB_le (xs : List Int) (at_ back most : Nat) : eqB xs at_ back most ≤ most := by have := (eqGo_le xs at_ back most 0).1; unfold eqB; omega
theorem eqGo_same (xs : List Int) (at_ back : Nat) : ∀ (k n : Nat), ∀ j, n ≤ j → j < eqGo xs at_ back n k → xs.getD (at_ + j) 0 = xs.getD (at_ + j - back) 0
  | 0, n, j, h1, h2 => by rw [eqGo] at h2; omega
  | k + 1, n, j, h1, h2 => by
    rw [eqGo] at h2
    split at h2
    · rename_i he
      by_cases e : j = n
      · rw [e]; exact he
      · exact eqGo_same xs at_ back k (n + 1) j (by omega) h2
    · omega
theorem eqB_same {xs : List Int} {at_ back most j : Nat} (h : j < eqB xs at_ back most) : xs.getD (at_ + j) 0 = xs.getD (at_ + j - back) 0 := eqGo_same xs at_ back most 0 j (Nat.zero_le _) h
theorem eqGo_all (xs : List Int) (at_ back : Nat) : ∀ (k n : Nat), (∀ j, n ≤ j → j < n + k → xs.getD (at_ + j) 0 = xs.getD (at_ + j - back) 0) → eqGo xs at_ back n k = n + k
  | 0, n, _ => rfl
  | k + 1, n, h => by
    rw [eqGo, if_pos (h n (Nat.le_refl _) (by omega)), eqGo_all xs at_ back k (n + 1) fun j h1 h2 => h j (by omega) (by omega)]
    omega

/-- The best of the distances 1 to k: the first of the longest. -/
def bestF (xs : List Int) (at_ most : Nat) : Nat → Nat × Nat
  | 0 => (0, 0)
  | k + 1 => if (bestF xs at_ most k).2 < eqB xs at_ (k + 1) most then (k + 1, eqB xs at_ (k + 1) most) else bestF xs at_ most k
def mostB (xs : List Int) (at_ : Nat) : Nat := min 66 (xs.length - at_)
def bestB (xs : List Int) (at_ : Nat) : Nat × Nat := if (bestF xs at_ (mostB xs at_) (min 1024 at_)).2 < 3 then (0, 0) else bestF xs at_ (mostB xs at_) (min 1024 at_)

theorem bestF_ok (xs : List Int) (at_ most : Nat) : ∀ k, bestF xs at_ most k = (0, 0) ∨ (1 ≤ (bestF xs at_ most k).1 ∧ (bestF xs at_ most k).1 ≤ k ∧ 0 < (bestF xs at_ most k).2 ∧ (bestF xs at_ most k).2 = eqB xs at_ (bestF xs at_ most k).1 most)
  | 0 => .inl rfl
  | k + 1 => by
    rw [bestF]
    split
    · right; dsimp only; exact ⟨by omega, by omega, by omega, rfl⟩
    · rcases bestF_ok xs at_ most k with h | ⟨h1, h2, h3, h4⟩
      · exact .inl h
      · exact .inr ⟨h1, by omega, h3, h4⟩
theorem bestF_ge (xs : List Int) (at_ most : Nat) : ∀ k d, 1 ≤ d → d ≤ k → eqB xs at_ d most ≤ (bestF xs at_ most k).2
  | 0, d, h1, h2 => by omega
  | k + 1, d, h1, h2 => by
    rw [bestF]
    by_cases e : d = k + 1
    · subst e; split <;> (try dsimp only) <;> omega
    · have := bestF_ge xs at_ most k d h1 (by omega)
      split
      · dsimp only; omega
      · exact this
theorem bestF_most (xs : List Int) (at_ most k : Nat) : (bestF xs at_ most k).2 ≤ most := by
  rcases bestF_ok xs at_ most k with h | ⟨_, _, _, h⟩
  · rw [h]; exact Nat.zero_le _
  · rw [h]; exact eqB_le _ _ _ _
/-- No further distance gives more than all there is. -/
theorem bestF_stop (xs : List Int) (at_ most : Nat) {k : Nat} (h : most ≤ (bestF xs at_ most k).2) : ∀ j, bestF xs at_ most (k + j) = bestF xs at_ most k
  | 0 => rfl
  | j + 1 => by
    show bestF xs at_ most (k + j + 1) = _
    rw [bestF, bestF_stop xs at_ most h j, if_neg (by have := eqB_le xs at_ (k + j + 1) most; omega)]

/-- What the longest match is. -/
structure BestOK (xs : List Int) (at_ : Nat) (r : Nat × Nat) : Prop where
  b1 : 1 ≤ r.1
  b2 : r.1 ≤ 1024
  b3 : r.1 ≤ at_
  l1 : 3 ≤ r.2
  l2 : r.2 ≤ 66
  l3 : at_ + r.2 ≤ xs.length
  same : ∀ j, j < r.2 → xs.getD (at_ + j) 0 = xs.getD (at_ + j - r.1) 0
theorem bestB_ok (xs : List Int) (at_ : Nat) : bestB xs at_ = (0, 0) ∨ BestOK xs at_ (bestB xs at_) := by
  unfold bestB
  split
  · exact .inl rfl
  · rename_i h3
    rcases bestF_ok xs at_ (mostB xs at_) (min 1024 at_) with h | ⟨h1, h2, _, h4⟩
    · rw [h] at h3; exact absurd (by decide) h3
    · have h5 := bestF_most xs at_ (mostB xs at_) (min 1024 at_)
      have h6 : mostB xs at_ ≤ 66 ∧ at_ + mostB xs at_ ≤ max xs.length at_ := by unfold mostB; omega
      exact .inr ⟨h1, by omega, by omega, by omega, by omega, by omega, fun j hj => by rw [h4] at hj; exact eqB_same hj⟩

def toksGo (xs : List Int) : Nat → Nat → List Tkn
  | 0, _ => []
  | f + 1, at_ => if xs.length ≤ at_ then [] else
    if (bestB xs at_).2 = 0 then ⟨xs.getD at_ 0, 0, 0⟩ :: toksGo xs f (at_ + 1)
    else ⟨-1, (bestB xs at_).1, (bestB xs at_).2⟩ :: toksGo xs f (at_ + (bestB xs at_).2)
def toksAt (xs : List Int) (at_ : Nat) : List Tkn := toksGo xs (xs.length - at_) at_
def toksB (xs : List Int) : List Tkn := toksAt xs 0

theorem toksGo_fuel (xs : List Int) : ∀ (f at_ : Nat), xs.length - at_ ≤ f → toksGo xs f at_ = toksAt xs at_ := by
  intro f
  induction f using Nat.strongRecOn with
  | ind f ih =>
    intro at_ h
    unfold toksAt
    obtain ⟨g, hg⟩ : ∃ g, g = xs.length - at_ := ⟨_, rfl⟩
    rw [← hg]
    match f, g with
    | 0, 0 => rfl
    | 0, g + 1 => omega
    | f + 1, 0 => show (if xs.length ≤ at_ then _ else _) = _; rw [if_pos (by omega)]; rfl
    | f + 1, g + 1 =>
      show (if xs.length ≤ at_ then _ else _) = (if xs.length ≤ at_ then _ else _)
      have hh : ¬ xs.length ≤ at_ := by omega
      rw [if_neg hh, if_neg hh]
      rw [ih f (by omega) (at_ + 1) (by omega)]
      have e1 : toksGo xs g (at_ + 1) = toksAt xs (at_ + 1) := by unfold toksAt; rw [show xs.length - (at_ + 1) = g from by omega]
      rw [e1]
      split
      · rfl
      · rw [ih f (by omega) (at_ + (bestB xs at_).2) (by omega)]
        congr 1
        by_cases hfg : g = f
        · rw [hfg]; exact (ih f (by omega) _ (by omega)).symm
        · exact (ih g (by omega) _ (by omega)).symm
theorem toksAt_end (xs : List Int) {at_ : Nat} (h : xs.length ≤ at_) : toksAt xs at_ = [] := by unfold toksAt; rw [show xs.length - at_ = 0 from by omega]; rfl
theorem toksAt_lit (xs : List Int) {at_ : Nat} (h : at_ < xs.length) (hb : (bestB xs at_).2 = 0) : toksAt xs at_ = ⟨xs.getD at_ 0, 0, 0⟩ :: toksAt xs (at_ + 1) := by
  rw [toksAt, show xs.length - at_ = (xs.length - at_ - 1) + 1 from by omega, toksGo, if_neg (by omega), if_pos hb, toksGo_fuel _ _ _ (by omega)]
theorem toksAt_cp (xs : List Int) {at_ : Nat} (h : at_ < xs.length) (hb : (bestB xs at_).2 ≠ 0) : toksAt xs at_ = ⟨-1, (bestB xs at_).1, (bestB xs at_).2⟩ :: toksAt xs (at_ + (bestB xs at_).2) := by
  rw [toksAt, show xs.length - at_ = (xs.length - at_ - 1) + 1 from by omega, toksGo, if_neg (by omega), if_neg hb, toksGo_fuel _ _ _ (by omega)]

/-- May a token be? -/
def mayT (t : Tkn) : Bool := if t.lit = -1 then decide (1 ≤ t.back) && decide (t.back ≤ 1024) && decide (3 ≤ t.long) && decide (t.long ≤ 66) else decide (0 ≤ t.lit) && decide (t.lit ≤ 255) && decide (t.back = 0) && decide (t.long = 0)

theorem mayT_op {t : Tkn} (h : mayT t = true) : (t.lit = -1 ∧ 1 ≤ t.back ∧ t.back ≤ 1024 ∧ 3 ≤ t.long ∧ t.long ≤ 66) ∨ (0 ≤ t.lit ∧ t.lit ≤ 255 ∧ t.back = 0 ∧ t.long = 0) := by
  unfold mayT at h
  split at h
  · simp only [Bool.and_eq_true, decide_eq_true_eq] at h; omega
  · simp only [Bool.and_eq_true, decide_eq_true_eq] at h; omega
theorem mayT_of {t : Tkn} (h : (t.lit = -1 ∧ 1 ≤ t.back ∧ t.back ≤ 1024 ∧ 3 ≤ t.long ∧ t.long ≤ 66) ∨ (0 ≤ t.lit ∧ t.lit ≤ 255 ∧ t.back = 0 ∧ t.long = 0)) : mayT t = true := by
  unfold mayT
  rcases h with h | h
  · rw [if_pos h.1]; simp only [Bool.and_eq_true, decide_eq_true_eq]; omega
  · rw [if_neg (by omega)]; simp only [Bool.and_eq_true, decide_eq_true_eq]; omega

theorem toks_may {xs : List Int} (hb : ∀ z ∈ xs, 0 ≤ z ∧ z < 256) : ∀ (f at_ : Nat), ∀ t ∈ toksGo xs f at_, mayT t = true
  | 0, _, t, h => by cases h
  | f + 1, at_, t, h => by
    rw [toksGo] at h
    split at h
    · cases h
    · split at h
      · rcases List.mem_cons.1 h with rfl | h
        · have hlt : at_ < xs.length := by omega
          have := hb _ (List.getElem_mem hlt)
          refine mayT_of (.inr ?_)
          dsimp only
          rw [List.getD_eq_getElem?_getD, List.getElem?_eq_getElem hlt]
          simp only [Option.getD_some]
          exact ⟨this.1, by omega, trivial, trivial⟩
        · exact toks_may hb f _ t h
      · rename_i hne
        rcases List.mem_cons.1 h with rfl | h
        · rcases bestB_ok xs at_ with e | e
          · rw [e] at hne; exact absurd rfl hne
          · have := e.b1; have := e.b2; have := e.l1; have := e.l2
            exact mayT_of (.inl ⟨rfl, by dsimp only; omega, by dsimp only; omega, by dsimp only; omega, by dsimp only; omega⟩)
        · exact toks_may hb f _ t h

/-- A copy of n bytes, one by one. -/
def cpB (back : Nat) : Nat → List Int → List Int
  | 0, acc => acc
  | n + 1, acc => cpB back n (acc ++ [acc.getD (acc.length - back) 0])
def addB (acc : List Int) (t : Tkn) : List Int := if 0 ≤ t.lit then acc ++ [t.lit] else cpB t.back.toNat t.long.toNat acc
/-- What tokens stand for; the code, the bytes. -/
def joinB (most : Nat) : List Int → List Tkn → Int × List Int
  | acc, [] => (0, acc)
  | acc, t :: r => if mayT t = false then (1, []) else if (acc.length : Int) < t.back then (2, []) else if (most : Int) - acc.length < max t.long 1 then (13, []) else joinB most (addB acc t) r

theorem cpB_len (back : Nat) : ∀ (n : Nat) (acc : List Int), (cpB back n acc).length = acc.length + n
  | 0, acc => rfl
  | n + 1, acc => by rw [cpB, cpB_len back n]; simp; omega
theorem take_snoc {xs : List Int} {n : Nat} (h : n < xs.length) : xs.take n ++ [xs.getD n 0] = xs.take (n + 1) := by
  rw [List.take_add_one, List.getD_eq_getElem?_getD, List.getElem?_eq_getElem h]; rfl
theorem cpB_take (xs : List Int) (back : Nat) (hb : 1 ≤ back) : ∀ (n at_ : Nat), back ≤ at_ → at_ + n ≤ xs.length → (∀ j, j < n → xs.getD (at_ + j) 0 = xs.getD (at_ + j - back) 0) → cpB back n (xs.take at_) = xs.take (at_ + n)
  | 0, _, _, _, _ => rfl
  | n + 1, at_, h1, h2, h3 => by
    have hl : (xs.take at_).length = at_ := by rw [List.length_take]; omega
    have e : (xs.take at_).getD (at_ - back) 0 = xs.getD at_ 0 := by
      rw [List.getD_eq_getElem?_getD, List.getElem?_take_of_lt (by omega), ← List.getD_eq_getElem?_getD]
      have := h3 0 (by omega)
      rw [Nat.add_zero] at this
      exact this.symm
    rw [cpB, hl, e, take_snoc (by omega), cpB_take xs back hb n (at_ + 1) (by omega) (by omega) fun j hj => by
      have := h3 (j + 1) (by omega)
      rwa [show at_ + (j + 1) = at_ + 1 + j from by omega] at this]
    congr 1; omega
/-- All tokens of bytes stand for them. -/
theorem join_toks {xs : List Int} (hb : ∀ z ∈ xs, 0 ≤ z ∧ z < 256) {most : Nat} (hm : xs.length ≤ most) : ∀ (f at_ : Nat), at_ ≤ xs.length → xs.length - at_ ≤ f → joinB most (xs.take at_) (toksGo xs f at_) = (0, xs)
  | 0, at_, h1, h2 => by
    rw [toksGo, joinB, List.take_of_length_le (by omega)]
  | f + 1, at_, h1, h2 => by
    have hmay := toks_may hb (f + 1) at_
    have hl : (xs.take at_).length = at_ := by rw [List.length_take]; omega
    rw [toksGo] at hmay ⊢
    split at hmay
    · rename_i he
      rw [if_pos he, joinB, List.take_of_length_le (by omega)]
    · rename_i he
      rw [if_neg he]
      split at hmay
      · rename_i h0
        rw [if_pos h0, joinB, hmay _ (List.mem_cons_self), if_neg (by decide), hl, if_neg (by dsimp only; omega), if_neg (by dsimp only; omega)]
        have : addB (xs.take at_) ⟨xs.getD at_ 0, 0, 0⟩ = xs.take (at_ + 1) := by
          unfold addB
          have hlt : at_ < xs.length := by omega
          have := hb _ (List.getElem_mem hlt)
          rw [if_pos (by dsimp only; rw [List.getD_eq_getElem?_getD, List.getElem?_eq_getElem hlt]; exact this.1), take_snoc hlt]
        rw [this, join_toks hb hm f (at_ + 1) (by omega) (by omega)]
      · rename_i h0
        rcases bestB_ok xs at_ with e | e
        · rw [e] at h0; exact absurd rfl h0
        · have := e.b1; have := e.b3; have := e.l1; have := e.l3
          rw [if_neg h0, joinB, hmay _ (List.mem_cons_self), if_neg (by decide), hl, if_neg (by dsimp only; omega), if_neg (by dsimp only; omega)]
          have : addB (xs.take at_) ⟨-1, (bestB xs at_).1, (bestB xs at_).2⟩ = xs.take (at_ + (bestB xs at_).2) := by
            unfold addB
            rw [if_neg (show ¬ (0 : Int) ≤ -1 by decide), Int.toNat_natCast, Int.toNat_natCast]
            exact cpB_take xs _ e.b1 _ _ e.b3 e.l3 e.same
          rw [this, join_toks hb hm f _ (by omega) (by omega)]
theorem join_toksB {xs : List Int} (hb : ∀ z ∈ xs, 0 ≤ z ∧ z < 256) {most : Nat} (hm : xs.length ≤ most) : joinB most [] (toksB xs) = (0, xs) := by
  have := join_toks hb hm xs.length 0 (Nat.zero_le _) (by omega)
  rw [List.take_zero] at this
  exact this
/-- The lengths of the tokens are those of the bytes. -/
def tlen (t : Tkn) : Nat := (max t.long 1).toNat
theorem toks_len (xs : List Int) : ∀ (f at_ : Nat), at_ ≤ xs.length → xs.length - at_ ≤ f → ((toksGo xs f at_).map tlen).sum = xs.length - at_
  | 0, at_, h1, h2 => by rw [toksGo]; simp; omega
  | f + 1, at_, h1, h2 => by
    rw [toksGo]
    split
    · simp; omega
    · split
      · rw [List.map_cons, List.sum_cons, toks_len xs f (at_ + 1) (by omega) (by omega)]
        show (max (0 : Int) 1).toNat + _ = _
        have : (max (0 : Int) 1).toNat = 1 := rfl
        omega
      · rename_i h0
        rcases bestB_ok xs at_ with e | e
        · rw [e] at h0; exact absurd rfl h0
        · have := e.b1; have := e.b3; have := e.l1; have := e.l3
          rw [List.map_cons, List.sum_cons, toks_len xs f _ (by omega) (by omega)]
          show (max (((bestB xs at_).2 : Nat) : Int) 1).toNat + _ = _
          omega
end Eng
end Go.Proofs.Ytighkjohpmlemaa
