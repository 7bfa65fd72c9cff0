/-
  Plain law: a block, packed: numbers as bytes, symbols of tokens, the packed form, and what is read of it.
-/
import Derived.Test.YtighkjohpmlemaaMc
import Derived.Test.YtighkjohpmlemaaRo
namespace Go.Proofs.Ytighkjohpmlemaa
open Go.RowKit
namespace Eng

/-- A number as bytes. -/
def numGo : Nat → Nat → List Int
  | 0, n => [(n : Int)]
  | f + 1, n => if n < 250 then [(n : Int)] else 250 :: ((n % 250 : Nat) : Int) :: numGo f (n / 250)
def numB (n : Nat) : List Int := numGo n n
theorem numB_small {n : Nat} (h : n < 250) : numB n = [(n : Int)] := by
  unfold numB
  cases n with
  | zero => rfl
  | succ k => rw [numGo, if_pos h]
theorem numB_two {n : Nat} (h : 250 ≤ n) (h2 : n < 62500) : numB n = [250, ((n % 250 : Nat) : Int), ((n / 250 : Nat) : Int)] := by
  unfold numB
  obtain ⟨k, rfl⟩ : ∃ k, n = k + 1 := ⟨n - 1, by omega⟩
  rw [numGo, if_neg (by omega)]
  cases k with
  | zero => omega
  | succ k => rw [numGo, if_pos (by omega)]
theorem numB_len {n : Nat} (h : n < 62500) : (numB n).length ≤ 3 := by
  rcases Nat.lt_or_ge n 250 with h1 | h1
  · rw [numB_small h1]; simp
  · rw [numB_two h1 h]; simp

/-- A digit at i: the digit, the place behind it. -/
def digB (bs : List Int) (i : Nat) : Option (Nat × Nat) :=
  if i < bs.length ∧ bs.getD i 0 < 250 then some ((bs.getD i 0).toNat, i + 1)
  else if i + 1 < bs.length ∧ bs.getD i 0 = 250 ∧ bs.getD (i + 1) 0 < 250 then some ((bs.getD (i + 1) 0).toNat, i + 2) else none
/-- A number at at_. -/
def ngGo (bs : List Int) (at_ : Nat) : Nat → Nat → Nat → Nat → Option (Nat × Nat)
  | 0, _, _, _ => none
  | f + 1, n, u, i => match digB bs i with
    | none => none
    | some (d, j) => if u = 0 ∨ 18446744073709551616 ≤ d * u ∨ 18446744073709551616 ≤ n + d * u ∨ (j = i + 1 ∧ d = 0 ∧ at_ < i) then none
      else if j = i + 1 then some (n + d * u, j) else ngGo bs at_ f (n + d * u) (if 18446744073709551616 ≤ u * 250 then 0 else u * 250) j
def ngB (bs : List Int) (at_ : Nat) : Option (Nat × Nat) := ngGo bs at_ (bs.length + 1 - at_) 0 1 at_

theorem getD_app_left {a b : List Int} {i : Nat} (h : i < a.length) : (a ++ b).getD i 0 = a.getD i 0 := by
  rw [List.getD_eq_getElem?_getD, List.getD_eq_getElem?_getD, List.getElem?_append_left h]

/-- The number of bytes is read again. -/
theorem ng_num {n : Nat} (h : n < 62500) (rest : List Int) : ngB (1 :: (numB n ++ rest)) 1 = some (n, 1 + (numB n).length) := by
  unfold ngB
  rcases Nat.lt_or_ge n 250 with h1 | h1
  · rw [numB_small h1]
    have e : ((1 : Int) :: ([(n : Int)] ++ rest)).length + 1 - 1 = (rest.length + 1) + 1 := by simp
    rw [e, ngGo]
    have d : digB ((1 : Int) :: ([(n : Int)] ++ rest)) 1 = some (n, 2) := by
      unfold digB
      rw [if_pos ⟨by simp, by simp; omega⟩]
      simp
    rw [d]
    dsimp only
    rw [if_neg (by omega), if_pos rfl]
    simp
  · rw [numB_two h1 h]
    have e : ((1 : Int) :: ([250, ((n % 250 : Nat) : Int), ((n / 250 : Nat) : Int)] ++ rest)).length + 1 - 1 = (rest.length + 2) + 1 + 1 := by simp
    rw [e, ngGo]
    have d : digB ((1 : Int) :: ([250, ((n % 250 : Nat) : Int), ((n / 250 : Nat) : Int)] ++ rest)) 1 = some (n % 250, 3) := by
      unfold digB
      rw [if_neg (by simp), if_pos ⟨by simp, by simp, by simp; omega⟩]
      simp; omega
    have d2 : digB ((1 : Int) :: ([250, ((n % 250 : Nat) : Int), ((n / 250 : Nat) : Int)] ++ rest)) 3 = some (n / 250, 4) := by
      unfold digB
      rw [if_pos ⟨by simp, by simp; omega⟩]
      simp
      exact Int.toNat_natCast (n / 250)
    rw [d]
    dsimp only
    rw [if_neg (by omega), if_neg (by omega), if_neg (by omega), ngGo, d2]
    dsimp only
    rw [if_neg (by omega), if_pos rfl]
    simp
    omega

theorem symT_bd {t : Tkn} (h : mayT t = true) : 0 ≤ (symT t).1 ∧ (symT t).1 < 320 ∧ 0 ≤ (symT t).2.1 ∧ (symT t).2.1 < 1024 ∧ ((symT t).2.2 = 0 ∧ (symT t).1 < 256 ∨ (symT t).2.2 = 10 ∧ 256 ≤ (symT t).1) := by
  unfold symT
  rw [if_neg (by rw [h]; decide)]
  rcases mayT_op h with h1 | h1
  · rw [if_neg (by omega)]; dsimp only; omega
  · rw [if_pos h1.1]; dsimp only; omega

/-- How often each symbol comes. -/
def cntB (ts : List Tkn) : List Int := (List.range 320).map fun (s : Nat) => ((ts.countP fun t => decide ((symT t).1 = (s : Int)) : Nat) : Int)
def lensOf (ts : List Tkn) : List Int := lengthsB (cntB ts)
def tkBits (lens : List Int) (t : Tkn) : List Nat := bitsOf (codeB lens (symT t).1.toNat) (lens.getD (symT t).1.toNat 0).toNat ++ bitsOf (symT t).2.1.toNat (symT t).2.2.toNat
def lnBits (lens : List Int) : List Nat := lens.flatMap fun n => bitsOf n.toNat 4
def sqBits (ts : List Tkn) : List Nat := lnBits (lensOf ts) ++ ts.flatMap (tkBits (lensOf ts))
def sqB (xs : List Int) : List Int := 1 :: (numB xs.length ++ pk (sqBits (toksB xs)))
/-- The packed form. -/
def putB (xs : List Int) : List Int := if (sqB xs).length < 1 + xs.length then sqB xs else 0 :: xs

theorem cntB_len (ts : List Tkn) : (cntB ts).length = 320 := by simp [cntB]
theorem cntB_get (ts : List Tkn) {s : Nat} (h : s < 320) : (cntB ts)[s]? = some ((ts.countP fun t => decide ((symT t).1 = (s : Int)) : Nat) : Int) := by simp [cntB, h]
theorem cntB_bd (ts : List Tkn) : ∀ z ∈ cntB ts, 0 ≤ z ∧ z ≤ ts.length := by
  intro z hz
  obtain ⟨s, _, rfl⟩ := List.mem_map.1 hz
  have := List.countP_le_length (p := fun t => decide ((symT t).1 = (s : Int))) (l := ts)
  omega
theorem lensOf_len (ts : List Tkn) : (lensOf ts).length = 320 := by
  unfold lensOf
  rw [lengths_len (by rw [cntB_len]; decide) (by rw [cntB_len]; decide) (fun z hz => (cntB_bd ts z hz).1), cntB_len]
theorem lensOf_may (ts : List Tkn) : mayB (lensOf ts) = true := lengths_may (by rw [cntB_len]; decide) (by rw [cntB_len]; decide) (fun z hz => (cntB_bd ts z hz).1)
/-- A token's symbol has a code. -/
theorem lensOf_sym {ts : List Tkn} {t : Tkn} (ht : t ∈ ts) (hm : mayT t = true) : ∃ s q : Nat, (symT t).1 = (s : Int) ∧ s < 320 ∧ (lensOf ts)[s]? = some (q : Int) ∧ 0 < q ∧ q ≤ 12 := by
  have hb := symT_bd hm
  obtain ⟨s, hs⟩ := Int.eq_ofNat_of_zero_le hb.1
  have hs320 : s < 320 := by omega
  have h := lengths_pos (cs := cntB ts) (by rw [cntB_len]; decide) (by rw [cntB_len]; decide) (fun z hz => (cntB_bd ts z hz).1) (s := s) (by rw [cntB_len]; exact hs320)
  have hc : 0 < (cntB ts).getD s 0 := by
    rw [List.getD_eq_getElem?_getD, cntB_get ts hs320, Option.getD_some]
    have : 0 < ts.countP fun t => decide ((symT t).1 = (s : Int)) := List.countP_pos_iff.2 ⟨t, ht, by simpa using hs⟩
    omega
  have hp := h.2.2.2 hc
  have hlt : s < (lensOf ts).length := by rw [lensOf_len]; exact hs320
  obtain ⟨q, hq⟩ := Int.eq_ofNat_of_zero_le h.1
  refine ⟨s, q, hs, hs320, ?_, ?_, ?_⟩
  · rw [← hq]; unfold lensOf at hlt ⊢; rw [List.getD_eq_getElem?_getD, List.getElem?_eq_getElem hlt]; rfl
  · omega
  · have := h.2.1; omega

/-- A token of bits: the token, the bits behind it. -/
def tokB (lens ys : List Int) (p : Nat) : Option (Tkn × Nat) :=
  if okGet lens = false then none else
  if (getB lens ys p).2.1 ≠ 0 then none else
  if (getB lens ys p).1 < 256 then some (⟨(getB lens ys p).1, 0, 0⟩, (getB lens ys p).2.2) else
  if 8 * ys.length - (getB lens ys p).2.2 < 10 then none else
  some (⟨-1, (val (unpk ys (getB lens ys p).2.2 10) : Int) + 1, (getB lens ys p).1 - 256 + 3⟩, (getB lens ys p).2.2 + 10)
def unGo (lens ys : List Int) (n : Nat) : Nat → Nat → Nat → Option (List Tkn)
  | f, p, long => if n ≤ long then some [] else match f with
    | 0 => none
    | f + 1 => match tokB lens ys p with
      | none => none
      | some (t, p') => (unGo lens ys n f p' (long + tlen t)).map (t :: ·)
def lensR (ys : List Int) (k : Nat) : List Int := (List.range k).map fun i => (val (unpk ys (4 * i) 4) : Int)
/-- What a stream of bits of a block of n bytes stands for. -/
def unB (M : Nat) (ys : List Int) (n : Nat) : Option (List Int) :=
  if 8 * ys.length < 1280 then none else
  match unGo (lensR ys 320) ys n n 1280 0 with
  | none => none
  | some ts => if (joinB M [] ts).1 = 0 then some (joinB M [] ts).2 else none
def openB (bs : List Int) : Option (List Int) :=
  if bs.length = 0 ∨ 12001 < bs.length ∨ 1 < bs.getD 0 0 then none else
  if bs.getD 0 0 = 0 then some (bs.drop 1) else
  match ngB bs 1 with
  | none => none
  | some (n, at_) => if 12000 < n then none else unB n (bs.drop at_) n

theorem bits_flat {α : Type} {l : List α} {f : α → List Nat} (h : ∀ x ∈ l, Bits (f x)) : Bits (l.flatMap f) := fun b hb => by
  obtain ⟨x, hx, hb⟩ := List.mem_flatMap.1 hb
  exact h x hx b hb
theorem bits_app {a b : List Nat} (ha : Bits a) (hb : Bits b) : Bits (a ++ b) := fun x hx => (List.mem_append.1 hx).elim (ha x) (hb x)
theorem tkBits_bits (lens : List Int) (t : Tkn) : Bits (tkBits lens t) := bits_app (bits_bitsOf _ _) (bits_bitsOf _ _)
theorem lnBits_bits (lens : List Int) : Bits (lnBits lens) := bits_flat fun _ _ => bits_bitsOf _ _
theorem sqBits_bits (ts : List Tkn) : Bits (sqBits ts) := bits_app (lnBits_bits _) (bits_flat fun _ _ => tkBits_bits _ _)
theorem lnBits_len (lens : List Int) : (lnBits lens).length = 4 * lens.length := by
  induction lens with
  | nil => rfl
  | cons a r ih => rw [lnBits, List.flatMap_cons, List.length_append, length_bitsOf]; rw [lnBits] at ih; rw [ih, List.length_cons]; omega
theorem lnBits_at : ∀ (lens : List Int) (i : Nat) (z : Int) (rest : List Nat), lens[i]? = some z → ((lnBits lens ++ rest).drop (4 * i)).take 4 = bitsOf z.toNat 4
  | [], i, z, rest, h => by simp at h
  | a :: r, 0, z, rest, h => by
    injection h with h; subst h
    rw [lnBits, List.flatMap_cons, Nat.mul_zero, List.drop_zero, List.append_assoc, List.take_left' (length_bitsOf _ _)]
  | a :: r, i + 1, z, rest, h => by
    rw [lnBits, List.flatMap_cons, List.append_assoc, show 4 * (i + 1) = 4 + 4 * i from by omega, ← List.drop_drop, List.drop_left' (length_bitsOf _ _)]
    exact lnBits_at r i z rest (by simpa using h)

theorem mayB_get {zs : List Int} {s q : Nat} (hm : mayB zs = true) (hs : zs[s]? = some (q : Int)) (hq : 0 < q) : okGet zs = true := by
  rw [← any_ok zs hm, decide_eq_true_eq]
  exact List.countP_pos_iff.2 ⟨_, List.mem_of_getElem? hs, by simp; omega⟩

/-- A token is read again. -/
theorem tok_back {ts : List Tkn} {t : Tkn} (ht : t ∈ ts) (hm : mayT t = true) {bs : List Nat} (hb : Bits bs) {p : Nat} {rest : List Nat} (hd : bs.drop p = tkBits (lensOf ts) t ++ rest) (hp : p ≤ bs.length) :
    tokB (lensOf ts) (pk bs) p = some (t, p + (tkBits (lensOf ts) t).length) := by
  obtain ⟨s, q, hs, hs320, hq, hq0, hq12⟩ := lensOf_sym ht hm
  have hsb := symT_bd hm
  have hL : (lensOf ts).getD s 0 = (q : Int) := getD_of hq
  have htk : tkBits (lensOf ts) t = bitsOf (codeB (lensOf ts) s) q ++ bitsOf (symT t).2.1.toNat (symT t).2.2.toNat := by
    unfold tkBits; rw [hs, Int.toNat_natCast, hL, Int.toNat_natCast]
  have hlen := congrArg List.length hd
  rw [List.length_drop, List.length_append, htk, List.length_append, length_bitsOf, length_bitsOf] at hlen
  have hplen : (pk bs).length = (bs.length + 7) / 8 := length_pk bs
  have hget : getB (lensOf ts) (pk bs) p = ((s : Int), 0, p + q) := get_hit (lensOf_may ts) hq hq0 p (by omega) (by
    rw [unpk_pk bs hb p q (by omega), hd, htk, List.append_assoc, List.take_left' (length_bitsOf _ _)])
  have hok := mayB_get (lensOf_may ts) hq hq0
  unfold tokB
  rw [if_neg (by rw [hok]; decide), hget, if_neg (by simp)]
  dsimp only
  rw [htk, List.length_append, length_bitsOf, length_bitsOf]
  rcases hsb.2.2.2.2 with ⟨h0, h1⟩ | ⟨h0, h1⟩
  · rw [if_pos (by omega), h0]
    have : t = ⟨(s : Int), 0, 0⟩ := by
      have hmo := mayT_op hm
      unfold symT at hs h0
      rw [if_neg (by rw [hm]; decide)] at hs h0
      by_cases hl : 0 ≤ t.lit
      · rw [if_pos hl] at hs
        obtain ⟨a, b, c⟩ := t
        simp only at hs hmo hl ⊢
        rw [Tkn.mk.injEq]
        omega
      · rw [if_neg hl] at h0; simp at h0
    rw [← this]
    simp
  · have hv : val (unpk (pk bs) (p + q) 10) = (symT t).2.1.toNat := by
      rw [h0] at hlen htk
      rw [unpk_pk bs hb (p + q) 10 (by have : (10 : Int).toNat = 10 := rfl; omega), ← List.drop_drop, hd, htk, List.append_assoc, List.drop_left' (length_bitsOf _ _)]
      show val (List.take 10 (bitsOf (symT t).2.1.toNat 10 ++ rest)) = _
      rw [List.take_left' (length_bitsOf _ _), val_bitsOf, Nat.mod_eq_of_lt (by have := hsb.2.2.2.1; show _ < 1024; omega)]
    rw [h0] at hlen ⊢
    have e10 : (10 : Int).toNat = 10 := rfl
    rw [if_neg (by omega), if_neg (by omega), hv, e10]
    have : t = ⟨-1, (((symT t).2.1.toNat : Nat) : Int) + 1, (s : Int) - 256 + 3⟩ := by
      have hmo := mayT_op hm
      unfold symT at hs h0 ⊢
      rw [if_neg (by rw [hm]; decide)] at hs h0 ⊢
      by_cases hl : 0 ≤ t.lit
      · rw [if_pos hl] at h0; simp at h0
      · rw [if_neg hl] at hs ⊢
        obtain ⟨a, b, c⟩ := t
        simp only at hs hmo hl ⊢
        rw [Tkn.mk.injEq]
        omega
    rw [← this]
    simp [Nat.add_assoc]

/-- All tokens are read again. -/
theorem un_back {ts : List Tkn} (hm : ∀ t ∈ ts, mayT t = true) {bs : List Nat} (hb : Bits bs) (n : Nat) : ∀ (l : List Tkn) (f p long : Nat), (∀ t ∈ l, t ∈ ts) → bs.drop p = l.flatMap (tkBits (lensOf ts)) → p ≤ bs.length → long + (l.map tlen).sum = n → n - long ≤ f →
    unGo (lensOf ts) (pk bs) n f p long = some l
  | [], f, p, long, _, _, _, h, _ => by
    simp at h
    unfold unGo
    rw [if_pos (by omega)]
  | t :: l, f, p, long, hs, hd, hp, h, hf => by
    have ht := hs t (by simp)
    have hmt := hm t ht
    have htl : 1 ≤ tlen t := by unfold tlen; omega
    rw [List.map_cons, List.sum_cons] at h
    obtain ⟨f, rfl⟩ : ∃ g, f = g + 1 := ⟨f - 1, by omega⟩
    rw [List.flatMap_cons] at hd
    have hlen := congrArg List.length hd
    rw [List.length_drop, List.length_append] at hlen
    unfold unGo
    rw [if_neg (by omega)]
    dsimp only
    rw [tok_back ht hmt hb hd hp]
    dsimp only
    rw [un_back hm hb n l f _ _ (fun t' h' => hs t' (by simp [h'])) (by rw [← List.drop_drop, hd, List.drop_left]) (by omega) (by omega) (by omega)]
    rfl

theorem lensR_back (ts : List Tkn) : lensR (pk (sqBits ts)) 320 = lensOf ts := by
  have hL := lensOf_len ts
  have hlen : (sqBits ts).length = 1280 + (ts.flatMap (tkBits (lensOf ts))).length := by unfold sqBits; rw [List.length_append, lnBits_len, hL]
  apply List.ext_getElem?
  intro i
  unfold lensR
  rw [List.getElem?_map]
  by_cases hi : i < 320
  · rw [List.getElem?_range hi]
    obtain ⟨z, hz⟩ : ∃ z, (lensOf ts)[i]? = some z := ⟨_, List.getElem?_eq_getElem (by omega)⟩
    have hzb := may_lens (lensOf_may ts) z (List.mem_of_getElem? hz)
    rw [hz, Option.map_some, unpk_pk _ (sqBits_bits ts) _ _ (by omega)]
    unfold sqBits
    rw [lnBits_at _ i z _ hz, val_bitsOf, Nat.mod_eq_of_lt (by show _ < 16; omega), Int.toNat_of_nonneg hzb.1]
  · rw [List.getElem?_eq_none (by simp; omega), List.getElem?_eq_none (by omega)]; rfl

theorem toksB_may {xs : List Int} (hb : ∀ z ∈ xs, 0 ≤ z ∧ z < 256) : ∀ t ∈ toksB xs, mayT t = true := toks_may hb _ _
theorem toksB_len (xs : List Int) : ((toksB xs).map tlen).sum = xs.length := by
  have := toks_len xs (xs.length - 0) 0 (Nat.zero_le _) (by omega)
  rw [Nat.sub_zero] at this
  exact this
theorem sum_tlen_ge (l : List Tkn) : l.length ≤ (l.map tlen).sum := by
  induction l with
  | nil => simp
  | cons t r ih =>
    have : 1 ≤ tlen t := by unfold tlen; omega
    rw [List.map_cons, List.sum_cons, List.length_cons]; omega
theorem toksB_count (xs : List Int) : (toksB xs).length ≤ xs.length := by
  have := sum_tlen_ge (toksB xs); rw [toksB_len] at this; exact this

/-- The bits of a block are read again. -/
theorem un_sq {xs : List Int} (hb : ∀ z ∈ xs, 0 ≤ z ∧ z < 256) {M : Nat} (hM : xs.length ≤ M) : unB M (pk (sqBits (toksB xs))) xs.length = some xs := by
  have hL := lensOf_len (toksB xs)
  have hlen : (sqBits (toksB xs)).length = 1280 + ((toksB xs).flatMap (tkBits (lensOf (toksB xs)))).length := by unfold sqBits; rw [List.length_append, lnBits_len, hL]
  unfold unB
  rw [if_neg (by rw [length_pk]; omega), lensR_back, un_back (toksB_may hb) (sqBits_bits _) xs.length (toksB xs) xs.length 1280 0 (fun t h => h) (by unfold sqBits; rw [List.drop_left' (by rw [lnBits_len, hL])]) (by omega) (by rw [Nat.zero_add, toksB_len]) (by omega)]
  dsimp only
  rw [join_toksB hb hM]
  rfl

/-- What was packed is opened again. -/
theorem open_put {xs : List Int} (hb : ∀ z ∈ xs, 0 ≤ z ∧ z < 256) (hl : xs.length ≤ 12000) : openB (putB xs) = some xs := by
  unfold putB
  by_cases h : (sqB xs).length < 1 + xs.length
  · rw [if_pos h]
    unfold openB
    rw [if_neg (by intro hc; rcases hc with hc | hc | hc
                   · simp [sqB] at hc
                   · omega
                   · simp [sqB] at hc), if_neg (by simp [sqB])]
    have hn := ng_num (n := xs.length) (by omega) (pk (sqBits (toksB xs)))
    unfold sqB
    rw [hn]
    dsimp only
    rw [if_neg (by omega), show 1 + (numB xs.length).length = (numB xs.length).length + 1 from by omega, List.drop_succ_cons, List.drop_left, un_sq hb (Nat.le_refl _)]
  · rw [if_neg h]
    unfold openB
    rw [if_neg (by intro hc; rcases hc with hc | hc | hc
                   · simp at hc
                   · simp at hc; omega
                   · simp at hc), if_pos (by simp)]
    rfl
end Eng
end Go.Proofs.Ytighkjohpmlemaa
