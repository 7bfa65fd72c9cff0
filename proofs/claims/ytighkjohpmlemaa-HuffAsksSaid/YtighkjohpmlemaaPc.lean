/-
  Plain law: sums of weights; halving; the lengths that are returned.
-/
import Derived.Test.YtighkjohpmlemaaPb
namespace Go.Proofs.Ytighkjohpmlemaa
open Go.RowKit
namespace Eng

theorem isum_nonneg : ∀ l : List Int, (∀ x ∈ l, 0 ≤ x) → 0 ≤ isum l
  | [], _ => by simp [isum]
  | x :: l, h => by
    rw [isum_cons]
    have := isum_nonneg l fun y hy => h y (List.mem_cons_of_mem _ hy)
    have := h x (List.mem_cons_self ..)
    omega
theorem isum_le (m : Int) : ∀ l : List Int, (∀ x ∈ l, x ≤ m) → isum l ≤ m * l.length
  | [], _ => by simp [isum]
  | x :: l, h => by
    rw [isum_cons]
    have := isum_le m l fun y hy => h y (List.mem_cons_of_mem _ hy)
    have := h x (List.mem_cons_self ..)
    rw [List.length_cons, Int.natCast_add, Int.mul_add]
    omega
theorem isum_flat (ws : List Int) (f : Nat → Tr) : ∀ l : List Nat, isum ((l.flatMap fun i => (f i).sy).map fun j => ws.getD j 0) = isum (l.map fun i => (f i).w ws)
  | [] => rfl
  | x :: l => by
    rw [List.flatMap_cons, List.map_append, isum_app, isum_flat ws f l, List.map_cons, isum_cons, ← tr_w]

theorem TOk.pick_sum {ws : List Int} {x : HSt} {ts : List Tr} (h : TOk ws x ts) (hb : x.sm.length + 2 ≤ 2 * ws.length) :
    0 ≤ x.sm.getD (x.i1 ws.length) 0 ∧ 0 ≤ x.sm.getD (x.i2 ws.length) 0 ∧ x.sm.getD (x.i1 ws.length) 0 + x.sm.getD (x.i2 ws.length) 0 ≤ isum ws := by
  have lf := h.ok.lf; have md := h.ok.md; have sum := h.ok.sum; have nm := h.ok.nm; have n0 := h.n0
  have t1 := take_cases ws.length x.leaf x.made x.sm lf md (by omega)
  have p1 := avl_take ws.length x.leaf x.made x.sm lf md (by omega)
  have e1 : takeI ws.length x.leaf x.made x.sm = x.i1 ws.length := rfl
  have e2 : takeL ws.length x.leaf x.made x.sm = x.l1 ws.length := rfl
  have e3 : takeM ws.length x.leaf x.made x.sm = x.m1 ws.length := rfl
  rw [e1, e2, e3] at p1 t1
  have t2 := take_cases ws.length (x.l1 ws.length) (x.m1 ws.length) x.sm (by omega) (by omega) (by omega)
  have p2 := avl_take ws.length (x.l1 ws.length) (x.m1 ws.length) x.sm (by omega) (by omega) (by omega)
  have e4 : takeI ws.length (x.l1 ws.length) (x.m1 ws.length) x.sm = x.i2 ws.length := rfl
  rw [e4] at p2 t2
  have p3 := p1.trans (p2.cons _)
  have ha : x.i1 ws.length < x.sm.length := by omega
  have hb : x.i2 ws.length < x.sm.length := by omega
  have pos : ∀ i, i < x.sm.length → 1 ≤ x.sm.getD i 0 := fun i hi => by rw [h.wt i hi]; exact Tr.ok_pos _ (h.fib i hi)
  have key : isum ((avl ws.length x.sm.length x.leaf x.made).map fun i => x.sm.getD i 0) = isum ws := by
    have s1 := isum_perm (h.sys.map fun j => ws.getD j 0)
    rw [isum_flat, ← list_range] at s1
    rw [← s1]
    congr 1
    refine List.map_congr_left fun i hi => ?_
    have hi' : i ∈ List.range' x.leaf (ws.length - x.leaf) ++ List.range' x.made (x.sm.length - x.made) := hi
    rw [List.mem_append, List.mem_range'_1, List.mem_range'_1] at hi'
    exact h.wt i (by omega)
  rw [isum_perm (p3.map fun i => x.sm.getD i 0), List.map_cons, List.map_cons, isum_cons, isum_cons] at key
  have nn := isum_nonneg ((avl ws.length x.sm.length (takeL ws.length (x.l1 ws.length) (x.m1 ws.length) x.sm) (takeM ws.length (x.l1 ws.length) (x.m1 ws.length) x.sm)).map fun i => x.sm.getD i 0) (fun y hy => by
    obtain ⟨i, hi, rfl⟩ := List.mem_map.1 hy
    unfold avl at hi
    rw [List.mem_append, List.mem_range'_1, List.mem_range'_1] at hi
    have := pos i (by omega)
    omega)
  have := pos _ ha
  have := pos _ hb
  omega

theorem isum_wts_le (cs : List Int) (hl : cs.length ≤ 400) (hc : ∀ z ∈ cs, 0 ≤ z ∧ z ≤ 1073741824) : isum (wts cs) ≤ 429496729600 := by
  have h1 := isum_wts cs fun z hz => (hc z hz).1
  have h2 := isum_le 1073741824 cs fun z hz => (hc z hz).2
  have h3 : 1073741824 * (cs.length : Int) ≤ 1073741824 * 400 := by omega
  omega

def halfB (cs : List Int) : List Int := cs.map fun c => (c + 1) / 2
@[simp] theorem halfB_len (cs : List Int) : (halfB cs).length = cs.length := by simp [halfB]
theorem halfB_get (cs : List Int) (s : Nat) : (halfB cs).getD s 0 = (cs.getD s 0 + 1) / 2 := by
  unfold halfB
  rw [List.getD_eq_getElem?_getD, List.getD_eq_getElem?_getD, List.getElem?_map]
  cases cs[s]? <;> simp
theorem halfB_ok {cs : List Int} {m : Int} (hm : 0 < m) (h : ∀ z ∈ cs, 0 ≤ z ∧ z ≤ m) : ∀ z ∈ halfB cs, 0 ≤ z ∧ z ≤ m := by
  intro z hz
  obtain ⟨c, hc, rfl⟩ := List.mem_map.1 hz
  have := h c hc
  omega
theorem halfB_sum : ∀ cs : List Int, 2 * isum (halfB cs) ≤ isum cs + cs.length
  | [] => by simp [isum, halfB]
  | c :: cs => by
    have ih := halfB_sum cs
    have e : halfB (c :: cs) = (c + 1) / 2 :: halfB cs := rfl
    rw [e, isum_cons, isum_cons, List.length_cons]
    omega

theorem merge_small {cs : List Int} (h : (ordB cs).length < 2) : ∀ z ∈ mergeB cs, 0 ≤ z ∧ z ≤ 1 := by
  intro z hz
  rcases Nat.lt_or_ge 0 (ordB cs).length with h1 | h1
  · rw [mergeB_one (by omega)] at hz
    rcases List.mem_or_eq_of_mem_set hz with h' | h'
    · rw [List.mem_replicate] at h'; omega
    · omega
  · rw [mergeB_zero (by omega)] at hz
    rw [List.mem_replicate] at hz; omega

theorem half_less {cs : List Int} (hl0 : 0 < cs.length) (hl : cs.length ≤ 400) (hc : ∀ z ∈ cs, 0 ≤ z) (h : 12 < maxL (mergeB cs)) : isum (halfB cs) < isum cs ∧ 610 ≤ isum cs := by
  have h2 : 2 ≤ (ordB cs).length := by
    rcases Nat.lt_or_ge (ordB cs).length 2 with h1 | h1
    · exfalso
      have := merge_small h1 _ (maxL_mem (zs := mergeB cs) (fun e => by have := mergeB_len cs; rw [e] at this; simp at this; omega))
      omega
    · exact h1
  obtain ⟨T, hT⟩ := lok_of h2
  have h3 := hT.heavy hc (by have := hT.max; omega)
  have h4 := halfB_sum cs
  exact ⟨by omega, h3⟩

/-- The lengths, halving as long as one is too long. -/
def lenGo : Nat → List Int → List Int
  | 0, cs => mergeB cs
  | f + 1, cs => if maxL (mergeB cs) ≤ 12 then mergeB cs else lenGo f (halfB cs)
def lengthsB (cs : List Int) : List Int := lenGo (isum cs).toNat cs

structure LenOf (cs cs' : List Int) : Prop where
  len : cs'.length = cs.length
  pos : ∀ s : Nat, 0 < cs'.getD s 0 ↔ 0 < cs.getD s 0
  nn : ∀ z ∈ cs', 0 ≤ z
  small : isum cs < 610 → cs' = cs
  max : maxL (mergeB cs') ≤ 12

theorem lenGo_spec : ∀ (f : Nat) (cs : List Int), 0 < cs.length → cs.length ≤ 400 → (∀ z ∈ cs, 0 ≤ z) → isum cs ≤ f → ∃ cs', lenGo f cs = mergeB cs' ∧ LenOf cs cs'
  | 0, cs, h0, hl, hc, hf => by
    refine ⟨cs, rfl, rfl, fun _ => Iff.rfl, hc, fun _ => rfl, ?_⟩
    rcases Int.lt_or_le 12 (maxL (mergeB cs)) with h | h
    · have := half_less h0 hl hc h; omega
    · exact h
  | f + 1, cs, h0, hl, hc, hf => by
    unfold lenGo
    by_cases h : maxL (mergeB cs) ≤ 12
    · rw [if_pos h]
      exact ⟨cs, rfl, rfl, fun _ => Iff.rfl, hc, fun _ => rfl, h⟩
    · rw [if_neg h]
      have hh := half_less h0 hl hc (by omega)
      obtain ⟨cs', h1, h2, h3, h4, h5, h6⟩ := lenGo_spec f (halfB cs) (by simpa using h0) (by simpa using hl) (fun z hz => by
        obtain ⟨c, hc', rfl⟩ := List.mem_map.1 hz
        have := hc c hc'
        omega) (by omega)
      refine ⟨cs', h1, by simpa using h2, fun s => ?_, h4, fun hlt => by omega, h6⟩
      rw [h3 s, halfB_get]; omega

theorem lenGo_more {f : Nat} {cs : List Int} (h0 : 0 < cs.length) (hl : cs.length ≤ 400) (hc : ∀ z ∈ cs, 0 ≤ z) (hf : isum cs ≤ f) (h : 12 < maxL (mergeB cs)) : ∃ f', f = f' + 1 ∧ lenGo f cs = lenGo f' (halfB cs) ∧ isum (halfB cs) ≤ f' := by
  have hh := half_less h0 hl hc h
  cases f with
  | zero => omega
  | succ f =>
    refine ⟨f, rfl, ?_, by omega⟩
    conv => lhs; unfold lenGo
    rw [if_neg (by omega)]
theorem lenGo_done {f : Nat} {cs : List Int} (h : maxL (mergeB cs) ≤ 12) : lenGo f cs = mergeB cs := by
  cases f with
  | zero => rfl
  | succ f => unfold lenGo; rw [if_pos h]

theorem lengths_spec {cs : List Int} (h0 : 0 < cs.length) (hl : cs.length ≤ 400) (hc : ∀ z ∈ cs, 0 ≤ z) : ∃ cs', lengthsB cs = mergeB cs' ∧ LenOf cs cs' := lenGo_spec _ cs h0 hl hc (by have := isum_nonneg cs hc; omega)
theorem lengths_len {cs : List Int} (h0 : 0 < cs.length) (hl : cs.length ≤ 400) (hc : ∀ z ∈ cs, 0 ≤ z) : (lengthsB cs).length = cs.length := by
  obtain ⟨cs', e, h⟩ := lengths_spec h0 hl hc
  rw [e, mergeB_len, h.len]

theorem may_zeros (n : Nat) (h : n ≤ 400) : mayB (List.replicate n 0) = true := by
  have hL : Lens (List.replicate n 0) := fun z hz => by rw [List.mem_replicate] at hz; omega
  unfold mayB
  rw [mayGo_eq _ _ _ hL, mayGo_nil]
  have : npos (List.replicate n (0 : Int)) = 0 := by
    unfold npos
    rw [List.countP_eq_zero]
    intro z hz
    rw [List.mem_replicate] at hz
    simp [hz.2]
  rw [this]
  simp [h]

theorem set_sum (g : Int → Nat) (hg : g 0 = 0) (n i : Nat) (hi : i < n) (z : Int) : (((List.replicate n (0 : Int)).set i z).map g).sum = g z := by
  induction n generalizing i with
  | zero => omega
  | succ n ih =>
    rw [List.replicate_succ]
    cases i with
    | zero =>
      rw [List.set_cons_zero, List.map_cons, List.sum_cons, List.map_replicate, hg]
      simp
    | succ i =>
      rw [List.set_cons_succ, List.map_cons, List.sum_cons, ih i (by omega), hg, Nat.zero_add]

/-- What is returned is always the lengths of a code. -/
theorem lengths_may {cs : List Int} (h0 : 0 < cs.length) (hl : cs.length ≤ 400) (hc : ∀ z ∈ cs, 0 ≤ z) : mayB (lengthsB cs) = true := by
  obtain ⟨cs', e, h⟩ := lengths_spec h0 hl hc
  rw [e]
  rcases Nat.lt_or_ge (ordB cs').length 2 with h1 | h1
  · rcases Nat.eq_zero_or_pos (ordB cs').length with h2 | h2
    · rw [mergeB_zero h2]; exact may_zeros _ (by rw [h.len]; exact hl)
    · have hL : Lens (mergeB cs') := fun z hz => by have := merge_small h1 z hz; omega
      unfold mayB
      rw [mayGo_eq _ _ _ hL, mayGo_nil, mergeB_len, h.len]
      have hm := posB_mem (ordB_mem.1 (getD_mem (l := ordB cs') (j := 0) h2))
      rw [mergeB_one (by omega)]
      unfold npos
      rw [countP_sum, set_sum _ (by decide) _ _ (by omega), set_sum _ (by decide) _ _ (by omega)]
      simp [hl, mg]
  · obtain ⟨T, hT⟩ := lok_of h1
    exact hT.may (by rw [h.len]; exact hl) (by have := hT.max; have := h.max; omega)

/-- A symbol has a code exactly if it comes. -/
theorem lengths_pos {cs : List Int} (h0 : 0 < cs.length) (hl : cs.length ≤ 400) (hc : ∀ z ∈ cs, 0 ≤ z) {s : Nat} (hs : s < cs.length) : 0 ≤ (lengthsB cs).getD s 0 ∧ (lengthsB cs).getD s 0 ≤ 12 ∧ (0 < (lengthsB cs).getD s 0 ↔ 0 < cs.getD s 0) := by
  obtain ⟨cs', e, h⟩ := lengths_spec h0 hl hc
  rw [e, ← h.pos s]
  have hs' : s < cs'.length := by rw [h.len]; exact hs
  rcases Nat.lt_or_ge (ordB cs').length 2 with h1 | h1
  · have hz := merge_small h1 ((mergeB cs').getD s 0) (getD_mem (by rw [mergeB_len]; exact hs'))
    refine ⟨hz.1, by omega, ?_⟩
    have hmem : 0 < cs'.getD s 0 ↔ (s : Int) ∈ ordB cs' := by
      rw [ordB_mem, posB_iff]
      unfold cnt
      rw [Int.toNat_natCast]
      omega
    rcases Nat.eq_zero_or_pos (ordB cs').length with h2 | h2
    · rw [mergeB_zero h2, hmem, List.eq_nil_of_length_eq_zero h2]
      rw [List.getD_eq_getElem?_getD, List.getElem?_replicate]
      split <;> simp
    · have hm := posB_mem (ordB_mem.1 (getD_mem (l := ordB cs') (j := 0) h2))
      rw [mergeB_one (by omega), getD_set, hmem]
      obtain ⟨y, hy⟩ : ∃ y, ordB cs' = [y] := List.length_eq_one_iff.1 (by omega)
      rw [hy] at hm ⊢
      simp only [List.getD_cons_zero, List.length_replicate, List.mem_singleton] at hm ⊢
      split
      · rename_i hh; refine ⟨fun _ => by omega, fun _ => by decide⟩
      · rename_i hh
        rw [List.getD_eq_getElem?_getD, List.getElem?_replicate]
        split <;> simp <;> omega
  · obtain ⟨T, hT⟩ := lok_of h1
    have := hT.bd hs'
    have := hT.max
    have := h.max
    omega
end Eng
end Go.Proofs.Ytighkjohpmlemaa
