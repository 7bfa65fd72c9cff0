/-
  Plain law: joining the two first lightest of a list, again and again, gives the lengths of the merge.
-/
import Derived.Test.YtighkjohpmlemaaPc
namespace Go.Proofs.Ytighkjohpmlemaa
open Go.RowKit
namespace Eng

/-- The place of the first lightest among the first i. -/
def lstGo (ws : List Int) : Nat → Nat
  | 0 => 0
  | i + 1 => if ws.getD i 0 < ws.getD (lstGo ws i) 0 then i else lstGo ws i
def leastB (ws : List Int) : Nat := lstGo ws ws.length

theorem lstGo_le (ws : List Int) : ∀ i, lstGo ws i ≤ i - 1 ∧ ∀ j, j < i → ws.getD (lstGo ws i) 0 ≤ ws.getD j 0
  | 0 => ⟨Nat.zero_le _, fun j hj => by omega⟩
  | i + 1 => by
    obtain ⟨h1, h2⟩ := lstGo_le ws i
    unfold lstGo
    split
    · rename_i hlt
      refine ⟨by omega, fun j hj => ?_⟩
      by_cases e : j = i
      · subst e; omega
      · have := h2 j (by omega); omega
    · rename_i hlt
      refine ⟨by omega, fun j hj => ?_⟩
      by_cases e : j = i
      · subst e; omega
      · exact h2 j (by omega)
theorem lstGo_first (ws : List Int) : ∀ i j, j < lstGo ws i → ws.getD (lstGo ws i) 0 < ws.getD j 0
  | 0, j, hj => by simp [lstGo] at hj
  | i + 1, j, hj => by
    have h1 := lstGo_le ws i
    unfold lstGo at hj ⊢
    split
    · rename_i hlt
      rw [if_pos hlt] at hj
      have := h1.2 j hj; omega
    · rename_i hlt
      rw [if_neg hlt] at hj
      exact lstGo_first ws i j hj
/-- What makes a place the first lightest. -/
theorem leastB_eq {ws : List Int} {p : Nat} (hp : p < ws.length) (h1 : ∀ q, q < p → ws.getD p 0 < ws.getD q 0) (h2 : ∀ q, q < ws.length → ws.getD p 0 ≤ ws.getD q 0) : leastB ws = p := by
  unfold leastB
  have a := lstGo_le ws ws.length
  have b := lstGo_first ws ws.length
  rcases Nat.lt_trichotomy (lstGo ws ws.length) p with h | h | h
  · have := h1 _ h
    have := a.2 p hp
    omega
  · exact h
  · have := b p h
    have := h2 (lstGo ws ws.length) (by omega)
    omega
theorem leastB_lt {ws : List Int} (h : 0 < ws.length) : leastB ws < ws.length := by
  have := (lstGo_le ws ws.length).1
  unfold leastB; omega
/-- The first lightest, the list cut there. -/
theorem leastB_split {A : List Int} {x : Int} {C : List Int} (hA : ∀ a ∈ A, x < a) (hC : ∀ c ∈ C, x ≤ c) : leastB (A ++ x :: C) = A.length := by
  have e : (A ++ x :: C).getD A.length 0 = x := by simp [List.getD_eq_getElem?_getD]
  refine leastB_eq (by simp) (fun q hq => ?_) (fun q hq => ?_)
  · rw [e, List.getD_eq_getElem?_getD, List.getElem?_append_left hq, List.getElem?_eq_getElem hq]
    exact hA _ (List.getElem_mem hq)
  · rw [e]
    rcases Nat.lt_or_ge q A.length with h | h
    · rw [List.getD_eq_getElem?_getD, List.getElem?_append_left h, List.getElem?_eq_getElem h]
      have := hA _ (List.getElem_mem h)
      show x ≤ A[q]
      omega
    · rw [List.getD_eq_getElem?_getD, List.getElem?_append_right h]
      cases hk : q - A.length with
      | zero => simp
      | succ k =>
        rw [List.getElem?_cons_succ]
        rw [List.length_append, List.length_cons] at hq
        rw [List.getElem?_eq_getElem (by omega)]
        exact hC _ (List.getElem_mem _)

abbrev Hp := Int × List Int
def hp0 : Hp := (0, [])
/-- One is added at each of these places. -/
def incs : List Int → List Int → List Int
  | lens, [] => lens
  | lens, s :: r => incs (lens.set s.toNat (lens.getD s.toNat 0 + 1)) r
@[simp] theorem incs_len : ∀ (L lens : List Int), (incs lens L).length = lens.length
  | [], _ => rfl
  | s :: r, lens => by rw [incs, incs_len r]; simp
theorem incs_get : ∀ (L lens : List Int), L.Nodup → (∀ s ∈ L, 0 ≤ s ∧ s < lens.length) → ∀ i : Nat, (incs lens L).getD i 0 = lens.getD i 0 + if (i : Int) ∈ L then 1 else 0
  | [], lens, _, _, i => by simp [incs]
  | s :: r, lens, hn, hb, i => by
    rw [List.nodup_cons] at hn
    have h0 := hb s (List.mem_cons_self ..)
    rw [incs, incs_get r _ hn.2 (fun x hx => by have := hb x (List.mem_cons_of_mem _ hx); simpa using this) i, getD_set]
    by_cases e : s.toNat = i
    · have es : (i : Int) = s := by omega
      rw [if_pos ⟨e, by omega⟩, e, if_neg (by rw [es]; exact hn.1), if_pos (by rw [es]; simp)]
      omega
    · rw [if_neg (fun h => e h.1)]
      have : (i : Int) ∈ s :: r ↔ (i : Int) ∈ r := by
        rw [List.mem_cons]
        constructor
        · rintro (h | h)
          · omega
          · exact h
        · exact .inr
      by_cases hi : (i : Int) ∈ r
      · rw [if_pos hi, if_pos (this.2 hi)]
      · rw [if_neg hi, if_neg (fun h => hi (this.1 h))]

/-- One join. -/
def jA (l : List Hp) : Hp := l.getD (leastB (l.map (·.1))) hp0
def jR (l : List Hp) : List Hp := l.eraseIdx (leastB (l.map (·.1)))
def jH (l : List Hp) : Hp := ((jA l).1 + (jA (jR l)).1, (jA l).2 ++ (jA (jR l)).2)
def jstep (x : List Hp × List Int) : List Hp × List Int := (jR (jR x.1) ++ [jH x.1], incs x.2 (jH x.1).2)
def jinit (cs : List Int) : List Hp × List Int := ((posB cs).map fun s => (cnt cs s, [s]), List.replicate cs.length 0)
def jrun (cs : List Int) : Nat → List Hp × List Int
  | 0 => jinit cs
  | k + 1 => jstep (jrun cs k)
def joinsB (cs : List Int) : List Int := (jrun cs ((posB cs).length - 1)).2

theorem split_pick {A : List Hp} {x : Hp} {C : List Hp} (hA : ∀ a ∈ A, x.1 < a.1) (hC : ∀ c ∈ C, x.1 ≤ c.1) : jA (A ++ x :: C) = x ∧ jR (A ++ x :: C) = A ++ C := by
  have e : leastB ((A ++ x :: C).map (·.1)) = A.length := by
    rw [List.map_append, List.map_cons, leastB_split (fun a ha => by obtain ⟨y, hy, rfl⟩ := List.mem_map.1 ha; exact hA y hy) (fun a ha => by obtain ⟨y, hy, rfl⟩ := List.mem_map.1 ha; exact hC y hy), List.length_map]
  unfold jA jR
  rw [e]
  refine ⟨by simp [List.getD_eq_getElem?_getD], ?_⟩
  rw [List.eraseIdx_append_of_length_le (Nat.le_refl _)]
  simp

/-- What the list holds: the leaves that are left, by their numbers; then what was joined, in its order. -/
def jleaf (cs : List Int) (leaf : Nat) : List Int := (posB cs).filter fun s => decide (s ∈ (ordB cs).drop leaf)
def jsy (cs : List Int) (t : Tr) : List Int := t.sy.map fun j => (ordB cs).getD j 0
def jlist (cs : List Int) (sm : List Int) (ts : List Tr) (leaf made : Nat) : List Hp :=
  (jleaf cs leaf).map (fun s => (cnt cs s, [s])) ++ (List.range' made (sm.length - made)).map fun i => (sm.getD i 0, jsy cs (ts.getD i d0))
def jel (cs : List Int) (sm : List Int) (ts : List Tr) (i : Nat) : Hp := (sm.getD i 0, jsy cs (ts.getD i d0))

theorem jleaf_cut (cs : List Int) {leaf : Nat} (h : leaf < (ordB cs).length) : ∃ A C, jleaf cs leaf = A ++ (ordB cs).getD leaf 0 :: C ∧ jleaf cs (leaf + 1) = A ++ C ∧
    (∀ a ∈ A, cnt cs ((ordB cs).getD leaf 0) < cnt cs a) ∧ ∀ c ∈ C, cnt cs ((ordB cs).getD leaf 0) ≤ cnt cs c := by
  obtain ⟨s, hs⟩ : ∃ s, s = (ordB cs).getD leaf 0 := ⟨_, rfl⟩
  rw [← hs]
  have hdrop : (ordB cs).drop leaf = s :: (ordB cs).drop (leaf + 1) := by
    rw [List.drop_eq_getElem_cons h, hs, List.getD_eq_getElem?_getD, List.getElem?_eq_getElem h]; rfl
  have hnd : (s :: (ordB cs).drop (leaf + 1)).Nodup := by rw [← hdrop]; exact (List.drop_sublist _ _).nodup (ordB_nodup cs)
  rw [List.nodup_cons] at hnd
  have hsrt : ∀ y ∈ (ordB cs).drop (leaf + 1), lt (cnt cs) s y := by
    have := List.Pairwise.sublist (List.drop_sublist leaf (ordB cs)) (ordB_sorted cs)
    rw [hdrop, List.pairwise_cons] at this
    exact this.1
  have hmem : s ∈ jleaf cs leaf := by
    unfold jleaf
    rw [List.mem_filter]
    exact ⟨ordB_mem.1 (by rw [hs]; exact getD_mem h), by rw [hdrop]; simp⟩
  obtain ⟨A, C, hAC⟩ := List.append_of_mem hmem
  have hasc : (jleaf cs leaf).Pairwise (· < ·) := (posB_asc cs).filter _
  rw [hAC, List.pairwise_append, List.pairwise_cons] at hasc
  have hin : ∀ y, y ∈ A ∨ y ∈ C → y ∈ (ordB cs).drop (leaf + 1) := by
    intro y hy
    have h1 : y ∈ jleaf cs leaf := by rw [hAC]; rcases hy with hy | hy <;> simp [hy]
    unfold jleaf at h1
    rw [List.mem_filter, hdrop] at h1
    have h2 : y ∈ s :: (ordB cs).drop (leaf + 1) := by simpa using h1.2
    rcases List.mem_cons.1 h2 with e | e
    · exfalso
      subst e
      rcases hy with hy | hy
      · have := hasc.2.2 y hy y (by simp); omega
      · have := hasc.2.1.1 y hy; omega
    · exact e
  refine ⟨A, C, hAC, ?_, fun a ha => ?_, fun c hc => ?_⟩
  · have e1 : jleaf cs (leaf + 1) = (jleaf cs leaf).filter fun y => decide (y ≠ s) := by
      unfold jleaf
      rw [List.filter_filter]
      apply List.filter_congr
      intro y _
      rw [hdrop]
      by_cases e : y = s
      · subst e; simp [hnd.1]
      · simp [e]
    rw [e1, hAC, List.filter_append, List.filter_cons_of_neg (by simp)]
    rw [List.filter_eq_self.2 fun y hy => by have := hasc.2.2 y hy s (by simp); simp; omega, List.filter_eq_self.2 fun y hy => by have := hasc.2.1.1 y hy; simp; omega]
  · have h1 := hsrt a (hin a (.inl ha))
    have h2 := hasc.2.2 a ha s (by simp)
    unfold lt at h1; omega
  · have h1 := hsrt c (hin c (.inr hc))
    unfold lt at h1; omega

/-- One pick is one take. -/
theorem jpick {cs : List Int} {sm : List Int} {ts : List Tr} {leaf made : Nat} (hn : (ordB cs).length = (wts cs).length) (h1 : leaf ≤ (wts cs).length) (h2 : made ≤ sm.length) (h0 : (wts cs).length ≤ made) (h3 : leaf + made < (wts cs).length + sm.length)
    (hlf : ∀ i, i < (wts cs).length → ts.getD i d0 = .leaf i ∧ sm.getD i 0 = (wts cs).getD i 0) (hm : ∀ i j, (wts cs).length ≤ i → i ≤ j → j < sm.length → sm.getD i 0 ≤ sm.getD j 0) :
    jA (jlist cs sm ts leaf made) = jel cs sm ts (takeI (wts cs).length leaf made sm) ∧ jR (jlist cs sm ts leaf made) = jlist cs sm ts (takeL (wts cs).length leaf made sm) (takeM (wts cs).length leaf made sm) := by
  have hw : ∀ i, i < (wts cs).length → sm.getD i 0 = cnt cs ((ordB cs).getD i 0) := fun i hi => by rw [(hlf i hi).2, wts_get cs i (by omega)]
  unfold takeI takeL takeM
  by_cases hT : takeB (wts cs).length leaf made sm = true
  · rw [if_pos hT, if_pos hT, if_pos hT]
    simp only [takeB, Bool.and_eq_true, Bool.or_eq_true, decide_eq_true_eq] at hT
    obtain ⟨A, C, e1, e2, hA, hC⟩ := jleaf_cut cs (leaf := leaf) (by omega)
    have key := split_pick (A := A.map fun s => (cnt cs s, [s])) (x := (cnt cs ((ordB cs).getD leaf 0), [(ordB cs).getD leaf 0])) (C := C.map (fun s => (cnt cs s, [s])) ++ (List.range' made (sm.length - made)).map fun i => (sm.getD i 0, jsy cs (ts.getD i d0)))
      (fun a ha => by obtain ⟨y, hy, rfl⟩ := List.mem_map.1 ha; exact hA y hy) (fun c hc => by
        rcases List.mem_append.1 hc with hc | hc
        · obtain ⟨y, hy, rfl⟩ := List.mem_map.1 hc; exact hC y hy
        · obtain ⟨y, hy, rfl⟩ := List.mem_map.1 hc
          rw [List.mem_range'_1] at hy
          rw [← hw leaf (by omega)]
          show sm.getD leaf 0 ≤ sm.getD y 0
          rcases hT.2 with h | h
          · omega
          · exact Int.le_trans h (hm made y h0 hy.1 (by omega)))
    have e3 : jlist cs sm ts leaf made = A.map (fun s => (cnt cs s, [s])) ++ (cnt cs ((ordB cs).getD leaf 0), [(ordB cs).getD leaf 0]) :: (C.map (fun s => (cnt cs s, [s])) ++ (List.range' made (sm.length - made)).map fun i => (sm.getD i 0, jsy cs (ts.getD i d0))) := by
      unfold jlist; rw [e1]; simp
    rw [e3]
    refine ⟨key.1.trans ?_, key.2.trans ?_⟩
    · unfold jel jsy
      rw [(hlf leaf (by omega)).1, hw leaf (by omega)]; rfl
    · unfold jlist; rw [e2]; simp
  · rw [if_neg hT, if_neg hT, if_neg hT]
    simp only [takeB, Bool.and_eq_true, Bool.or_eq_true, decide_eq_true_eq, not_and, not_or] at hT
    have hml : made < sm.length := by
      by_cases hh : leaf < (wts cs).length
      · have := (hT hh).1; omega
      · omega
    have e1 : List.range' made (sm.length - made) = made :: List.range' (made + 1) (sm.length - (made + 1)) := range_take made sm.length hml
    have key := split_pick (A := (jleaf cs leaf).map fun s => (cnt cs s, [s])) (x := jel cs sm ts made) (C := (List.range' (made + 1) (sm.length - (made + 1))).map fun i => (sm.getD i 0, jsy cs (ts.getD i d0)))
      (fun a ha => by
        obtain ⟨y, hy, rfl⟩ := List.mem_map.1 ha
        unfold jleaf at hy
        rw [List.mem_filter] at hy
        have hy2 : y ∈ (ordB cs).drop leaf := by simpa using hy.2
        obtain ⟨j, hj, e⟩ := List.getElem_of_mem hy2
        rw [List.length_drop] at hj
        rw [List.getElem_drop] at e
        have hasc := wts_asc cs leaf (leaf + j) (by omega) (by omega)
        have h4 := (hT (by omega)).2
        show sm.getD made 0 < cnt cs y
        rw [(hlf leaf (by omega)).2] at h4
        have ey : (ordB cs).getD (leaf + j) 0 = y := by
          rw [List.getD_eq_getElem?_getD, List.getElem?_eq_getElem (show leaf + j < (ordB cs).length by omega)]; exact e
        rw [wts_get cs (leaf + j) (by omega), ey] at hasc
        omega)
      (fun c hc => by
        obtain ⟨y, hy, rfl⟩ := List.mem_map.1 hc
        rw [List.mem_range'_1] at hy
        exact hm made y h0 (by omega) (by omega))
    have e3 : jlist cs sm ts leaf made = (jleaf cs leaf).map (fun s => (cnt cs s, [s])) ++ jel cs sm ts made :: (List.range' (made + 1) (sm.length - (made + 1))).map fun i => (sm.getD i 0, jsy cs (ts.getD i d0)) := by
      unfold jlist; rw [e1]; rfl
    rw [e3]
    exact ⟨key.1, key.2⟩

theorem lv_shift : ∀ (t : Tr) (d j e : Nat), (j, e) ∈ t.lv (d + 1) → ∃ e', e = e' + 1 ∧ (j, e') ∈ t.lv d
  | .leaf i, d, j, e, h => by
    simp only [Tr.lv, List.mem_singleton, Prod.mk.injEq] at h
    exact ⟨d, h.2, by simp [Tr.lv, h.1]⟩
  | .node a b, d, j, e, h => by
    simp only [Tr.lv, List.mem_append] at h
    rcases h with h | h
    · obtain ⟨e', h1, h2⟩ := lv_shift a (d + 1) j e h
      exact ⟨e', h1, by simp [Tr.lv, h2]⟩
    · obtain ⟨e', h1, h2⟩ := lv_shift b (d + 1) j e h
      exact ⟨e', h1, by simp [Tr.lv, h2]⟩
theorem lv_mem_sy {t : Tr} {d j e : Nat} (h : (j, e) ∈ t.lv d) : j ∈ t.sy := by rw [← Tr.lv_sy t d]; exact List.mem_map.2 ⟨_, h, rfl⟩

structure JInv (cs : List Int) (k : Nat) : Prop where
  l : (jrun cs k).1 = jlist cs ((HSt.init (wts cs)).run (wts cs).length k).sm (trsB (wts cs) k) ((HSt.init (wts cs)).run (wts cs).length k).leaf ((HSt.init (wts cs)).run (wts cs).length k).made
  len : (jrun cs k).2.length = cs.length
  dep : ∀ i, Av (wts cs).length ((HSt.init (wts cs)).run (wts cs).length k).sm.length ((HSt.init (wts cs)).run (wts cs).length k).leaf ((HSt.init (wts cs)).run (wts cs).length k).made i →
    ∀ j e, (j, e) ∈ ((trsB (wts cs) k).getD i d0).lv 0 → (jrun cs k).2.getD ((ordB cs).getD j 0).toNat 0 = (e : Int)
  zero : ∀ s : Nat, (s : Int) ∉ posB cs → (jrun cs k).2.getD s 0 = 0

theorem av_mem {n len leaf made i : Nat} : Av n len leaf made i ↔ i ∈ avl n len leaf made := by
  unfold Av avl
  rw [List.mem_append, List.mem_range'_1, List.mem_range'_1]
  omega

theorem jinv_init (cs : List Int) : JInv cs 0 := by
  have hw := wts_len cs
  refine ⟨?_, by simp [jrun, jinit], fun i hi j e hj => ?_, fun s _ => ?_⟩
  · show (posB cs).map _ = jlist cs (wts cs) _ 0 (wts cs).length
    unfold jlist
    rw [Nat.sub_self, List.range'_zero, List.map_nil, List.append_nil]
    have : jleaf cs 0 = posB cs := by
      unfold jleaf
      rw [List.drop_zero, List.filter_eq_self]
      intro s hs
      simpa using ordB_mem.2 hs
    rw [this]
  · have hi' : i < (wts cs).length := by
      have : Av (wts cs).length (wts cs).length 0 (wts cs).length i := hi
      unfold Av at this; omega
    have e1 : (trsB (wts cs) 0).getD i d0 = .leaf i := by simp [trsB, List.getD_eq_getElem?_getD, hi']
    rw [e1] at hj
    simp only [Tr.lv, List.mem_singleton, Prod.mk.injEq] at hj
    obtain ⟨rfl, rfl⟩ := hj
    show (List.replicate cs.length 0).getD _ 0 = _
    rw [List.getD_eq_getElem?_getD, List.getElem?_replicate]; split <;> rfl
  · show (List.replicate cs.length 0).getD _ 0 = _
    rw [List.getD_eq_getElem?_getD, List.getElem?_replicate]; split <;> rfl

theorem jinv_step (cs : List Int) (h2 : 2 ≤ (ordB cs).length) (k : Nat) (hk : k + 2 ≤ (ordB cs).length) (hJ : JInv cs k) : JInv cs (k + 1) := by
  have hw := wts_len cs
  obtain ⟨hT, hsl⟩ := TOk.run (ws := wts cs) (by omega) (wts_pos cs) (wts_asc cs) k (by omega)
  obtain ⟨hT', hsl'⟩ := TOk.run (ws := wts cs) (by omega) (wts_pos cs) (wts_asc cs) (k + 1) (by omega)
  have pk := hT.pick (wts_asc cs) (by omega)
  obtain ⟨jl, jlen, jdep, jzero⟩ := hJ
  have hst : (HSt.init (wts cs)).run (wts cs).length (k + 1) = ((HSt.init (wts cs)).run (wts cs).length k).step (wts cs).length := rfl
  have htt : trsB (wts cs) (k + 1) = tstep (wts cs).length ((HSt.init (wts cs)).run (wts cs).length k) (trsB (wts cs) k) := rfl
  rw [hst, htt] at hT'
  obtain ⟨x, hx⟩ : ∃ x, x = (HSt.init (wts cs)).run (wts cs).length k := ⟨_, rfl⟩
  obtain ⟨ts, hts⟩ : ∃ ts, ts = trsB (wts cs) k := ⟨_, rfl⟩
  rw [← hx, ← hts] at hT hT' jl jdep
  rw [← hx] at hsl pk
  have lf := hT.ok.lf; have md := hT.ok.md; have sum := hT.ok.sum; have nm := hT.ok.nm; have n0 := hT.n0
  have hlf : ∀ i, i < (wts cs).length → ts.getD i d0 = .leaf i ∧ x.sm.getD i 0 = (wts cs).getD i 0 := fun i hi => ⟨hT.lf i hi, by rw [hT.wt i (by omega), hT.lf i hi]; rfl⟩
  have t1 := take_cases (wts cs).length x.leaf x.made x.sm lf md (by omega)
  have p1 := jpick (cs := cs) (ts := ts) (by omega) lf md nm (by omega) hlf hT.asc
  rw [← jl] at p1
  have e1 : takeI (wts cs).length x.leaf x.made x.sm = x.i1 (wts cs).length := rfl
  have e2 : takeL (wts cs).length x.leaf x.made x.sm = x.l1 (wts cs).length := rfl
  have e3 : takeM (wts cs).length x.leaf x.made x.sm = x.m1 (wts cs).length := rfl
  rw [e1, e2, e3] at p1
  rw [e2, e3] at t1
  have p2 := jpick (cs := cs) (ts := ts) (sm := x.sm) (leaf := x.l1 (wts cs).length) (made := x.m1 (wts cs).length) (by omega) (by omega) (by omega) (by omega) (by omega) hlf hT.asc
  rw [← p1.2] at p2
  have e4 : takeI (wts cs).length (x.l1 (wts cs).length) (x.m1 (wts cs).length) x.sm = x.i2 (wts cs).length := rfl
  have e5 : takeL (wts cs).length (x.l1 (wts cs).length) (x.m1 (wts cs).length) x.sm = (x.step (wts cs).length).leaf := rfl
  have e6 : takeM (wts cs).length (x.l1 (wts cs).length) (x.m1 (wts cs).length) x.sm = (x.step (wts cs).length).made := rfl
  rw [e4, e5, e6] at p2
  obtain ⟨a, ha⟩ : ∃ a, a = x.i1 (wts cs).length := ⟨_, rfl⟩
  obtain ⟨b, hb⟩ : ∃ b, b = x.i2 (wts cs).length := ⟨_, rfl⟩
  rw [← ha] at p1
  rw [← hb] at p2
  rw [← ha, ← hb] at pk
  have avlt : ∀ {j}, Av (wts cs).length x.sm.length x.leaf x.made j → j < x.sm.length := fun {j} hj => by unfold Av at hj; omega
  have hal := avlt pk.ava
  have hbl := avlt pk.avb
  have htsn : tstep (wts cs).length x ts = ts ++ [.node (ts.getD a d0) (ts.getD b d0)] := by rw [ha, hb]; rfl
  have hsmn : (x.step (wts cs).length).sm = x.sm ++ [x.sm.getD a 0 + x.sm.getD b 0] := by rw [ha, hb]; rfl
  have tl : ∀ i, i < x.sm.length → (tstep (wts cs).length x ts).getD i d0 = ts.getD i d0 := fun i hi => by rw [htsn, getD_snoc_lt _ _ _ _ (by rw [hT.len]; exact hi)]
  have te : (tstep (wts cs).length x ts).getD x.sm.length d0 = .node (ts.getD a d0) (ts.getD b d0) := by rw [htsn, getD_snoc_eq _ _ _ _ hT.len.symm]
  have hH : jH (jrun cs k).1 = (x.sm.getD a 0 + x.sm.getD b 0, jsy cs (.node (ts.getD a d0) (ts.getD b d0))) := by
    unfold jH
    rw [p1.1, p2.1]
    unfold jel jsy
    simp [Tr.sy]
  -- the symbols of the trees that are there: all apart
  have hnd : ((avl (wts cs).length x.sm.length x.leaf x.made).flatMap fun i => (ts.getD i d0).sy).Nodup := hT.sys.nodup_iff.2 List.nodup_range
  have apart : ∀ i i' j, Av (wts cs).length x.sm.length x.leaf x.made i → Av (wts cs).length x.sm.length x.leaf x.made i' → j ∈ (ts.getD i d0).sy → j ∈ (ts.getD i' d0).sy → i = i' := fun i i' j hi hi' h1 h3 => by
    apply Classical.byContradiction
    intro hne
    have := List.pairwise_flatMap.1 hnd
    have hp := this.2
    rcases Nat.lt_or_gt_of_ne hne with hlt | hlt
    all_goals
      have hsrt : (avl (wts cs).length x.sm.length x.leaf x.made).Pairwise (· < ·) := by
        unfold avl
        rw [List.pairwise_append]
        refine ⟨List.pairwise_lt_range', List.pairwise_lt_range', fun u hu v hv => ?_⟩
        rw [List.mem_range'_1] at hu hv; omega
    · obtain ⟨p, hp1, hp2⟩ := List.getElem_of_mem (av_mem.1 hi)
      obtain ⟨q, hq1, hq2⟩ := List.getElem_of_mem (av_mem.1 hi')
      have hpq : p < q := by
        rcases Nat.lt_trichotomy p q with h | h | h
        · exact h
        · subst h; omega
        · have := List.pairwise_iff_getElem.1 hsrt q p hq1 hp1 h; omega
      have := List.pairwise_iff_getElem.1 hp p q hp1 hq1 hpq j (by rw [hp2]; exact h1) j (by rw [hq2]; exact h3)
      exact this rfl
    · obtain ⟨p, hp1, hp2⟩ := List.getElem_of_mem (av_mem.1 hi)
      obtain ⟨q, hq1, hq2⟩ := List.getElem_of_mem (av_mem.1 hi')
      have hpq : q < p := by
        rcases Nat.lt_trichotomy q p with h | h | h
        · exact h
        · subst h; omega
        · have := List.pairwise_iff_getElem.1 hsrt p q hp1 hq1 h; omega
      have := List.pairwise_iff_getElem.1 hp q p hq1 hp1 hpq j (by rw [hq2]; exact h3) j (by rw [hp2]; exact h1)
      exact this rfl
  have syb : ∀ i j, Av (wts cs).length x.sm.length x.leaf x.made i → j ∈ (ts.getD i d0).sy → j < (ordB cs).length := fun i j hi hj => by
    have : j ∈ List.range (wts cs).length := hT.sys.subset (List.mem_flatMap.2 ⟨i, av_mem.1 hi, hj⟩)
    rw [List.mem_range] at this; omega
  have one : ∀ i, Av (wts cs).length x.sm.length x.leaf x.made i → (ts.getD i d0).sy.Nodup := fun i hi => (List.pairwise_flatMap.1 hnd).1 i (av_mem.1 hi)
  have inj : ∀ j j', j < (ordB cs).length → j' < (ordB cs).length → (ordB cs).getD j 0 = (ordB cs).getD j' 0 → j = j' := fun j j' h1 h3 e => by
    rw [List.getD_eq_getElem?_getD, List.getD_eq_getElem?_getD, List.getElem?_eq_getElem h1, List.getElem?_eq_getElem h3] at e
    exact (List.getElem_inj (ordB_nodup cs)).1 e
  have symem : ∀ j, j ∈ (ts.getD a d0).sy ++ (ts.getD b d0).sy → j < (ordB cs).length := fun j hj => by
    rcases List.mem_append.1 hj with h | h
    · exact syb a j pk.ava h
    · exact syb b j pk.avb h
  have hLn : (jsy cs (.node (ts.getD a d0) (ts.getD b d0))).Nodup := by
    unfold jsy
    simp only [Tr.sy]
    have h1 : ((ts.getD a d0).sy ++ (ts.getD b d0).sy).Nodup := by
      rw [List.nodup_append]
      exact ⟨one a pk.ava, one b pk.avb, fun u hu v hv e => pk.ne (apart a b u pk.ava pk.avb hu (by rw [e]; exact hv))⟩
    have : ∀ l : List Nat, l.Nodup → (∀ j ∈ l, j < (ordB cs).length) → (l.map fun j => (ordB cs).getD j 0).Nodup := by
      intro l
      induction l with
      | nil => intro _ _; exact List.nodup_nil
      | cons y r ih =>
        intro hn hb
        rw [List.nodup_cons] at hn
        rw [List.map_cons, List.nodup_cons]
        refine ⟨fun hm => ?_, ih hn.2 fun j hj => hb j (List.mem_cons_of_mem _ hj)⟩
        obtain ⟨z, hz, e⟩ := List.mem_map.1 hm
        have := inj z y (hb z (List.mem_cons_of_mem _ hz)) (hb y (List.mem_cons_self ..)) e
        subst this
        exact hn.1 hz
    exact this _ h1 symem
  have hLb : ∀ s ∈ jsy cs (.node (ts.getD a d0) (ts.getD b d0)), 0 ≤ s ∧ s < ((jrun cs k).2.length : Int) ∧ s ∈ posB cs := fun s hs => by
    unfold jsy at hs
    obtain ⟨j, hj, rfl⟩ := List.mem_map.1 hs
    have hjl := symem j hj
    have hp := ordB_mem.1 (getD_mem hjl)
    have := posB_mem hp
    rw [jlen]
    exact ⟨this.1, this.2.1, hp⟩
  have hget := incs_get (jsy cs (.node (ts.getD a d0) (ts.getD b d0))) (jrun cs k).2 hLn (fun s hs => ⟨(hLb s hs).1, (hLb s hs).2.1⟩)
  have hrun : jrun cs (k + 1) = (jR (jR (jrun cs k).1) ++ [jH (jrun cs k).1], incs (jrun cs k).2 (jH (jrun cs k).1).2) := rfl
  have hlen' : (x.step (wts cs).length).sm.length = x.sm.length + 1 := by rw [hsmn]; simp
  refine ⟨?_, ?_, ?_, ?_⟩
  · rw [hst, htt, ← hx, ← hts, hrun]
    dsimp only
    rw [p2.2, hH]
    unfold jlist
    rw [List.append_assoc]
    congr 1
    have mle := pk.mle
    rw [hlen', show x.sm.length + 1 - (x.step (wts cs).length).made = (x.sm.length - (x.step (wts cs).length).made) + 1 from by omega, List.range'_concat, List.map_append]
    congr 1
    · refine List.map_congr_left fun i hi => ?_
      rw [List.mem_range'_1] at hi
      rw [tl i (by omega), hsmn, getD_snoc_lt _ _ _ _ (by omega)]
    · simp only [List.map_cons, List.map_nil, Nat.one_mul]
      rw [show (x.step (wts cs).length).made + (x.sm.length - (x.step (wts cs).length).made) = x.sm.length from by omega, te, hsmn, getD_snoc_eq _ _ _ _ rfl]
  · rw [hrun]; simp [jlen]
  · rw [hst, htt, ← hx, ← hts, hrun]
    dsimp only
    rw [hH]
    dsimp only
    intro i hi j e hj
    rw [hget]
    have hav : i = x.sm.length ∨ (Av (wts cs).length x.sm.length x.leaf x.made i ∧ i ≠ a ∧ i ≠ b) := by
      rw [← pk.av' i]
      rw [hlen'] at hi
      unfold Av at hi ⊢
      omega
    rcases hav with rfl | ⟨hi1, hia, hib⟩
    · rw [te] at hj
      simp only [Tr.lv, List.mem_append] at hj
      have hin : j ∈ (ts.getD a d0).sy ++ (ts.getD b d0).sy := by
        rcases hj with hj | hj
        · exact List.mem_append_left _ (lv_mem_sy hj)
        · exact List.mem_append_right _ (lv_mem_sy hj)
      have hjl := symem j hin
      have hpos := posB_mem (ordB_mem.1 (getD_mem hjl))
      have hmem : (((ordB cs).getD j 0).toNat : Int) ∈ jsy cs (.node (ts.getD a d0) (ts.getD b d0)) := by
        rw [show (((ordB cs).getD j 0).toNat : Int) = (ordB cs).getD j 0 from by omega]
        exact List.mem_map.2 ⟨j, hin, rfl⟩
      rw [if_pos hmem]
      rcases hj with hj | hj
      · obtain ⟨e', rfl, he⟩ := lv_shift _ _ _ _ hj
        have := jdep a pk.ava j e' he; omega
      · obtain ⟨e', rfl, he⟩ := lv_shift _ _ _ _ hj
        have := jdep b pk.avb j e' he; omega
    · rw [tl i (avlt hi1)] at hj
      have hjs := lv_mem_sy hj
      have hjl := syb i j hi1 hjs
      have hpos := posB_mem (ordB_mem.1 (getD_mem hjl))
      have hmem : (((ordB cs).getD j 0).toNat : Int) ∉ jsy cs (.node (ts.getD a d0) (ts.getD b d0)) := fun hm => by
        rw [show (((ordB cs).getD j 0).toNat : Int) = (ordB cs).getD j 0 from by omega] at hm
        obtain ⟨j', hj', ee⟩ := List.mem_map.1 hm
        have hin : j' ∈ (ts.getD a d0).sy ++ (ts.getD b d0).sy := hj'
        have := inj j' j (symem j' hin) hjl ee
        subst this
        rcases List.mem_append.1 hin with h | h
        · exact hia (apart i a j' hi1 pk.ava hjs h)
        · exact hib (apart i b j' hi1 pk.avb hjs h)
      rw [if_neg hmem, jdep i hi1 j e hj]; omega
  · intro s hs
    rw [hrun]
    dsimp only
    rw [hH]
    dsimp only
    rw [hget, if_neg (fun h => hs (hLb _ h).2.2), jzero s hs]; omega

theorem jinv (cs : List Int) (h2 : 2 ≤ (ordB cs).length) : ∀ k, k + 1 ≤ (ordB cs).length → JInv cs k
  | 0, _ => jinv_init cs
  | k + 1, hk => jinv_step cs h2 k (by omega) (jinv cs h2 k (by omega))

/-- The joins give the lengths of the merge. -/
theorem joins_merge {cs : List Int} (h2 : 2 ≤ (ordB cs).length) : joinsB cs = mergeB cs := by
  have hw := wts_len cs
  have hJ := jinv cs h2 ((ordB cs).length - 1) (by omega)
  obtain ⟨hT, hsl⟩ := TOk.run (ws := wts cs) (by omega) (wts_pos cs) (wts_asc cs) ((ordB cs).length - 1) (by omega)
  have hm := mrg_of (ws := wts cs) (by omega) (wts_pos cs) (wts_asc cs)
  have hl := lgo_at (ordB cs) (deepB (wts cs)) (List.replicate cs.length 0) (ordB_nodup cs) (fun x hx => by have := posB_mem (ordB_mem.1 hx); simp; omega) (ordB cs).length (Nat.le_refl _)
  have hpl : (posB cs).length = (ordB cs).length := ((ordB_perm cs).length_eq).symm
  have e0 : joinsB cs = (jrun cs ((ordB cs).length - 1)).2 := by unfold joinsB; rw [hpl]
  rw [hw] at hm
  have la := hT.last (by omega)
  have lf := hT.ok.lf; have md := hT.ok.md; have sum := hT.ok.sum; have nm := hT.ok.nm
  have hav : Av (wts cs).length ((HSt.init (wts cs)).run (wts cs).length ((ordB cs).length - 1)).sm.length ((HSt.init (wts cs)).run (wts cs).length ((ordB cs).length - 1)).leaf ((HSt.init (wts cs)).run (wts cs).length ((ordB cs).length - 1)).made (2 * (ordB cs).length - 2) := by
    unfold Av; omega
  have hdep := hJ.dep _ hav
  rw [e0]
  apply List.ext_getElem
  · rw [hJ.len, mergeB_len]
  · intro s h1 h3
    have g1 : (jrun cs ((ordB cs).length - 1)).2[s] = (jrun cs ((ordB cs).length - 1)).2.getD s 0 := by rw [List.getD_eq_getElem?_getD, List.getElem?_eq_getElem h1]; rfl
    have g2 : (mergeB cs)[s] = (mergeB cs).getD s 0 := by rw [List.getD_eq_getElem?_getD, List.getElem?_eq_getElem h3]; rfl
    rw [g1, g2]
    by_cases hs : (s : Int) ∈ posB cs
    · obtain ⟨j, hj, e⟩ := List.getElem_of_mem (ordB_mem.2 hs)
      have eg : (ordB cs).getD j 0 = (s : Int) := by rw [List.getD_eq_getElem?_getD, List.getElem?_eq_getElem hj, e]; rfl
      have hjs : j ∈ ((trsB (wts cs) ((ordB cs).length - 1)).getD (2 * (ordB cs).length - 2) d0).sy := hm.sy.symm.subset (by rw [List.mem_range]; omega)
      rw [← Tr.lv_sy _ 0] at hjs
      obtain ⟨⟨j', d⟩, hp, e1⟩ := List.mem_map.1 hjs
      dsimp only at e1
      subst e1
      have d1 := hdep j' d hp
      have d2 := hl.1 j' hj
      rw [eg, Int.toNat_natCast] at d1 d2
      rw [d1, mergeB_big h2, d2, hm.dp j' d hp]
    · rw [hJ.zero s hs, mergeB_big h2, hl.2 s fun j hj e => ?_]
      · rw [List.getD_eq_getElem?_getD, List.getElem?_replicate]; split <;> rfl
      · refine hs ?_
        have hmem := ordB_mem.1 (getD_mem hj)
        have := posB_mem hmem
        rw [show (s : Int) = (ordB cs).getD j 0 from by omega]; exact hmem
end Eng
end Go.Proofs.Ytighkjohpmlemaa
