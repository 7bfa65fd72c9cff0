/-
  Plain law: what the lengths of a merge are like: which symbols have one, how long they are, that they make a whole code.
-/
import Derived.Test.YtighkjohpmlemaaPa
import Derived.Test.YtighkjohpmlemaaHg
namespace Go.Proofs.Ytighkjohpmlemaa
open Go.RowKit
namespace Eng

theorem maxL_le {zs : List Int} {z : Int} (h : z ∈ zs) : z ≤ maxL zs := by
  have key : ∀ (l : List Int) (a : Int), a ≤ l.foldl max a ∧ ∀ y ∈ l, y ≤ l.foldl max a := by
    intro l
    induction l with
    | nil => intro a; exact ⟨Int.le_refl _, fun y hy => by cases hy⟩
    | cons x r ih =>
      intro a
      obtain ⟨h1, h2⟩ := ih (max a x)
      rw [List.foldl_cons]
      refine ⟨by omega, fun y hy => ?_⟩
      rcases List.mem_cons.1 hy with rfl | hy
      · omega
      · exact h2 y hy
  cases zs with
  | nil => cases h
  | cons x r =>
    unfold maxL
    simp only [List.tail_cons, List.headD_cons]
    rcases List.mem_cons.1 h with rfl | h
    · exact (key r _).1
    · exact (key r x).2 z h

/-- What a length counts for. -/
def mg (z : Int) : Nat := if 0 < z then 2 ^ (12 - z.toNat) else 0
def npos (zs : List Int) : Nat := zs.countP fun z => decide (0 < z)

theorem mayGo_eq : ∀ (zs : List Int) (c s : Int), Lens zs → mayGo zs c s = mayGo [] (c + npos zs) (s + (zs.map mg).sum)
  | [], c, s, _ => by simp [npos]
  | z :: r, c, s, h => by
    have hz := h z (List.mem_cons_self ..)
    have hr : Lens r := fun y hy => h y (List.mem_cons_of_mem _ hy)
    rw [mayGo_cons, if_neg (by omega)]
    by_cases h0 : 0 < z
    · rw [if_pos h0, mayGo_eq r _ _ hr]
      have e1 : npos (z :: r) = npos r + 1 := by unfold npos; rw [List.countP_cons_of_pos (by simpa using h0)]
      have e2 : (mg z : Int) = p2 (12 - z) := by
        unfold mg p2
        rw [if_pos h0, show (12 - z).toNat = 12 - z.toNat from by omega]
        simp
      rw [e1, List.map_cons, List.sum_cons]
      congr 1
      · omega
      · rw [← e2]; omega
    · rw [if_neg h0, mayGo_eq r _ _ hr]
      have e1 : npos (z :: r) = npos r := by unfold npos; rw [List.countP_cons_of_neg (by simpa using h0)]
      have e2 : mg z = 0 := by unfold mg; rw [if_neg h0]
      rw [e1, List.map_cons, List.sum_cons, e2, Nat.zero_add]

theorem mayB_of {zs : List Int} (hl : zs.length ≤ 400) (h : Lens zs) (hn : 2 ≤ npos zs) (hs : (zs.map mg).sum = 4096) : mayB zs = true := by
  unfold mayB
  rw [mayGo_eq zs 0 0 h, mayGo_nil, if_neg (by omega), hs]
  simp [hl]

theorem lgo_at (S deep lens : List Int) (hnd : S.Nodup) (hb : ∀ x ∈ S, 0 ≤ x ∧ x < lens.length) : ∀ k, k ≤ S.length →
    (∀ j, j < k → (lgo S deep lens k).getD (S.getD j 0).toNat 0 = deep.getD j 0) ∧ ∀ s : Nat, (∀ j, j < k → (S.getD j 0).toNat ≠ s) → (lgo S deep lens k).getD s 0 = lens.getD s 0
  | 0, _ => ⟨fun j hj => by omega, fun s _ => rfl⟩
  | k + 1, hk => by
    obtain ⟨h1, h2⟩ := lgo_at S deep lens hnd hb k (by omega)
    have hmem : ∀ j, j < S.length → S.getD j 0 ∈ S := fun j hj => by
      rw [List.getD_eq_getElem?_getD, List.getElem?_eq_getElem hj]; exact List.getElem_mem hj
    have hk' := hb _ (hmem k (by omega))
    have hinj : ∀ j, j < k → (S.getD j 0).toNat ≠ (S.getD k 0).toNat := fun j hj e => by
      have h3 := hb _ (hmem j (by omega))
      have e' : S.getD j 0 = S.getD k 0 := by omega
      rw [List.getD_eq_getElem?_getD, List.getD_eq_getElem?_getD, List.getElem?_eq_getElem (by omega), List.getElem?_eq_getElem (by omega)] at e'
      have := (List.getElem_inj hnd).1 e'
      omega
    refine ⟨fun j hj => ?_, fun s hs => ?_⟩
    · simp only [lgo]
      rw [getD_set, length_lgo]
      by_cases e : j = k
      · subst e; rw [if_pos ⟨rfl, by omega⟩]
      · rw [if_neg (fun hh => hinj j (by omega) hh.1.symm)]
        exact h1 j (by omega)
    · simp only [lgo]
      rw [getD_set, if_neg (fun hh => hs k (by omega) hh.1)]
      exact h2 s fun j hj => hs j (by omega)

theorem ordB_mem {cs : List Int} {x : Int} : x ∈ ordB cs ↔ x ∈ posB cs := (ordB_perm cs).mem_iff
theorem posB_iff {cs : List Int} {x : Int} : x ∈ posB cs ↔ 0 ≤ x ∧ x < cs.length ∧ 0 < cnt cs x := by
  refine ⟨posB_mem, fun h => ?_⟩
  unfold posB
  refine List.mem_map.2 ⟨x.toNat, List.mem_filter.2 ⟨List.mem_range.2 (by omega), ?_⟩, by omega⟩
  have := h.2.2
  unfold cnt at this
  simpa using this
theorem ordB_nodup (cs : List Int) : (ordB cs).Nodup := (ordB_perm cs).nodup_iff.2 (posB_nodup cs)

theorem getD_mem {l : List Int} {j : Nat} (h : j < l.length) : l.getD j 0 ∈ l := by
  rw [List.getD_eq_getElem?_getD, List.getElem?_eq_getElem h]; exact List.getElem_mem h

/-- The weights in their order. -/
def wts (cs : List Int) : List Int := (ordB cs).map (cnt cs)
theorem wts_get (cs : List Int) (i : Nat) (h : i < (ordB cs).length) : (wts cs).getD i 0 = cnt cs ((ordB cs).getD i 0) := by
  unfold wts
  rw [List.getD_eq_getElem?_getD, List.getD_eq_getElem?_getD, List.getElem?_map, List.getElem?_eq_getElem h]; rfl
theorem wts_len (cs : List Int) : (wts cs).length = (ordB cs).length := by unfold wts; simp
theorem wts_pos (cs : List Int) : ∀ i, i < (wts cs).length → 1 ≤ (wts cs).getD i 0 := fun i hi => by
  rw [wts_len] at hi
  rw [wts_get cs i hi]
  have := (posB_mem (ordB_mem.1 (getD_mem hi))).2.2; omega
theorem wts_asc (cs : List Int) : ∀ i j, i ≤ j → j < (wts cs).length → (wts cs).getD i 0 ≤ (wts cs).getD j 0 := fun i j hij hj => by
  rw [wts_len] at hj
  rcases Nat.lt_or_eq_of_le hij with h | h
  · rw [wts_get cs i (by omega), wts_get cs j hj]
    have := List.pairwise_iff_getElem.1 (ordB_sorted cs) i j (by omega) hj h
    rw [List.getD_eq_getElem?_getD, List.getD_eq_getElem?_getD, List.getElem?_eq_getElem hj, List.getElem?_eq_getElem (show i < (ordB cs).length by omega)]
    show cnt cs (ordB cs)[i] ≤ cnt cs (ordB cs)[j]
    unfold lt at this; omega
  · subst h; omega

theorem mergeB_big {cs : List Int} (h : 2 ≤ (ordB cs).length) : mergeB cs = lgo (ordB cs) (deepB (wts cs)) (List.replicate cs.length 0) (ordB cs).length := by
  unfold mergeB
  simp only
  rw [if_neg (by omega), if_neg (by omega)]; rfl
theorem mergeB_zero {cs : List Int} (h : (ordB cs).length = 0) : mergeB cs = List.replicate cs.length 0 := by
  unfold mergeB
  simp only
  rw [if_pos h]
theorem mergeB_one {cs : List Int} (h : (ordB cs).length = 1) : mergeB cs = (List.replicate cs.length 0).set ((ordB cs).getD 0 0).toNat 1 := by
  unfold mergeB
  simp only
  rw [if_neg (by omega), if_pos h]
@[simp] theorem mergeB_len (cs : List Int) : (mergeB cs).length = cs.length := by
  unfold mergeB
  simp only
  split
  · simp
  · split
    · simp
    · simp

/-- All that is known of the lengths of a merge. -/
structure LOk (cs lens : List Int) (T : Tr) : Prop where
  len : lens.length = cs.length
  mrg : ∃ deep, Mrg (wts cs) deep T ∧ ∀ j, j < (ordB cs).length → lens.getD ((ordB cs).getD j 0).toNat 0 = deep.getD j 0
  zero : ∀ s, s < cs.length → ¬ 0 < cs.getD s 0 → lens.getD s 0 = 0

theorem lok_of {cs : List Int} (h : 2 ≤ (ordB cs).length) : ∃ T, LOk cs (mergeB cs) T := by
  have hm := mrg_of (ws := wts cs) (by rw [wts_len]; exact h) (wts_pos cs) (wts_asc cs)
  have hl := lgo_at (ordB cs) (deepB (wts cs)) (List.replicate cs.length 0) (ordB_nodup cs) (fun x hx => by have := posB_mem (ordB_mem.1 hx); simp; omega) (ordB cs).length (Nat.le_refl _)
  refine ⟨_, ⟨mergeB_len cs, ⟨_, hm, ?_⟩, fun s hs h0 => ?_⟩⟩
  · rw [mergeB_big h]; exact hl.1
  · rw [mergeB_big h, hl.2 s fun j hj e => ?_]
    · rw [List.getD_eq_getElem?_getD, List.getElem?_replicate]; split <;> rfl
    · have := (posB_mem (ordB_mem.1 (getD_mem hj))).2.2
      unfold cnt at this
      rw [e] at this; exact h0 this

section
variable {cs lens : List Int} {T : Tr}

/-- A symbol that comes has a place in the tree. -/
theorem LOk.at_ (h : LOk cs lens T) {s : Nat} (hs : s < cs.length) (h0 : 0 < cs.getD s 0) : ∃ j e, j < (ordB cs).length ∧ (ordB cs).getD j 0 = (s : Int) ∧ (j, e) ∈ T.lv 0 ∧ lens.getD s 0 = (e : Int) := by
  obtain ⟨deep, hm, hl⟩ := h.mrg
  have hmem : (s : Int) ∈ ordB cs := ordB_mem.2 (posB_iff.2 ⟨by omega, by omega, by unfold cnt; simpa using h0⟩)
  obtain ⟨j, hj, he⟩ := List.getElem_of_mem hmem
  have hg : (ordB cs).getD j 0 = (s : Int) := by rw [List.getD_eq_getElem?_getD, List.getElem?_eq_getElem hj, he]; rfl
  have hjs : j ∈ T.sy := hm.sy.symm.subset (by rw [List.mem_range, wts_len]; exact hj)
  rw [← Tr.lv_sy T 0] at hjs
  obtain ⟨⟨j', e⟩, hp, e1⟩ := List.mem_map.1 hjs
  dsimp only at e1
  subst e1
  refine ⟨j', e, hj, hg, hp, ?_⟩
  have := hl j' hj
  rw [hg] at this
  rw [Int.toNat_natCast] at this
  rw [this, hm.dp j' e hp]

theorem LOk.bd (h : LOk cs lens T) {s : Nat} (hs : s < cs.length) : 0 ≤ lens.getD s 0 ∧ lens.getD s 0 ≤ T.h ∧ (0 < lens.getD s 0 ↔ 0 < cs.getD s 0) := by
  obtain ⟨deep, hm, hl⟩ := h.mrg
  by_cases h0 : 0 < cs.getD s 0
  · obtain ⟨j, e, hj, hg, hp, hle⟩ := h.at_ hs h0
    have hb := Tr.lv_bd T 0 j e hp
    have h1 : 1 ≤ e := by
      have := hm.h1
      cases T with
      | leaf i => simp [Tr.h] at this
      | node a b =>
        simp only [Tr.lv, List.mem_append] at hp
        rcases hp with hp | hp
        · have := Tr.lv_bd _ _ _ _ hp; omega
        · have := Tr.lv_bd _ _ _ _ hp; omega
    rw [hle]
    refine ⟨by omega, by omega, fun _ => h0, fun _ => by omega⟩
  · rw [h.zero s hs h0]
    exact ⟨by omega, by omega, fun hh => by omega, fun hh => absurd hh h0⟩

theorem LOk.top (h : LOk cs lens T) : ∃ s, s < cs.length ∧ lens.getD s 0 = (T.h : Int) := by
  obtain ⟨deep, hm, hl⟩ := h.mrg
  obtain ⟨j, hj⟩ := Tr.lv_top T 0
  have hjs : j ∈ T.sy := by rw [← Tr.lv_sy T 0]; exact List.mem_map.2 ⟨_, hj, rfl⟩
  have hjn := List.mem_range.1 (hm.sy.subset hjs)
  rw [wts_len] at hjn
  have hmm := posB_mem (ordB_mem.1 (getD_mem hjn))
  refine ⟨((ordB cs).getD j 0).toNat, by omega, ?_⟩
  rw [hl j hjn, hm.dp j _ hj]; omega

theorem mem_get_of {l : List Int} {z : Int} (h : z ∈ l) : ∃ i, i < l.length ∧ l.getD i 0 = z := by
  obtain ⟨i, hi, e⟩ := List.getElem_of_mem h
  exact ⟨i, hi, by rw [List.getD_eq_getElem?_getD, List.getElem?_eq_getElem hi, e]; rfl⟩

theorem LOk.max (h : LOk cs lens T) : maxL lens = T.h := by
  obtain ⟨s, hs, e⟩ := h.top
  have hm : lens.getD s 0 ∈ lens := getD_mem (by rw [h.len]; exact hs)
  have h1 := maxL_le hm
  have hne : lens ≠ [] := fun e => by rw [e] at hm; cases hm
  obtain ⟨i, hi, e2⟩ := mem_get_of (maxL_mem hne)
  have := (h.bd (by rw [← h.len]; exact hi)).2.1
  omega

theorem sum_filter (p : Nat → Bool) (f : Nat → Nat) : ∀ l : List Nat, (∀ x ∈ l, p x = false → f x = 0) → ((l.filter p).map f).sum = (l.map f).sum
  | [], _ => rfl
  | x :: l, h => by
    have ih := sum_filter p f l fun y hy => h y (List.mem_cons_of_mem _ hy)
    cases hp : p x with
    | true => rw [List.filter_cons_of_pos hp, List.map_cons, List.map_cons, List.sum_cons, List.sum_cons, ih]
    | false => rw [List.filter_cons_of_neg (by rw [hp]; decide), List.map_cons, List.sum_cons, h x (List.mem_cons_self ..) hp, ih]; omega

theorem list_range (l : List Int) : l = (List.range l.length).map fun s => l.getD s 0 := by
  apply List.ext_getElem
  · simp
  · intro i h1 h2
    simp only [List.getElem_map, List.getElem_range]
    rw [List.getD_eq_getElem?_getD, List.getElem?_eq_getElem h1]; rfl

/-- Sums over the symbols and over the leaves. -/
theorem LOk.sum (h : LOk cs lens T) (g : Int → Nat) (hg : g 0 = 0) : (lens.map g).sum = ((T.lv 0).map fun p => g (p.2 : Int)).sum := by
  obtain ⟨deep, hm, hl⟩ := h.mrg
  have e1 : (lens.map g).sum = ((List.range cs.length).map fun s => g (lens.getD s 0)).sum := by
    rw [← h.len]
    conv => lhs; rw [list_range lens]
    rw [List.map_map]; rfl
  have e2 := sum_filter (fun i => decide (0 < cs.getD i 0)) (fun s => g (lens.getD s 0)) (List.range cs.length) (fun s hs hp => by
    rw [h.zero s (List.mem_range.1 hs) (by simpa using hp)]; exact hg)
  have e3 : ((posB cs).map fun x => g (lens.getD x.toNat 0)).sum = (((List.range cs.length).filter fun i => decide (0 < cs.getD i 0)).map fun s => g (lens.getD s 0)).sum := by
    unfold posB
    rw [List.map_map]
    congr 1
  have e4 : ((ordB cs).map fun x => g (lens.getD x.toNat 0)).sum = ((posB cs).map fun x => g (lens.getD x.toNat 0)).sum := List.Perm.sum_nat ((ordB_perm cs).map _)
  have e5 : ((ordB cs).map fun x => g (lens.getD x.toNat 0)).sum = ((List.range (ordB cs).length).map fun j => g (deep.getD j 0)).sum := by
    congr 1
    conv => lhs; rw [list_range (ordB cs)]
    rw [List.map_map]
    refine List.map_congr_left fun j hj => ?_
    show g (lens.getD ((ordB cs).getD j 0).toNat 0) = _
    rw [hl j (List.mem_range.1 hj)]
  have e6 : (T.sy.map fun j => g (deep.getD j 0)).sum = ((List.range (ordB cs).length).map fun j => g (deep.getD j 0)).sum := List.Perm.sum_nat (by have := hm.sy; rw [wts_len] at this; exact this.map _)
  have e7 : (T.sy.map fun j => g (deep.getD j 0)).sum = ((T.lv 0).map fun p => g (p.2 : Int)).sum := by
    rw [← Tr.lv_sy T 0, List.map_map]
    congr 1
    refine List.map_congr_left fun p hp => ?_
    show g (deep.getD p.1 0) = _
    rw [hm.dp p.1 p.2 hp]
  rw [e1, ← e2, ← e3, ← e4, e5, ← e6, e7]

theorem countP_sum (p : Int → Bool) : ∀ l : List Int, l.countP p = (l.map fun z => if p z then 1 else 0).sum
  | [] => rfl
  | x :: l => by
    rw [List.map_cons, List.sum_cons, List.countP_cons, countP_sum p l]
    omega

theorem LOk.lv1 (h : LOk cs lens T) {p : Nat × Nat} (hp : p ∈ T.lv 0) : 1 ≤ p.2 ∧ p.2 ≤ T.h := by
  obtain ⟨deep, hm, hl⟩ := h.mrg
  obtain ⟨j, e⟩ := p
  have hb := Tr.lv_bd T 0 j e hp
  have := hm.h1
  refine ⟨?_, by omega⟩
  cases T with
  | leaf i => simp [Tr.h] at this
  | node a b =>
    simp only [Tr.lv, List.mem_append] at hp
    rcases hp with hp | hp
    · have := Tr.lv_bd _ _ _ _ hp; omega
    · have := Tr.lv_bd _ _ _ _ hp; omega

theorem LOk.may (h : LOk cs lens T) (hl : cs.length ≤ 400) (h12 : T.h ≤ 12) : mayB lens = true := by
  have hs := h.sum mg (by decide)
  have hk := Tr.kraft 12 T 0 (by omega)
  have e : ((T.lv 0).map fun p => mg (p.2 : Int)) = (T.lv 0).map fun p => 2 ^ (12 - p.2) := by
    refine List.map_congr_left fun p hp => ?_
    have := (h.lv1 hp).1
    unfold mg
    rw [if_pos (by omega), Int.toNat_natCast]
  rw [e, hk] at hs
  refine mayB_of (by rw [h.len]; exact hl) (fun z hz => ?_) ?_ (by rw [hs])
  · obtain ⟨i, hi, e⟩ := mem_get_of hz
    have := h.bd (s := i) (by rw [← h.len]; exact hi)
    omega
  · have hc := h.sum (fun z => if decide (0 < z) then 1 else 0) (by decide)
    unfold npos
    rw [countP_sum, hc]
    obtain ⟨deep, hm, hl⟩ := h.mrg
    have h1 := hm.h1
    have e2 : ((T.lv 0).map fun p => if decide (0 < (p.2 : Int)) then 1 else 0) = (T.lv 0).map fun _ => 1 := by
      refine List.map_congr_left fun p hp => ?_
      have := (h.lv1 hp).1
      rw [if_pos (by simp; omega)]
    rw [e2]
    have e3 : ∀ l : List (Nat × Nat), (l.map fun _ => 1).sum = l.length := by intro l; induction l with
      | nil => rfl
      | cons x r ih => rw [List.map_cons, List.sum_cons, ih, List.length_cons]; omega
    rw [e3]
    have e4 : (T.lv 0).length = T.sy.length := by rw [← Tr.lv_sy T 0]; simp
    rw [e4]
    cases T with
    | leaf i => simp [Tr.h] at h1
    | node a b => have := Tr.sy_pos a; have := Tr.sy_pos b; simp [Tr.sy]; omega

/-- A more frequent symbol has no longer code. -/
theorem LOk.mono (h : LOk cs lens T) {s s' : Nat} (hs : s < cs.length) (hs' : s' < cs.length) (h0 : 0 < cs.getD s 0) (hlt : cs.getD s 0 < cs.getD s' 0) : lens.getD s' 0 ≤ lens.getD s 0 := by
  obtain ⟨j, e, hj, hg, _, _⟩ := h.at_ hs h0
  obtain ⟨j', e', hj', hg', _, _⟩ := h.at_ hs' (by omega)
  obtain ⟨deep, hm, hl⟩ := h.mrg
  have d1 := hl j hj
  have d2 := hl j' hj'
  rw [hg] at d1
  rw [hg'] at d2
  rw [Int.toNat_natCast] at d1 d2
  rw [d1, d2]
  have hle : j ≤ j' := by
    rcases Nat.lt_or_ge j' j with h | h
    · have := wts_asc cs j' j (by omega) (by rw [wts_len]; exact hj)
      rw [wts_get cs j' hj', wts_get cs j hj, hg, hg'] at this
      simp only [cnt, Int.toNat_natCast] at this
      omega
    · exact h
  exact hm.mono j j' hle (by rw [wts_len]; exact hj')

def isum (l : List Int) : Int := l.foldr (· + ·) 0
theorem isum_cons (x : Int) (l : List Int) : isum (x :: l) = x + isum l := rfl
theorem isum_app : ∀ a b : List Int, isum (a ++ b) = isum a + isum b
  | [], b => by simp [isum]
  | x :: a, b => by rw [List.cons_append, isum_cons, isum_cons, isum_app a b]; omega
theorem isum_perm {a b : List Int} (h : a.Perm b) : isum a = isum b := by
  induction h with
  | nil => rfl
  | cons x _ ih => rw [isum_cons, isum_cons, ih]
  | swap x y l => rw [isum_cons, isum_cons, isum_cons, isum_cons]; omega
  | trans _ _ h1 h2 => rw [h1, h2]
theorem tr_w (ws : List Int) : ∀ t : Tr, t.w ws = isum (t.sy.map fun j => ws.getD j 0)
  | .leaf i => by simp [Tr.w, Tr.sy, isum]
  | .node a b => by simp only [Tr.w, Tr.sy, List.map_append]; rw [isum_app, ← tr_w ws a, ← tr_w ws b]

theorem isum_filter (p : Int → Bool) : ∀ l : List Int, (∀ x ∈ l, p x = false → 0 ≤ x) → isum (l.filter p) ≤ isum l
  | [], _ => by simp [isum]
  | x :: l, h => by
    have ih := isum_filter p l fun y hy => h y (List.mem_cons_of_mem _ hy)
    cases hp : p x with
    | true => rw [List.filter_cons_of_pos hp, isum_cons, isum_cons]; omega
    | false => rw [List.filter_cons_of_neg (by rw [hp]; decide), isum_cons]; have := h x (List.mem_cons_self ..) hp; omega

theorem isum_wts (cs : List Int) (h : ∀ z ∈ cs, 0 ≤ z) : isum (wts cs) ≤ isum cs := by
  have e1 : isum (wts cs) = isum ((posB cs).map (cnt cs)) := isum_perm ((ordB_perm cs).map _)
  have e2 : (posB cs).map (cnt cs) = cs.filter fun z => decide (0 < z) := by
    unfold posB
    rw [List.map_map]
    conv => rhs; rw [list_range cs]
    rw [List.filter_map]
    rfl
  rw [e1, e2]
  exact isum_filter _ cs fun x hx _ => h x hx

/-- A deep tree is heavy. -/
theorem LOk.heavy (h : LOk cs lens T) (hc : ∀ z ∈ cs, 0 ≤ z) (h12 : 12 < T.h) : 610 ≤ isum cs := by
  obtain ⟨deep, hm, hl⟩ := h.mrg
  have h1 := Tr.ok_fib _ T hm.ok
  have h2 : fibo 13 ≤ fibo T.h := fibo_mono (by omega)
  have h3 : fibo 13 = 610 := by decide
  have h4 : T.w (wts cs) = isum (wts cs) := by
    rw [tr_w, isum_perm (hm.sy.map _), ← list_range]
  have := isum_wts cs hc
  omega
end
end Eng
end Go.Proofs.Ytighkjohpmlemaa
