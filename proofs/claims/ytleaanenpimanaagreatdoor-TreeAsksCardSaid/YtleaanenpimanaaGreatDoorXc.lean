/-
  Plain law: the reference's May of trees, sorting, numbering anew, parts.
-/
import Derived.Test.YtleaanenpimanaaGreatDoorXb
namespace Go.Proofs.YtleaanenpimanaaGreatDoor
namespace Eng

theorem findT_mem : ∀ {l : List En} {p : Str} {k : Int}, findT l p = some k → ∃ e ∈ l, e.path = p ∧ e.node = k
  | [], _, _, h => by cases h
  | e :: r, p, k, h => by
    rw [findT] at h
    split at h
    · rename_i hp; injection h with h; exact ⟨e, by simp, hp, h⟩
    · obtain ⟨e', h1, h2⟩ := findT_mem h; exact ⟨e', by simp [h1], h2⟩
theorem findT_none : ∀ {l : List En} {p : Str}, findT l p = none → ∀ e ∈ l, e.path ≠ p
  | [], _, _, e, he => by simp at he
  | e0 :: r, p, h, e, he => by
    rw [findT] at h
    split at h
    · cases h
    · rename_i hp
      rcases List.mem_cons.1 he with rfl | he
      · exact hp
      · exact findT_none h e he
theorem numOK_mem {n : Nat} : ∀ {l : List En} {u : Nat}, numOK n u l = true → ∀ e ∈ l, 0 ≤ e.node ∧ e.node < n
  | [], _, _, e, he => by simp at he
  | e0 :: r, u, h, e, he => by
    simp only [numOK, Bool.and_eq_true, decide_eq_true_eq] at h
    rcases List.mem_cons.1 he with rfl | he
    · exact ⟨h.1.1.1, h.1.2⟩
    · exact numOK_mem h.2 e he
theorem less_nil (a : Str) : lessP a [] = false := by
  unfold lessP
  rw [partsP_nil]
  cases partsP a <;> rfl
theorem pathsOK_may : ∀ {l : List En} {p : Option Str}, pathsOK p l = true → ∀ e ∈ l, mayP e.path = true
  | [], _, _, e, he => by simp at he
  | e0 :: r, p, h, e, he => by
    simp only [pathsOK, Bool.and_eq_true] at h
    rcases List.mem_cons.1 he with rfl | he
    · exact h.1.1
    · exact pathsOK_may h.2 e he
theorem pathsOK_ne : ∀ {l : List En} {p : Str}, pathsOK (some p) l = true → ∀ e ∈ l, e.path ≠ []
  | [], _, _, e, he => by simp at he
  | e0 :: r, p, h, e, he => by
    simp only [pathsOK, Bool.and_eq_true] at h
    rcases List.mem_cons.1 he with rfl | he
    · intro e'; rw [e', less_nil] at h; exact absurd h.1.2 (by decide)
    · exact pathsOK_ne h.2 e he

/-- The reference's look at an entry's parent. -/
def parR (t : Tre) (e : En) : Bool := match parP e.path with
  | none => true
  | some up => match findT t.es up with
    | some k => decide (0 ≤ k) && decide (k < t.ns.length) && decide (kindAt t.ns k = 1)
    | none => false
def refG (t : Tre) : Option Str → Nat → List En → Bool
  | _, _, [] => true
  | prev, used, e :: r => mayP e.path && (match prev with | none => true | some p => lessP p e.path) && decide (0 ≤ e.node) && decide (e.node ≤ used) && decide (e.node < t.ns.length) && parR t e && refG t (some e.path) (if e.node < used then used else used + 1) r
def nodeR (t : Tre) (i : Nat) : Bool := nodeOK (t.ns.getD i default) && decide (cntN i t.es ≠ 0) && (decide (kindAt t.ns i ≠ 1) || decide (cntN i t.es = 1))
def rmayT (t : Tre) : Bool := decide (1 ≤ t.es.length) && decide (t.es.length ≤ 100) && decide ((t.es.headD default).path = []) && refG t none 0 t.es && (List.range t.ns.length).all (nodeR t) && decide (kindAt t.ns ((t.es.headD default).node) = 1)

theorem refG_iff (t : Tre) : ∀ (l : List En) (p : Str) (u : Nat), refG t (some p) u l = true ↔ pathsOK (some p) l = true ∧ numOK t.ns.length u l = true ∧ l.all (parR t) = true
  | [], _, _ => by simp [refG, pathsOK, numOK]
  | e :: r, p, u => by
    simp only [refG, pathsOK, numOK, Bool.and_eq_true, decide_eq_true_eq, List.all_cons]
    rw [refG_iff t r e.path]
    constructor
    · rintro ⟨⟨⟨⟨⟨⟨h1, h2⟩, h3⟩, h4⟩, h5⟩, h6⟩, h7, h8, h9⟩
      exact ⟨⟨⟨h1, h2⟩, h7⟩, ⟨⟨⟨h3, h4⟩, h5⟩, h8⟩, h6, h9⟩
    · rintro ⟨⟨⟨h1, h2⟩, h7⟩, ⟨⟨⟨h3, h4⟩, h5⟩, h8⟩, h6, h9⟩
      exact ⟨⟨⟨⟨⟨⟨h1, h2⟩, h3⟩, h4⟩, h5⟩, h6⟩, h7, h8, h9⟩

theorem parR_eq {t : Tre} (hn : ∀ e ∈ t.es, 0 ≤ e.node ∧ e.node < t.ns.length) {e : En} (hm : mayP e.path = true) (h0 : e.path ≠ []) : parR t e = parOK t e := by
  unfold parR parOK parP
  rw [if_neg (fun h => by rw [partsP_ok hm h0] at h; exact cutU_ne _ h)]
  dsimp only
  cases hf : findT t.es (upP e.path) with
  | none => rfl
  | some k =>
    obtain ⟨e', he', _, hk⟩ := findT_mem hf
    have := hn e' he'
    rw [hk] at this
    simp [this.1, this.2]

/-- Both say the same of each tree. -/
theorem rmayT_eq (t : Tre) : rmayT t = mayT t := by
  obtain ⟨es, ns⟩ := t
  cases es with
  | nil => rfl
  | cons e r =>
    rw [Bool.eq_iff_iff]
    unfold rmayT mayT
    simp only [Bool.and_eq_true, decide_eq_true_eq, List.headD_cons, List.drop_succ_cons, List.drop_zero]
    rw [ordB_iff ns (e :: r) none 0 (Nat.zero_le _)]
    constructor
    · rintro ⟨⟨⟨⟨⟨h1, h2⟩, h3⟩, h4⟩, h5⟩, h6⟩
      simp only [refG, Bool.and_eq_true, decide_eq_true_eq] at h4
      rw [refG_iff] at h4
      obtain ⟨⟨⟨⟨⟨⟨a1, _⟩, a3⟩, a4⟩, a5⟩, a6⟩, a7, a8, a9⟩ := h4
      have h3 : e.path = [] := of_decide_eq_true h3
      have hp : pathsOK none (e :: r) = true := by simp only [pathsOK, a1, a7, decide_eq_true h3, Bool.and_self]
      have hn : numOK ns.length 0 (e :: r) = true := by simp only [numOK, Bool.and_eq_true, decide_eq_true_eq]; exact ⟨⟨⟨a3, a4⟩, a5⟩, a8⟩
      have hno : ∀ i, i < ns.length → nodeR ⟨e :: r, ns⟩ i = true := fun i hi => List.all_eq_true.1 h5 i (List.mem_range.2 hi)
      have hfin : finU 0 (e :: r) = ns.length := by
        have hle := finU_le (e :: r) 0 (Nat.zero_le _) hn
        rcases Nat.lt_or_ge (finU 0 (e :: r)) ns.length with hlt | hge
        · have := hno _ hlt
          simp only [nodeR, Bool.and_eq_true, decide_eq_true_eq] at this
          have h := (cnt_pos (e :: r) 0 (finU 0 (e :: r)) hn (Nat.zero_le _)).1 (by have := this.1.2; omega)
          omega
        · omega
      refine ⟨⟨⟨⟨h1, h2⟩, hp, hn, hfin, fun i _ hi => ?_, fun i hi hk => ⟨fun h => by omega, fun _ => ?_⟩⟩, h6⟩, ?_⟩
      · have := hno i hi
        simp only [nodeR, Bool.and_eq_true] at this
        exact this.1.1
      · have := hno i hi
        simp only [nodeR, Bool.and_eq_true, Bool.or_eq_true, decide_eq_true_eq] at this
        rcases this.2 with h | h
        · exact absurd hk h
        · exact h
      · rw [List.all_eq_true] at a9 ⊢
        intro x hx
        have hpe := pathsOK_ne a7 x hx
        rw [← parR_eq (t := ⟨e :: r, ns⟩) (numOK_mem hn) (pathsOK_may a7 x hx) hpe]
        exact a9 x hx
    · rintro ⟨⟨⟨⟨h1, h2⟩, hp, hn, hfin, hno, hdir⟩, h6⟩, h9⟩
      have hp' := hp
      simp only [pathsOK, Bool.and_eq_true, decide_eq_true_eq] at hp'
      have hn' := hn
      simp only [numOK, Bool.and_eq_true, decide_eq_true_eq] at hn'
      refine ⟨⟨⟨⟨⟨h1, h2⟩, decide_eq_true hp'.1.2⟩, ?_⟩, ?_⟩, h6⟩
      · simp only [refG, Bool.and_eq_true, decide_eq_true_eq]
        rw [refG_iff]
        refine ⟨⟨⟨⟨⟨⟨hp'.1.1, trivial⟩, hn'.1.1.1⟩, hn'.1.1.2⟩, hn'.1.2⟩, ?_⟩, hp'.2, hn'.2, ?_⟩
        · unfold parR parP
          rw [hp'.1.2]
          rfl
        · rw [List.all_eq_true] at h9 ⊢
          intro x hx
          rw [parR_eq (t := ⟨e :: r, ns⟩) (numOK_mem hn) (pathsOK_may hp'.2 x hx) (pathsOK_ne hp'.2 x hx)]
          exact h9 x hx
      · rw [List.all_eq_true]
        intro i hi
        have hi := List.mem_range.1 hi
        simp only [nodeR, Bool.and_eq_true, Bool.or_eq_true, decide_eq_true_eq]
        refine ⟨⟨hno i (Nat.zero_le _) hi, ?_⟩, ?_⟩
        · have := (cnt_pos (e :: r) 0 i hn (Nat.zero_le _)).2 (by omega)
          omega
        · by_cases hk : kindAt ns i = 1
          · exact .inr ((hdir i hi hk).2 (Nat.zero_le _))
          · exact .inl hk

/-! Sorting. -/
theorem lessL_neg (a b c : List Str) (h : lessL a c = true) : lessL a b = true ∨ lessL b c = true := by
  by_cases e : a = b
  · subst e; exact .inr h
  · rcases lessL_tri a b e with h' | h'
    · exact .inl h'
    · exact .inr (lessL_trans b a c h' h)
/-- y may stand behind x. -/
def leE (x y : En) : Prop := lessP y.path x.path = false
def ltE (x y : En) : Prop := lessP x.path y.path = true
theorem leE_trans {x y z : En} (h : leE x y) (h' : leE y z) : leE x z := by
  unfold leE lessP at *
  cases e : lessL (partsP z.path) (partsP x.path) with
  | false => rfl
  | true =>
    rcases lessL_neg _ (partsP y.path) _ e with g | g
    · rw [h'] at g; cases g
    · rw [h] at g; cases g
theorem ltE_le {x y : En} (h : ltE x y) : leE x y := lessL_asym h

/-- Sorted and strict: there is but one order. -/
theorem sort_one : ∀ (l l' : List En), l.Pairwise ltE → l'.Pairwise leE → l'.Perm l → l' = l
  | [], l', _, _, hp => hp.eq_nil
  | x :: l, [], _, _, hp => by have := hp.length_eq; simp at this
  | x :: l, y :: l', h, h', hp => by
    rw [List.pairwise_cons] at h h'
    have hxy : y = x := by
      rcases List.mem_cons.1 (hp.mem_iff.1 (List.mem_cons_self)) with e | hy
      · exact e
      · rcases List.mem_cons.1 (hp.mem_iff.2 (List.mem_cons_self)) with e | hx
        · exact e.symm
        · have h1 : ltE x y := h.1 y hy
          have h2 : leE y x := h'.1 x hx
          unfold ltE at h1; unfold leE at h2; rw [h1] at h2; cases h2
    subst hxy
    rw [sort_one l l' h.2 h'.2 (List.perm_cons y |>.1 hp)]

/-- Where the reference puts an entry. -/
def insK (e : En) (l : List En) : Nat → Nat
  | 0 => 0
  | k + 1 => if lessP e.path (l.getD k default).path then insK e l k else k + 1
def insE (e : En) (l : List En) : List En := l.take (insK e l l.length) ++ e :: l.drop (insK e l l.length)
def sortE (l : List En) : List En := l.foldl (fun a e => insE e a) []
theorem insK_le (e : En) (l : List En) : ∀ k, insK e l k ≤ k
  | 0 => Nat.le_refl _
  | k + 1 => by
    rw [insK]
    split
    · exact Nat.le_succ_of_le (insK_le e l k)
    · exact Nat.le_refl _
theorem insK_behind (e : En) (l : List En) : ∀ k j, insK e l k ≤ j → j < k → lessP e.path (l.getD j default).path = true
  | 0, j, _, h => by omega
  | k + 1, j, h1, h2 => by
    rw [insK] at h1
    split at h1
    · rename_i hl
      by_cases e' : j = k
      · subst e'; exact hl
      · exact insK_behind e l k j h1 (by omega)
    · omega
theorem insK_ahead (e : En) (l : List En) : ∀ k, 0 < insK e l k → lessP e.path (l.getD (insK e l k - 1) default).path = false
  | 0, h => by simp [insK] at h
  | k + 1, h => by
    rw [insK] at h ⊢
    split at h
    · rename_i hl; rw [if_pos hl]; exact insK_ahead e l k h
    · rename_i hl
      rw [if_neg hl, Nat.add_sub_cancel]
      simpa using hl
theorem insE_perm (e : En) (l : List En) : (insE e l).Perm (e :: l) := by
  unfold insE
  have := List.perm_middle (a := e) (l₁ := l.take (insK e l l.length)) (l₂ := l.drop (insK e l l.length))
  rwa [List.take_append_drop] at this
theorem insE_sorted {e : En} {l : List En} (h : l.Pairwise leE) : (insE e l).Pairwise leE := by
  unfold insE
  have hk := insK_le e l l.length
  have hb := insK_behind e l l.length
  have ha := insK_ahead e l l.length
  obtain ⟨k, hke⟩ : ∃ k, k = insK e l l.length := ⟨_, rfl⟩
  rw [← hke] at hk hb ha ⊢
  rw [List.pairwise_append, List.pairwise_cons]
  have hs := h
  rw [← List.take_append_drop k l, List.pairwise_append] at hs
  have h1 : ∀ x ∈ l.take k, leE x e := by
    intro x hx
    obtain ⟨j, hj, rfl⟩ := List.getElem_of_mem hx
    rw [List.length_take] at hj
    have hle : leE (l.getD (k - 1) default) e := ha (by omega)
    rw [List.getElem_take]
    by_cases e' : j = k - 1
    · rw [List.getD_eq_getElem?_getD, List.getElem?_eq_getElem (by omega)] at hle
      subst e'; exact hle
    · refine leE_trans ?_ hle
      rw [List.getD_eq_getElem?_getD, List.getElem?_eq_getElem (by omega)]
      exact List.pairwise_iff_getElem.1 h j (k - 1) (by omega) (by omega) (by omega)
  have h2 : ∀ x ∈ l.drop k, leE e x := by
    intro x hx
    obtain ⟨j, hj, rfl⟩ := List.getElem_of_mem hx
    rw [List.length_drop] at hj
    have := hb (k + j) (by omega) (by omega)
    rw [List.getD_eq_getElem?_getD, List.getElem?_eq_getElem (by omega)] at this
    rw [List.getElem_drop]
    exact ltE_le this
  refine ⟨hs.1, ⟨h2, hs.2.1⟩, fun x hx y hy => ?_⟩
  rcases List.mem_cons.1 hy with rfl | hy
  · exact h1 x hx
  · exact hs.2.2 x hx y hy
theorem sortE_go : ∀ (l a : List En), a.Pairwise leE → (l.foldl (fun a e => insE e a) a).Pairwise leE ∧ (l.foldl (fun a e => insE e a) a).Perm (l ++ a)
  | [], a, h => ⟨h, .refl _⟩
  | e :: l, a, h => by
    rw [List.foldl_cons]
    obtain ⟨h1, h2⟩ := sortE_go l (insE e a) (insE_sorted h)
    refine ⟨h1, h2.trans ?_⟩
    exact ((insE_perm e a).append_left l).trans List.perm_middle
theorem sortE_sorted (l : List En) : (sortE l).Pairwise leE := (sortE_go l [] List.Pairwise.nil).1
theorem sortE_perm (l : List En) : (sortE l).Perm l := by have := (sortE_go l [] List.Pairwise.nil).2; rwa [List.append_nil] at this

/-! Numbering anew. -/
def renG : List Int → List En → List En × List Int
  | seen, [] => ([], seen)
  | seen, e :: r => if e.node ∈ seen then (⟨e.path, (seen.idxOf e.node : Int)⟩ :: (renG seen r).1, (renG seen r).2)
    else (⟨e.path, (seen.length : Int)⟩ :: (renG (seen ++ [e.node]) r).1, (renG (seen ++ [e.node]) r).2)
def renT (ns : List Nd) (l : List En) : Tre := ⟨(renG [] l).1, (renG [] l).2.map fun k => ns.getD k.toNat default⟩
def inR (n : Nat) (e : En) : Bool := decide (0 ≤ e.node) && decide (e.node < n)
/-- The tree, sorted and numbered anew, if it may be. -/
def normT (t : Tre) : Option Tre := if t.es.all (inR t.ns.length) && mayT (renT t.ns (sortE t.es)) then some (renT t.ns (sortE t.es)) else none

theorem renG_paths : ∀ (l : List En) (s : List Int), (renG s l).1.map (·.path) = l.map (·.path)
  | [], _ => rfl
  | e :: r, s => by
    rw [renG]
    split
    · simp [renG_paths r s]
    · simp [renG_paths r (s ++ [e.node])]
theorem renG_len (l : List En) (s : List Int) : (renG s l).1.length = l.length := by
  have := congrArg List.length (renG_paths l s)
  simpa using this
theorem pathsOK_asc : ∀ (l : List En) (p : Str), pathsOK (some p) l = true → (∀ e ∈ l, lessP p e.path = true) ∧ l.Pairwise ltE
  | [], _, _ => ⟨fun e he => by simp at he, List.Pairwise.nil⟩
  | e :: r, p, h => by
    simp only [pathsOK, Bool.and_eq_true] at h
    obtain ⟨h1, h2⟩ := pathsOK_asc r e.path h.2
    refine ⟨fun x hx => ?_, List.pairwise_cons.2 ⟨h1, h2⟩⟩
    rcases List.mem_cons.1 hx with rfl | hx
    · exact h.1.2
    · exact lessL_trans _ _ _ h.1.2 (h1 x hx)
theorem mayT_asc {t : Tre} (h : mayT t = true) : t.es.Pairwise ltE := by
  obtain ⟨es, ns⟩ := t
  cases es with
  | nil => exact List.Pairwise.nil
  | cons e r =>
    unfold mayT at h
    simp only [Bool.and_eq_true, decide_eq_true_eq] at h
    have := ((ordB_iff ns (e :: r) none 0 (Nat.zero_le _)).1 h.1.1.2).1
    simp only [pathsOK, Bool.and_eq_true] at this
    have := pathsOK_asc r e.path this.2
    exact List.pairwise_cons.2 ⟨this.1, this.2⟩
theorem mayT_path {t : Tre} (h : mayT t = true) : ∀ e ∈ t.es, mayP e.path = true := by
  obtain ⟨es, ns⟩ := t
  unfold mayT at h
  simp only [Bool.and_eq_true, decide_eq_true_eq] at h
  exact pathsOK_may ((ordB_iff ns es none 0 (Nat.zero_le _)).1 h.1.1.2).1
theorem ltE_map {l l' : List En} (h : l.map (·.path) = l'.map (·.path)) (hl : l.Pairwise ltE) : l'.Pairwise ltE := by
  have h1 : (l.map (·.path)).Pairwise (fun a b => lessP a b = true) := List.pairwise_map.2 hl
  rw [h] at h1
  exact (List.pairwise_map (f := fun x : En => x.path)).1 h1
/-- Whatever sorts, the outcome is the same. -/
theorem norm_any {t : Tre} {s : List En} (hp : s.Perm t.es) (hs : s.Pairwise leE) : (if s.all (inR t.ns.length) && mayT (renT t.ns s) then some (renT t.ns s) else none) = normT t := by
  have hall : s.all (inR t.ns.length) = t.es.all (inR t.ns.length) := by
    rw [Bool.eq_iff_iff, List.all_eq_true, List.all_eq_true]
    exact ⟨fun h x hx => h x (hp.mem_iff.2 hx), fun h x hx => h x (hp.mem_iff.1 hx)⟩
  unfold normT
  rw [hall]
  by_cases h1 : mayT (renT t.ns s) = true
  · have := ltE_map (renG_paths s []) (mayT_asc h1)
    rw [sort_one s (sortE t.es) this (sortE_sorted _) ((sortE_perm _).trans hp.symm)]
  · by_cases h2 : mayT (renT t.ns (sortE t.es)) = true
    · have := ltE_map (renG_paths (sortE t.es) []) (mayT_asc h2)
      rw [sort_one (sortE t.es) s this hs (hp.trans (sortE_perm _).symm)]
    · simp [h1, h2]
theorem norm_bad {t : Tre} (h : 100 < t.es.length) : normT t = none := by
  unfold normT
  have : mayT (renT t.ns (sortE t.es)) = false := by
    unfold mayT renT
    simp only [renG_len, (sortE_perm t.es).length_eq, show ¬ t.es.length ≤ 100 by omega, decide_false, Bool.and_false, Bool.false_and]
  rw [this]; simp
theorem norm_path {t : Tre} {e : En} (he : e ∈ t.es) (h : mayP e.path = false) : normT t = none := by
  unfold normT
  cases hm : mayT (renT t.ns (sortE t.es)) with
  | false => simp
  | true =>
    have hx : e.path ∈ (renT t.ns (sortE t.es)).es.map (·.path) := by
      show e.path ∈ (renG [] (sortE t.es)).1.map (·.path)
      rw [renG_paths]
      exact List.mem_map.2 ⟨e, (sortE_perm _).mem_iff.2 he, rfl⟩
    obtain ⟨e', he', h'⟩ := List.mem_map.1 hx
    have := mayT_path hm e' he'
    rw [h', h] at this; cases this
theorem norm_in {t : Tre} {e : En} (he : e ∈ t.es) (h : inR t.ns.length e = false) : normT t = none := by
  unfold normT
  have : t.es.all (inR t.ns.length) = false := by
    rw [List.all_eq_false]; exact ⟨e, he, by rw [h]; decide⟩
  rw [this]; rfl
theorem norm_may {t u : Tre} (h : normT t = some u) : mayT u = true := by
  unfold normT at h
  split at h
  · rename_i hh; injection h with h; rw [Bool.and_eq_true] at hh; rw [← h]; exact hh.2
  · cases h

def sameT (a b : Tre) : Bool := match normT a, normT b with
  | some x, some y => decide (x = y)
  | _, _ => false
def wantP (tops : List Str) (p : Str) : Bool := decide (p = []) || tops.any fun q => underP p q || underP q p
/-- A part: the tree, or the error. -/
def partT (t : Tre) (tops : List Str) : Option Tre × Int :=
  if mayT t then
    if tops.all fun q => (findT t.es q).isSome then
      match normT ⟨t.es.filter (fun e => wantP tops e.path), t.ns⟩ with
      | some u => (some u, 0)
      | none => (none, 1)
    else (none, 7)
  else (none, 1)
def kidsT (t : Tre) (p : Str) : List Str := (t.es.filter fun e => decide (parP e.path = some p)).map fun e => lastP e.path
def classT (t : Tre) (p : Str) : List Str := match findT t.es p with
  | some k => (t.es.filter fun e => decide (e.node = k)).map (·.path)
  | none => []
def totalT : List Nd → Nat
  | [] => 0
  | n :: r => bytesP n.data + totalT r
end Eng
end Go.Proofs.YtleaanenpimanaaGreatDoor
