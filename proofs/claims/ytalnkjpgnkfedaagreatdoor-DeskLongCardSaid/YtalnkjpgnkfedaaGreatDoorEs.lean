/-
  What the executor's small parts come to: numbers, lists, tables, slots.
-/
import Derived.Test.YtalnkjpgnkfedaaGreatDoorEa
namespace Go.Proofs.YtalnkjpgnkfedaaGreatDoor
open Go.RowKit
namespace Eng
namespace Rn
theorem fN_eq (n : Nat) (k : Nat → Rs) : fN n k = k n := by
  cases n <;> rfl
theorem fP_eq {α : Type} (l : List α) (k : List α → Rs) : fP l k = k l := by
  induction l generalizing k with
  | nil => rfl
  | cons x r ih => exact ih fun r => k (x :: r)
theorem cN_eq {γ : Type} (n : Nat) (k : Nat → γ) : cN n k = k n := by
  cases n <;> rfl
theorem cU_eq {γ : Type} (l : List Nat) (k : List Nat → γ) : cU l k = k l := by
  induction l generalizing k with
  | nil => rfl
  | cons x r ih =>
    show cN x (fun x => cU r fun r => k (x :: r)) = _
    rw [cN_eq]
    exact ih _
theorem cV_eq {γ : Type} (x : SV) (k : SV → γ) : cV x k = k x := by
  cases x with
  | n i a => exact cN_eq a fun a => k (.n i a)
  | m i a => exact cN_eq a fun a => k (.m i a)
  | s l => exact cU_eq l fun l => k (.s l)
  | _ => rfl
theorem cVs_eq {γ : Type} (l : List SV) (k : List SV → γ) : cVs l k = k l := by
  induction l generalizing k with
  | nil => rfl
  | cons x r ih =>
    show cV x (fun x => cVs r fun r => k (x :: r)) = _
    rw [cV_eq]
    exact ih _
theorem okK_inv {b : Bool} {x r : Rs} (h : okK b x = r) (hr : r ≠ .no) : b = true ∧ x = r := by
  cases b with
  | true => exact ⟨rfl, h⟩
  | false => exact absurd h.symm hr
theorem ifK_eq (b : Bool) (x y : Rs) : ifK b x y = if b = true then x else y := by
  cases b <;> rfl
/-- What a table holds. -/
def tget {α : Type} : Nat → Nat → Tr α → Option α
  | 0, 0, .leaf v => some v
  | 0, _, _ => none
  | _ + 1, _, .nil => none
  | _ + 1, _, .leaf _ => none
  | d + 1, k, .node l r => if Nat.land k 1 = 0 then tget d (Nat.shiftRight k 1) l else tget d (Nat.shiftRight k 1) r
theorem getK_inv {α : Type} {c : α → Rs} {res : Rs} (hr : res ≠ .no) : ∀ {d k : Nat} {t : Tr α}, getK d k t c = res → ∃ x, tget d k t = some x ∧ c x = res
  | 0, 0, .nil, h => absurd h.symm hr
  | 0, 0, .leaf v, h => ⟨v, rfl, h⟩
  | 0, 0, .node _ _, h => absurd h.symm hr
  | 0, _ + 1, _, h => absurd h.symm hr
  | _ + 1, _, .nil, h => absurd h.symm hr
  | _ + 1, _, .leaf _, h => absurd h.symm hr
  | d + 1, k, .node l r, h => by
    have h' : Nat.rec (motive := fun _ => Rs) (getK d (Nat.shiftRight k 1) l c) (fun _ _ => getK d (Nat.shiftRight k 1) r c) (Nat.land k 1) = res := h
    unfold tget
    cases hk : Nat.land k 1 with
    | zero =>
      rw [hk] at h'
      rw [if_pos rfl]
      exact getK_inv hr (d := d) h'
    | succ n =>
      rw [hk] at h'
      rw [if_neg (by omega)]
      exact getK_inv hr (d := d) h'
theorem key_ne {k k' : Nat} (hn : k' ≠ k) (e : Nat.land k' 1 = Nat.land k 1) : Nat.shiftRight k' 1 ≠ Nat.shiftRight k 1 := by
  intro h
  have e1 : k' % 2 = k % 2 := by have := e; simpa [Nat.and_one_is_mod] using this
  have h1 : k' / 2 = k / 2 := by have := h; simpa [Nat.shiftRight_eq_div_pow] using this
  omega
/-- t' is t but at k, where it holds x. -/
def Put {α : Type} (d k : Nat) (x : α) (t t' : Tr α) : Prop := tget d k t' = some x ∧ ∀ k', k' ≠ k → tget d k' t' = tget d k' t
theorem updK_inv {α : Type} {x : α} {res : Rs} (hr : res ≠ .no) : ∀ {d k : Nat} {t : Tr α} {c : Tr α → Rs}, updK d k x t c = res → ∃ t', Put d k x t t' ∧ (tget d k t).isSome = true ∧ c t' = res
  | 0, 0, .nil, _, h => absurd h.symm hr
  | 0, 0, .leaf v, _, h => ⟨.leaf x, ⟨rfl, fun k' hk => by
    cases k' with
    | zero => exact absurd rfl hk
    | succ n => rfl⟩, rfl, h⟩
  | 0, 0, .node _ _, _, h => absurd h.symm hr
  | 0, _ + 1, _, _, h => absurd h.symm hr
  | _ + 1, _, .nil, _, h => absurd h.symm hr
  | _ + 1, _, .leaf _, _, h => absurd h.symm hr
  | d + 1, k, .node l r, c, h => by
    have h' : Nat.rec (motive := fun _ => Rs) (updK d (Nat.shiftRight k 1) x l fun l => c (.node l r)) (fun _ _ => updK d (Nat.shiftRight k 1) x r fun r => c (.node l r)) (Nat.land k 1) = res := h
    have hb : Nat.land k 1 = 0 ∨ Nat.land k 1 = 1 := by
      have : Nat.land k 1 = k % 2 := Nat.and_one_is_mod k
      omega
    rcases hb with hk | hk
    · rw [hk] at h'
      obtain ⟨t', ⟨h1, h2⟩, h3, h4⟩ := updK_inv hr (d := d) h'
      refine ⟨.node t' r, ⟨by simp only [tget, hk, if_true]; exact h1, fun k' hn => ?_⟩, by simp only [tget, hk, if_true]; exact h3, h4⟩
      simp only [tget]
      split
      · rename_i e; exact h2 _ (key_ne hn (e.trans hk.symm))
      · rfl
    · rw [hk] at h'
      obtain ⟨t', ⟨h1, h2⟩, h3, h4⟩ := updK_inv hr (d := d) h'
      refine ⟨.node l t', ⟨by simp only [tget, hk, if_neg (by decide : ¬ (1 : Nat) = 0)]; exact h1, fun k' hn => ?_⟩, by simp only [tget, hk, if_neg (by decide : ¬ (1 : Nat) = 0)]; exact h3, h4⟩
      simp only [tget]
      split
      · rfl
      · rename_i e
        have e' : Nat.land k' 1 = 1 := by
          have : Nat.land k' 1 = k' % 2 := Nat.and_one_is_mod k'
          omega
        exact h2 _ (key_ne hn (e'.trans hk.symm))
theorem setK_inv {α : Type} {x : α} {res : Rs} (hr : res ≠ .no) : ∀ {d k : Nat} {t : Tr α} {c : Tr α → Rs}, setK d k x t c = res → ∃ t', Put d k x t t' ∧ c t' = res
  | 0, 0, t, c, h => ⟨.leaf x, ⟨rfl, fun k' hk => by
    cases k' with
    | zero => exact absurd rfl hk
    | succ n => cases t <;> rfl⟩, h⟩
  | 0, _ + 1, _, _, h => absurd h.symm hr
  | _ + 1, _, .leaf _, _, h => absurd h.symm hr
  | d + 1, k, .nil, c, h => by
    have h' : Nat.rec (motive := fun _ => Rs) (setK d (Nat.shiftRight k 1) x .nil fun l => c (.node l .nil)) (fun _ _ => setK d (Nat.shiftRight k 1) x .nil fun r => c (.node .nil r)) (Nat.land k 1) = res := h
    have hb : Nat.land k 1 = 0 ∨ Nat.land k 1 = 1 := by
      have : Nat.land k 1 = k % 2 := Nat.and_one_is_mod k
      omega
    have hnil : ∀ d k', tget d k' (Tr.nil : Tr α) = none := fun d k' => by
      cases d <;> cases k' <;> rfl
    rcases hb with hk | hk
    · rw [hk] at h'
      obtain ⟨t', ⟨h1, h2⟩, h4⟩ := setK_inv hr (d := d) h'
      refine ⟨.node t' .nil, ⟨by simp only [tget, hk, if_true]; exact h1, fun k' hn => ?_⟩, h4⟩
      simp only [tget]
      split
      · rename_i e; rw [h2 _ (key_ne hn (e.trans hk.symm)), hnil]
      · rw [hnil]
    · rw [hk] at h'
      obtain ⟨t', ⟨h1, h2⟩, h4⟩ := setK_inv hr (d := d) h'
      refine ⟨.node .nil t', ⟨by simp only [tget, hk, if_neg (by decide : ¬ (1 : Nat) = 0)]; exact h1, fun k' hn => ?_⟩, h4⟩
      simp only [tget]
      split
      · rw [hnil]
      · rename_i e
        have e' : Nat.land k' 1 = 1 := by
          have : Nat.land k' 1 = k' % 2 := Nat.and_one_is_mod k'
          omega
        rw [h2 _ (key_ne hn (e'.trans hk.symm)), hnil]
  | d + 1, k, .node l r, c, h => by
    have h' : Nat.rec (motive := fun _ => Rs) (setK d (Nat.shiftRight k 1) x l fun l => c (.node l r)) (fun _ _ => setK d (Nat.shiftRight k 1) x r fun r => c (.node l r)) (Nat.land k 1) = res := h
    have hb : Nat.land k 1 = 0 ∨ Nat.land k 1 = 1 := by
      have : Nat.land k 1 = k % 2 := Nat.and_one_is_mod k
      omega
    rcases hb with hk | hk
    · rw [hk] at h'
      obtain ⟨t', ⟨h1, h2⟩, h4⟩ := setK_inv hr (d := d) h'
      refine ⟨.node t' r, ⟨by simp only [tget, hk, if_true]; exact h1, fun k' hn => ?_⟩, h4⟩
      simp only [tget]
      split
      · rename_i e; exact h2 _ (key_ne hn (e.trans hk.symm))
      · rfl
    · rw [hk] at h'
      obtain ⟨t', ⟨h1, h2⟩, h4⟩ := setK_inv hr (d := d) h'
      refine ⟨.node l t', ⟨by simp only [tget, hk, if_neg (by decide : ¬ (1 : Nat) = 0)]; exact h1, fun k' hn => ?_⟩, h4⟩
      simp only [tget]
      split
      · rfl
      · rename_i e
        have e' : Nat.land k' 1 = 1 := by
          have : Nat.land k' 1 = k' % 2 := Nat.and_one_is_mod k'
          omega
        exact h2 _ (key_ne hn (e'.trans hk.symm))
section
variable {res : Rs} (hr : res ≠ .no)
include hr
theorem rdT_inv {d : Nat} {m : Tr SV} : ∀ {n o : Nat} {c : List SV → Rs}, rdT d m o n c = res → ∃ l, l.length = n ∧ (∀ i, i < n → tget d (o + i) m = l[i]?) ∧ c l = res
  | 0, _, _, h => ⟨[], rfl, fun i hi => absurd hi (Nat.not_lt_zero i), h⟩
  | n + 1, o, c, h => by
    have h' : getK d o m (fun x => fN (Nat.add o 1) fun o => rdT d m o n fun l => c (x :: l)) = res := h
    obtain ⟨x, hx, h'⟩ := getK_inv hr h'
    rw [fN_eq] at h'
    obtain ⟨l, hl, hg, h'⟩ := rdT_inv h'
    refine ⟨x :: l, by simp [hl], fun i hi => ?_, h'⟩
    cases i with
    | zero => simpa using hx
    | succ i =>
      have := hg i (by omega)
      have e : o + (i + 1) = Nat.add o 1 + i := by
        show o + (i + 1) = o + 1 + i
        omega
      rw [e, this]
      rfl
/-- m' is m but from o on, where it holds l. -/
def PutL (d o : Nat) (l : List SV) (m m' : Tr SV) : Prop := ∀ k, tget d k m' = if o ≤ k ∧ k < o + l.length then l[k - o]? else tget d k m
omit hr in
theorem PutL.cons {d o : Nat} {x : SV} {l : List SV} {m m' m'' : Tr SV} (h1 : Put d o x m m') (h2 : PutL d (o + 1) l m' m'') : PutL d o (x :: l) m m'' := fun k => by
  rw [h2 k]
  by_cases hk : k = o
  · subst hk
    rw [if_neg (by omega), if_pos (by simp), h1.1]
    simp
  · rw [h1.2 k hk]
    by_cases h : o + 1 ≤ k ∧ k < o + 1 + l.length
    · rw [if_pos h, if_pos (by simp; omega)]
      have e : k - o = k - (o + 1) + 1 := by omega
      rw [e]
      rfl
    · rw [if_neg h, if_neg (by simp; omega)]
theorem wrT_inv {d : Nat} : ∀ {l : List SV} {o : Nat} {m : Tr SV} {c : Tr SV → Rs}, wrT d o l m c = res → ∃ m', PutL d o l m m' ∧ (∀ i, i < l.length → (tget d (o + i) m).isSome = true) ∧ c m' = res
  | [], o, m, c, h => ⟨m, fun k => by rw [if_neg (by simp)], fun i hi => absurd hi (Nat.not_lt_zero i), h⟩
  | x :: l, o, m, c, h => by
    have h' : updK d o x m (fun m => fN (Nat.add o 1) fun o => wrT d o l m c) = res := h
    obtain ⟨m', h1, h2, h'⟩ := updK_inv hr h'
    rw [fN_eq] at h'
    obtain ⟨m'', h3, h4, h'⟩ := wrT_inv h'
    refine ⟨m'', PutL.cons h1 h3, fun i hi => ?_, h'⟩
    cases i with
    | zero => exact h2
    | succ i =>
      have := h4 i (by simpa using hi)
      have e : Nat.add o 1 + i = o + (i + 1) := by
        show o + 1 + i = o + (i + 1)
        omega
      rw [e, h1.2 _ (by omega)] at this
      exact this
theorem fillT_inv {d : Nat} : ∀ {l : List SV} {o : Nat} {m : Tr SV} {c : Tr SV → Rs}, fillT d o l m c = res → ∃ m', PutL d o l m m' ∧ c m' = res
  | [], o, m, c, h => ⟨m, fun k => by rw [if_neg (by simp)], h⟩
  | x :: l, o, m, c, h => by
    have h' : setK d o x m (fun m => fN (Nat.add o 1) fun o => fillT d o l m c) = res := h
    obtain ⟨m', h1, h'⟩ := setK_inv hr h'
    rw [fN_eq] at h'
    obtain ⟨m'', h3, h'⟩ := fillT_inv h'
    exact ⟨m'', PutL.cons h1 h3, h'⟩
end
/-- The block of a number. -/
noncomputable def oget (σ : Mem) (id : Nat) : Option Ob := tget dI id σ.h
/-- The cell o of a block. -/
noncomputable def cget (σ : Mem) (id o : Nat) : Option SV := match oget σ id with
  | some ob => tget ob.d o ob.m
  | none => none
theorem tget_nil {α : Type} (d k : Nat) : tget d k (Tr.nil : Tr α) = none := by
  cases d <;> cases k <;> rfl
section
variable {res : Rs} (hr : res ≠ .no)
include hr
theorem obK_inv {σ : Mem} {id : Nat} {c : Ob → Rs} (h : obK σ id c = res) : ∃ ob, oget σ id = some ob ∧ c ob = res := getK_inv hr h
theorem rdK_inv {σ : Mem} {id o n : Nat} {c : List SV → Rs} (h : rdK σ id o n c = res) : ∃ ob l, oget σ id = some ob ∧ l.length = n ∧ (∀ i, i < n → cget σ id (o + i) = l[i]?) ∧ c l = res := by
  obtain ⟨ob, h1, h⟩ := obK_inv hr h
  obtain ⟨l, h2, h3, h⟩ := rdT_inv hr h
  exact ⟨ob, l, h1, h2, fun i hi => by simp only [cget, h1]; exact h3 i hi, h⟩
theorem wrK_inv {σ : Mem} {id o : Nat} {l : List SV} {c : Mem → Rs} (h : wrK σ id o l c = res) : ∃ ob m' σ', oget σ id = some ob ∧ PutL ob.d o l ob.m m' ∧ (∀ i, i < l.length → (tget ob.d (o + i) ob.m).isSome = true) ∧ (σ'.n = σ.n ∧ σ'.mp = σ.mp) ∧ oget σ' id = some ⟨ob.e, ob.d, ob.n, m'⟩ ∧ (∀ k, k ≠ id → oget σ' k = oget σ k) ∧ c σ' = res := by
  obtain ⟨ob, h1, h⟩ := obK_inv hr h
  obtain ⟨m', h2, h3, h⟩ := wrT_inv hr h
  obtain ⟨t', h4, _, h⟩ := updK_inv hr h
  exact ⟨ob, m', ⟨σ.n, t', σ.mp⟩, h1, h2, h3, ⟨rfl, rfl⟩, h4.1, h4.2, h⟩
theorem addK_inv {σ : Mem} {ob : Ob} {c : Nat → Mem → Rs} (h : addK σ ob c = res) : ∃ σ', (σ'.n = σ.n + 1 ∧ σ'.mp = σ.mp) ∧ oget σ' σ.n = some ob ∧ (∀ k, k ≠ σ.n → oget σ' k = oget σ k) ∧ c σ.n σ' = res := by
  obtain ⟨_, h⟩ := okK_inv h hr
  obtain ⟨t', h2, h⟩ := setK_inv hr h
  rw [fN_eq] at h
  exact ⟨⟨σ.n + 1, t', σ.mp⟩, ⟨rfl, rfl⟩, h2.1, h2.2, h⟩
theorem newK_inv {σ : Mem} {e : TypeId} {l : List SV} {c : Nat → Mem → Rs} (h : newK σ e l c = res) : ∃ ob σ', (σ'.n = σ.n + 1 ∧ σ'.mp = σ.mp) ∧ ob.e = e ∧ ob.n = l.length ∧ (∀ o, tget ob.d o ob.m = l[o]?) ∧ oget σ' σ.n = some ob ∧ (∀ k, k ≠ σ.n → oget σ' k = oget σ k) ∧ c σ.n σ' = res := by
  unfold newK at h
  rw [fN_eq, fN_eq] at h
  obtain ⟨m, h1, h⟩ := fillT_inv hr h
  obtain ⟨σ', h2, h3, h4, h⟩ := addK_inv hr h
  refine ⟨_, σ', h2, rfl, rfl, fun o => ?_, h3, h4, h⟩
  show tget _ o m = _
  rw [h1 o, tget_nil]
  split
  · simp
  · rename_i hn
    exact (List.getElem?_eq_none (by omega)).symm
theorem killK_inv {σ : Mem} {id : Nat} {c : Mem → Rs} (h : killK σ id c = res) : ∃ σ', (σ'.n = σ.n ∧ σ'.mp = σ.mp) ∧ oget σ' id = some ⟨0, 0, 0, .nil⟩ ∧ (∀ k, k ≠ id → oget σ' k = oget σ k) ∧ c σ' = res := by
  obtain ⟨t', h1, _, h⟩ := updK_inv hr h
  exact ⟨⟨σ.n, t', σ.mp⟩, ⟨rfl, rfl⟩, h1.1, h1.2, h⟩
end
/-- What a slot holds. -/
def alook (t : Nat) : AEnv → Option AV
  | [] => none
  | x :: r => if x.1 = t then some x.2 else alook t r
theorem beq_cases (a b : Nat) : (a = b ∧ Nat.beq a b = true) ∨ (a ≠ b ∧ Nat.beq a b = false) := by
  rcases Nat.decEq a b with h | h
  · exact .inr ⟨h, by cases hb : Nat.beq a b with
      | false => rfl
      | true => exact absurd (Nat.eq_of_beq_eq_true hb) h⟩
  · exact .inl ⟨h, by rw [h]; exact Nat.beq_refl b⟩
theorem findK_inv {res : Rs} (hr : res ≠ .no) {t : Nat} {k : AV → Rs} : ∀ {l : AEnv}, findK t l k = res → ∃ a, alook t l = some a ∧ k a = res
  | [], h => absurd h.symm hr
  | x :: r, h => by
    have h' : Bool.rec (motive := fun _ => Rs) (findK t r k) (k x.2) (Nat.beq x.1 t) = res := h
    rcases beq_cases x.1 t with ⟨e, hb⟩ | ⟨e, hb⟩
    · rw [hb] at h'
      exact ⟨x.2, by simp [alook, e], h'⟩
    · rw [hb] at h'
      obtain ⟨a, h1, h2⟩ := findK_inv hr (l := r) h'
      exact ⟨a, by simp [alook, e, h1], h2⟩
theorem repK_inv {t : Nat} {v : AV} : ∀ {l : AEnv} {c : AEnv → Rs}, ∃ l', repK t v l c = c l' ∧ ∀ s, alook s l' = if s = t then some v else alook s l
  | [], c => ⟨[(t, v)], rfl, fun s => by
    simp only [alook]
    by_cases h : s = t
    · rw [if_pos h, if_pos h.symm]
    · rw [if_neg h, if_neg fun e => h e.symm]⟩
  | x :: r, c => by
    have h' : repK t v (x :: r) c = Bool.rec (motive := fun _ => Rs) (repK t v r fun r => c (x :: r)) (c ((t, v) :: r)) (Nat.beq x.1 t) := rfl
    rcases beq_cases x.1 t with ⟨e, hb⟩ | ⟨e, hb⟩
    · rw [hb] at h'
      refine ⟨(t, v) :: r, h', fun s => ?_⟩
      simp only [alook]
      by_cases h : s = t
      · rw [if_pos h, if_pos h.symm]
      · rw [if_neg h, if_neg fun e => h e.symm, if_neg fun e' => h (e'.symm.trans e)]
    · rw [hb] at h'
      obtain ⟨l', h1, h2⟩ := repK_inv (t := t) (v := v) (l := r) (c := fun r => c (x :: r))
      refine ⟨x :: l', h'.trans h1, fun s => ?_⟩
      simp only [alook, h2 s]
      by_cases hs : x.1 = s
      · rw [if_pos hs, if_pos hs, if_neg fun e' => e (hs.trans e')]
      · rw [if_neg hs, if_neg hs]
end Rn
end Eng
end Go.Proofs.YtalnkjpgnkfedaaGreatDoor
