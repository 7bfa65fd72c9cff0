/-
  Plain law: names and paths of bytes.
-/
import Derived.Test.YtalnkjpgnkfedaaGreatDoorEngU
namespace Go.Proofs.YtalnkjpgnkfedaaGreatDoor
namespace Eng

/-- What stands ahead of the first slash, what behind it, is there one? -/
def cut1 : Str → Str × Str × Bool
  | [] => ([], [], false)
  | c :: r => if c = 47 then ([], r, true) else (c :: (cut1 r).1, (cut1 r).2.1, (cut1 r).2.2)
/-- All parts between slashes. -/
def cutU : Str → List Str
  | [] => [[]]
  | c :: r => if c = 47 then [] :: cutU r else match cutU r with
    | h :: t => (c :: h) :: t
    | [] => [[c]]

theorem cut1_len : ∀ s : Str, (cut1 s).2.2 = true → (cut1 s).1.length + 1 + (cut1 s).2.1.length = s.length
  | [], h => by cases h
  | c :: r, h => by
    by_cases hc : c = 47
    · simp [cut1, hc]; omega
    · simp only [cut1, if_neg hc] at h ⊢
      have := cut1_len r h
      simp only [List.length_cons]; omega
theorem cut1_no : ∀ s : Str, (cut1 s).2.2 = false → (cut1 s).1 = s ∧ (cut1 s).2.1 = []
  | [], _ => ⟨rfl, rfl⟩
  | c :: r, h => by
    by_cases hc : c = 47
    · simp [cut1, hc] at h
    · simp only [cut1, if_neg hc] at h ⊢
      obtain ⟨h1, h2⟩ := cut1_no r h
      rw [h1]; exact ⟨rfl, h2⟩
theorem cut1_app : ∀ s : Str, (cut1 s).2.2 = true → s = (cut1 s).1 ++ 47 :: (cut1 s).2.1
  | [], h => by cases h
  | c :: r, h => by
    by_cases hc : c = 47
    · simp [cut1, hc]
    · simp only [cut1, if_neg hc] at h ⊢
      have := cut1_app r h
      rw [List.cons_append, ← this]
theorem cut1_ns : ∀ s : Str, (47 : UInt8) ∉ (cut1 s).1
  | [] => by simp [cut1]
  | c :: r => by
    by_cases hc : c = 47
    · simp [cut1, hc]
    · simp only [cut1, if_neg hc, List.mem_cons, not_or]
      exact ⟨fun e => hc e.symm, cut1_ns r⟩
theorem cutU_ne : ∀ s : Str, cutU s ≠ []
  | [] => by simp [cutU]
  | c :: r => by
    by_cases hc : c = 47
    · simp [cutU, hc]
    · rw [cutU, if_neg hc]; split <;> simp
/-- Part by part. -/
theorem cutU_cut : ∀ s : Str, cutU s = (cut1 s).1 :: (if (cut1 s).2.2 then cutU (cut1 s).2.1 else [])
  | [] => rfl
  | c :: r => by
    by_cases hc : c = 47
    · simp [cutU, cut1, hc]
    · rw [cutU, if_neg hc, cutU_cut r]
      simp only [cut1, if_neg hc]
theorem cutU_ns : ∀ (s x : Str), x ∈ cutU s → (47 : UInt8) ∉ x
  | [], x, h => by simp [cutU] at h; subst h; simp
  | c :: r, x, h => by
    by_cases hc : c = 47
    · rw [cutU, if_pos hc] at h
      rcases List.mem_cons.1 h with rfl | h
      · simp
      · exact cutU_ns r x h
    · rw [cutU, if_neg hc] at h
      split at h
      · rename_i h0 t e
        rcases List.mem_cons.1 h with rfl | h
        · rw [List.mem_cons, not_or]; exact ⟨fun e => hc e.symm, cutU_ns r _ (by rw [e]; simp)⟩
        · exact cutU_ns r x (by rw [e]; simp [h])
      · rename_i e; exact absurd e (cutU_ne r)

/-- Parts, joined with slashes. -/
def joinU : List Str → Str
  | [] => []
  | [x] => x
  | x :: y :: r => x ++ 47 :: joinU (y :: r)
theorem joinU_cons (x : Str) {l : List Str} (h : l ≠ []) : joinU (x :: l) = x ++ 47 :: joinU l := by
  cases l with
  | nil => exact absurd rfl h
  | cons y r => rfl
theorem join_cut : ∀ s : Str, joinU (cutU s) = s
  | [] => rfl
  | c :: r => by
    have ih := join_cut r
    by_cases hc : c = 47
    · rw [cutU, if_pos hc, joinU_cons _ (cutU_ne r), ih, hc]; rfl
    · rw [cutU, if_neg hc]
      split
      · rename_i h0 t e
        rw [e] at ih
        cases t with
        | nil => simp only [joinU] at ih ⊢; rw [ih]
        | cons y t => simp only [joinU] at ih ⊢; rw [← ih]; rfl
      · rename_i e; exact absurd e (cutU_ne r)
theorem cut_part : ∀ (x r : Str), (47 : UInt8) ∉ x → cutU (x ++ 47 :: r) = x :: cutU r
  | [], r, _ => by rw [List.nil_append, cutU, if_pos rfl]
  | c :: x, r, h => by
    rw [List.mem_cons, not_or] at h
    rw [List.cons_append, cutU, if_neg (fun e => h.1 e.symm), cut_part x r h.2]
theorem cut_one : ∀ (x : Str), (47 : UInt8) ∉ x → cutU x = [x]
  | [], _ => rfl
  | c :: x, h => by
    rw [List.mem_cons, not_or] at h
    rw [cutU, if_neg (fun e => h.1 e.symm), cut_one x h.2]
theorem cut_join : ∀ l : List Str, l ≠ [] → (∀ x ∈ l, (47 : UInt8) ∉ x) → cutU (joinU l) = l
  | [], h, _ => absurd rfl h
  | [x], _, h => cut_one x (h x (by simp))
  | x :: y :: r, _, h => by
    rw [joinU, cut_part x _ (h x (by simp)), cut_join (y :: r) (by simp) fun z hz => h z (by simp [hz])]

/-- A name. -/
def nameU (s : Str) : Bool := decide (1 ≤ s.length) && decide (s.length ≤ 20) && decide (s ≠ [46]) && decide (s ≠ [46, 46]) && s.all fun c => decide (c ≠ 47) && decide (c ≠ 0)
theorem nameU_len {s : Str} (h : nameU s = true) : 1 ≤ s.length ∧ s.length ≤ 20 := by
  simp only [nameU, Bool.and_eq_true, decide_eq_true_eq] at h
  exact ⟨h.1.1.1.1, h.1.1.1.2⟩
theorem nameU_ne {s : Str} (h : nameU s = true) : s ≠ [] := fun e => by subst e; exact absurd (nameU_len h).1 (by simp)
theorem nameU_ns {s : Str} (h : nameU s = true) : (47 : UInt8) ∉ s := fun hm => by
  simp only [nameU, Bool.and_eq_true, List.all_eq_true] at h
  have := (h.2 47 hm).1
  simp at this
/-- A path. -/
def mayP (s : Str) : Bool := decide (s = []) || ((cutU s).all nameU && decide (s.length ≤ 100) && decide ((cutU s).length ≤ 8))
theorem mayP_nil : mayP [] = true := rfl
theorem mayP_op {s : Str} (h : mayP s = true) (h0 : s ≠ []) : (∀ x ∈ cutU s, nameU x = true) ∧ s.length ≤ 100 ∧ (cutU s).length ≤ 8 := by
  simp only [mayP, Bool.or_eq_true, Bool.and_eq_true, decide_eq_true_eq, List.all_eq_true] at h
  rcases h with h | h
  · exact absurd h h0
  · exact ⟨h.1.1, h.1.2, h.2⟩
theorem mayP_len {s : Str} (h : mayP s = true) : s.length ≤ 100 := by
  by_cases h0 : s = []
  · subst h0; simp
  · exact (mayP_op h h0).2.1
/-- The names of a path. -/
def partsP (s : Str) : List Str := if s = [] then [] else if mayP s then cutU s else []
theorem partsP_nil : partsP [] = [] := rfl
theorem partsP_ok {s : Str} (h : mayP s = true) (h0 : s ≠ []) : partsP s = cutU s := by rw [partsP, if_neg h0, if_pos h]
theorem partsP_no {s : Str} (h : mayP s = false) : partsP s = [] := by
  unfold partsP
  split
  · rfl
  · rw [h]; rfl
theorem join_parts {s : Str} (h : mayP s = true) : joinU (partsP s) = s := by
  by_cases h0 : s = []
  · subst h0; rfl
  · rw [partsP_ok h h0, join_cut]
theorem parts_inj {a b : Str} (ha : mayP a = true) (hb : mayP b = true) (h : partsP a = partsP b) : a = b := by rw [← join_parts ha, ← join_parts hb, h]
theorem parts_name {s x : Str} (h : x ∈ partsP s) : nameU x = true := by
  unfold partsP at h
  split at h
  · simp at h
  · rename_i h0
    split at h
    · rename_i hm; exact (mayP_op hm h0).1 x h
    · simp at h
theorem parts_len (s : Str) : (partsP s).length ≤ 8 := by
  unfold partsP
  split
  · simp
  · rename_i h0
    split
    · rename_i hm; exact (mayP_op hm h0).2.2
    · simp
theorem parts_eq_nil {s : Str} : partsP s = [] ↔ s = [] ∨ mayP s = false := by
  constructor
  · intro h
    by_cases h0 : s = []
    · exact .inl h0
    · cases hm : mayP s with
      | false => exact .inr rfl
      | true => rw [partsP_ok hm h0] at h; exact absurd h (cutU_ne s)
  · rintro (h | h)
    · rw [h]; rfl
    · exact partsP_no h

/-- The last name of a path. -/
def lastP (s : Str) : Str := (partsP s).getLastD []
/-- The path of the parent. -/
def upP (s : Str) : Str := joinU ((partsP s).dropLast)
def parP (s : Str) : Option Str := if partsP s = [] then none else some (upP s)

theorem join_snoc : ∀ (l : List Str) (x : Str), l ≠ [] → joinU (l ++ [x]) = joinU l ++ 47 :: x
  | [], x, h => absurd rfl h
  | [y], x, _ => rfl
  | y :: z :: r, x, _ => by
    rw [List.cons_append, List.cons_append, joinU, ← List.cons_append, join_snoc (z :: r) x (by simp), joinU]
    simp
/-- The parent's path is the path without its last name, and without the slash, if there is one. -/
theorem upP_take {s : Str} (h : partsP s ≠ []) : upP s = s.take (s.length - (lastP s).length - 1) := by
  have hm : mayP s = true := by
    cases hm : mayP s with
    | true => rfl
    | false => exact absurd (partsP_no hm) h
  have hj := join_parts hm
  obtain ⟨l, x, hl⟩ : ∃ l x, partsP s = l ++ [x] := ⟨_, _, (List.dropLast_concat_getLast h).symm⟩
  unfold upP lastP
  rw [hl] at hj ⊢
  rw [List.dropLast_concat]
  have hx : (l ++ [x]).getLastD [] = x := by simp
  rw [hx]
  by_cases h0 : l = []
  · subst h0
    have : s = x := hj.symm
    subst this
    simp [joinU]
  · rw [join_snoc l x h0] at hj
    rw [← hj]
    have e : (joinU l ++ 47 :: x).length - x.length - 1 = (joinU l).length := by simp; omega
    rw [e, List.take_left]
/-- Is s the path top, or below it? -/
def underP (s top : Str) : Bool := mayP s && mayP top && (decide (top = []) || decide (s = top) || (top ++ [47]).isPrefixOf s)

/-- Which list of names comes first? -/
def lessL : List Str → List Str → Bool
  | [], [] => false
  | [], _ :: _ => true
  | _ :: _, [] => false
  | x :: a, y :: b => if x = y then lessL a b else Op.bytesLess x y
def lessP (a b : Str) : Bool := lessL (partsP a) (partsP b)

theorem bl_irr : ∀ a : Str, Op.bytesLess a a = false
  | [] => rfl
  | x :: r => by simp [Op.bytesLess, bl_irr r]
theorem bl_tri : ∀ a b : Str, a ≠ b → Op.bytesLess a b = true ∨ Op.bytesLess b a = true
  | [], [], h => absurd rfl h
  | [], _ :: _, _ => .inl rfl
  | _ :: _, [], _ => .inr rfl
  | x :: a, y :: b, h => by
    simp only [Op.bytesLess, Bool.or_eq_true, Bool.and_eq_true, decide_eq_true_eq, beq_iff_eq]
    by_cases e : x = y
    · subst e
      have := bl_tri a b (fun e => h (by rw [e]))
      rcases this with h | h
      · exact .inl (.inr ⟨rfl, h⟩)
      · exact .inr (.inr ⟨rfl, h⟩)
    · have : x < y ∨ y < x := by
        rcases Nat.lt_trichotomy x.toNat y.toNat with h | h | h
        · exact .inl h
        · exact absurd (UInt8.toNat_inj.1 h) e
        · exact .inr h
      rcases this with h | h
      · exact .inl (.inl h)
      · exact .inr (.inl h)
theorem bl_trans : ∀ a b c : Str, Op.bytesLess a b = true → Op.bytesLess b c = true → Op.bytesLess a c = true
  | [], [], _, h, _ => by cases h
  | [], _ :: _, [], _, h => by cases h
  | [], _ :: _, _ :: _, _, _ => rfl
  | _ :: _, [], _, h, _ => by cases h
  | _ :: _, _ :: _, [], _, h => by cases h
  | x :: a, y :: b, z :: c, h, h' => by
    simp only [Op.bytesLess, Bool.or_eq_true, Bool.and_eq_true, decide_eq_true_eq, beq_iff_eq] at *
    rcases h with h | ⟨rfl, h⟩
    · rcases h' with h' | ⟨rfl, h'⟩
      · exact .inl (UInt8.lt_trans h h')
      · exact .inl h
    · rcases h' with h' | ⟨rfl, h'⟩
      · exact .inl h'
      · exact .inr ⟨rfl, bl_trans a b c h h'⟩
theorem lessL_irr : ∀ a, lessL a a = false
  | [] => rfl
  | x :: a => by rw [lessL, if_pos rfl, lessL_irr a]
theorem lessL_tri : ∀ a b, a ≠ b → lessL a b = true ∨ lessL b a = true
  | [], [], h => absurd rfl h
  | [], _ :: _, _ => .inl rfl
  | _ :: _, [], _ => .inr rfl
  | x :: a, y :: b, h => by
    by_cases e : x = y
    · subst e
      rw [lessL, if_pos rfl, lessL, if_pos rfl]
      exact lessL_tri a b fun e => h (by rw [e])
    · rw [lessL, if_neg e, lessL, if_neg (fun e' => e e'.symm)]
      exact bl_tri x y e
theorem bl_asym {a b : Str} (h : Op.bytesLess a b = true) : Op.bytesLess b a = false := by
  cases h' : Op.bytesLess b a with
  | false => rfl
  | true => have := bl_trans a b a h h'; rw [bl_irr] at this; cases this
theorem lessL_trans : ∀ a b c, lessL a b = true → lessL b c = true → lessL a c = true
  | [], [], _, h, _ => by cases h
  | [], _ :: _, [], _, h => by cases h
  | [], _ :: _, _ :: _, _, _ => rfl
  | _ :: _, [], _, h, _ => by cases h
  | _ :: _, _ :: _, [], _, h => by cases h
  | x :: a, y :: b, z :: c, h, h' => by
    rw [lessL] at h h' ⊢
    by_cases e : x = y
    · subst e
      rw [if_pos rfl] at h
      by_cases e' : x = z
      · subst e'
        rw [if_pos rfl] at h' ⊢
        exact lessL_trans a b c h h'
      · rw [if_neg e'] at h' ⊢; exact h'
    · rw [if_neg e] at h
      by_cases e' : y = z
      · subst e'
        rw [if_neg e]; exact h
      · rw [if_neg e'] at h'
        have := bl_trans x y z h h'
        rw [if_neg (fun e2 => by subst e2; rw [bl_irr] at this; cases this)]
        exact this
theorem lessL_asym {a b : List Str} (h : lessL a b = true) : lessL b a = false := by
  cases h' : lessL b a with
  | false => rfl
  | true => have := lessL_trans a b a h h'; rw [lessL_irr] at this; cases this
end Eng
end Go.Proofs.YtalnkjpgnkfedaaGreatDoor
