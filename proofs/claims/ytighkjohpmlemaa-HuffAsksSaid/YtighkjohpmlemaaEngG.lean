/-
  A region in which one operation without forerunners (a new variable) may come at any time: it floats among the operations that change the world.
-/
import Derived.Test.YtighkjohpmlemaaEngC
namespace Go.Proofs.Ytighkjohpmlemaa
open Go.RowKit
namespace Eng

section
variable {P : Program} {isI isS : TypeId → Bool} {hs : List Nat} {H : World → Prop}

theorem acts_and {c : Cls} {s : Sem Next} {w : World} {S S' : Value → World → Prop} (hc : c ≠ .w) (hw : H w) (h : acts P H c s w S) (h' : acts P H c s w S') : acts P H c s w (fun v w => S v w ∧ S' v w) := by
  cases c with
  | p =>
    obtain ⟨v, h1, h2⟩ := h
    obtain ⟨v', h1', h2'⟩ := h'
    have e := h1 w
    rw [h1' w] at e
    injection e with e; injection e with e; subst e
    exact ⟨v', h1', h2, h2'⟩
  | r =>
    obtain ⟨v, h1, h2⟩ := h
    obtain ⟨v', h1', h2'⟩ := h'
    have e := h1
    rw [h1'] at e
    injection e with e; injection e with e; subst e
    exact ⟨v', h1', h2, h2'⟩
  | h =>
    obtain ⟨v, h1, h2⟩ := h
    obtain ⟨v', h1', h2'⟩ := h'
    have e := h1 w hw
    rw [h1' w hw] at e
    injection e with e; injection e with e; subst e
    exact ⟨v', h1', h2, h2'⟩
  | w => exact absurd rfl hc

theorem s1_and {full : Array Oper} {o : Oper} {K K' : Act → World → Prop} {a : Act} {w : World} (hc : clsO isI isS hs o ≠ .w) (hw : H w) (h : s1 P isI isS hs H full o K a w) (h' : s1 P isI isS hs H full o K' a w) : s1 P isI isS hs H full o (fun a w => K a w ∧ K' a w) a w := by
  unfold s1 at *
  split
  · rename_i hh; rw [if_pos hh] at h h'; exact acts_and hc hw h h'
  · rename_i hh; rw [if_neg hh] at h h'; exact ⟨h, h'⟩

/-- The floating operation: n. Flags: 0 commutes with it; 1 does not; 2 comes behind it. -/
def fl (P : Program) (isI isS : TypeId → Bool) (hs : List Nat) (H : World → Prop) (full : Array Oper) (n : Nat) (F : Nat → Nat) (K : Act → World → Prop) : List Nat → Act → World → Prop
  | [], a, w => ss P isI isS hs H full K [n] a w
  | i :: r, a, w => (F i ≠ 0 → ss P isI isS hs H full K (n :: i :: r) a w) ∧ (F i ≠ 2 → ss P isI isS hs H full (fl P isI isS hs H full n F K r) [i] a w)

structure SeqF (isI isS : TypeId → Bool) (hs : List Nat) (full : Array Oper) (A : Array Nat) (n : Nat) (F : Nat → Nat) : Prop where
  sel : Region.noSelect full = true
  lt : n < full.size
  down : ∀ i o, full[i]? = some o → ∀ e ∈ o.after, Region.binds .any e = true → e.on < i
  anc : ∀ i o, full[i]? = some o → ∀ j, j < i → (A.getD i 0).testBit j = true → ∃ e ∈ o.after, Region.binds .any e = true ∧ (e.on = j ∨ (j < e.on ∧ (A.getD e.on 0).testBit j = true))
  fre : ∀ i o, full[i]? = some o → i ≠ n → ∀ j, j < i → j ≠ n → (A.getD i 0).testBit j = false → free isI isS hs full j i = true
  f0 : ∀ i o, full[i]? = some o → i ≠ n → F i = 0 → free isI isS hs full i n = true ∧ free isI isS hs full n i = true
  rng : ∀ i o, full[i]? = some o → i ≠ n → F i ≠ 1 → F i ≠ 2 → F i = 0
  f2 : ∀ i o, full[i]? = some o → i ≠ n → F i = 2 → (A.getD i 0).testBit n = true ∧ n < i
  cw : ∀ i o, full[i]? = some o → i ≠ n → F i ≠ 1 → F i ≠ 2 → clsO isI isS hs o ≠ .w
  ord : ∀ i j, j < i → F i = 1 → i ≠ n → j ≠ n → F j ≠ 0 → i < full.size → (A.getD i 0).testBit j = true

def seqF (isI isS : TypeId → Bool) (hs : List Nat) (full : Array Oper) (A : Array Nat) (n : Nat) (fs : List Nat) : Bool :=
  Region.noSelect full && decide (n < full.size) && (List.range full.size).all fun i =>
    match full[i]? with
    | none => false
    | some o =>
      (o.after.all fun e => !Region.binds .any e || decide (e.on < i)) &&
      ((List.range i).all fun j =>
        if (A.getD i 0).testBit j then o.after.any fun e => Region.binds .any e && (e.on == j || (decide (j < e.on) && (A.getD e.on 0).testBit j))
        else i == n || j == n || free isI isS hs full j i) &&
      (i == n || (match fs.getD i 0 with
        | 0 => free isI isS hs full i n && free isI isS hs full n i && !(clsO isI isS hs o == .w)
        | 1 => (List.range i).all fun j => j == n || fs.getD j 0 == 0 || (A.getD i 0).testBit j
        | 2 => (A.getD i 0).testBit n && decide (n < i)
        | _ => false))

theorem seqF_spec {full : Array Oper} {A : Array Nat} {n : Nat} {fs : List Nat} (h : seqF isI isS hs full A n fs = true) : SeqF isI isS hs full A n (fun i => fs.getD i 0) := by
  unfold seqF at h
  rw [Bool.and_eq_true, Bool.and_eq_true] at h
  have hall : ∀ i o, full[i]? = some o → (o.after.all fun e => !Region.binds .any e || decide (e.on < i)) = true ∧
      (∀ j, j < i → (if (A.getD i 0).testBit j then o.after.any fun e => Region.binds .any e && (e.on == j || (decide (j < e.on) && (A.getD e.on 0).testBit j)) else i == n || j == n || free isI isS hs full j i) = true) ∧
      (i == n || (match fs.getD i 0 with
        | 0 => free isI isS hs full i n && free isI isS hs full n i && !(clsO isI isS hs o == .w)
        | 1 => (List.range i).all fun j => j == n || fs.getD j 0 == 0 || (A.getD i 0).testBit j
        | 2 => (A.getD i 0).testBit n && decide (n < i)
        | _ => false)) = true := fun i o ho => by
    have hlt : i < full.size := (Array.getElem?_eq_some_iff.1 ho).1
    have hi := List.all_eq_true.1 h.2 i (List.mem_range.2 hlt)
    rw [ho] at hi
    simp only [Bool.and_eq_true] at hi
    exact ⟨hi.1.1, fun j hj => List.all_eq_true.1 hi.1.2 j (List.mem_range.2 hj), hi.2⟩
  have flag : ∀ i o, full[i]? = some o → i ≠ n → (match fs.getD i 0 with
        | 0 => free isI isS hs full i n && free isI isS hs full n i && !(clsO isI isS hs o == .w)
        | 1 => (List.range i).all fun j => j == n || fs.getD j 0 == 0 || (A.getD i 0).testBit j
        | 2 => (A.getD i 0).testBit n && decide (n < i)
        | _ => false) = true := fun i o ho hne => by
    have := (hall i o ho).2.2
    rw [Bool.or_eq_true] at this
    rcases this with h' | h'
    · exact absurd (by simpa using h') hne
    · exact h'
  refine ⟨h.1.1, by simpa using h.1.2, fun i o ho e he hb => ?_, fun i o ho j hj hA => ?_, fun i o ho hi j hj hjn hA => ?_, fun i o ho hi hf => ?_, fun i o ho hi hf1 hf2 => ?_, fun i o ho hi hf => ?_, fun i o ho hi hf1 hf2 => ?_, fun i j hji hf hi hj hfj hlt => ?_⟩
  · have := Array.all_eq_true_iff_forall_mem.1 (hall i o ho).1 e he
    simpa [hb] using this
  · have := (hall i o ho).2.1 j hj
    rw [if_pos hA] at this
    obtain ⟨e, he, hh⟩ := Array.any_eq_true'.1 this
    simp only [Bool.and_eq_true, Bool.or_eq_true, beq_iff_eq, decide_eq_true_eq] at hh
    exact ⟨e, he, hh.1, hh.2⟩
  · have := (hall i o ho).2.1 j hj
    rw [if_neg (by rw [hA]; decide)] at this
    simpa [hi, hjn] using this
  · have := flag i o ho hi
    rw [hf] at this
    simp only [Bool.and_eq_true] at this
    exact this.1
  · have := flag i o ho hi
    split at this
    · rename_i e; exact e
    · rename_i e; exact absurd e hf1
    · rename_i e; exact absurd e hf2
    · cases this
  · have := flag i o ho hi
    rw [hf] at this
    simpa using this
  · have := flag i o ho hi
    split at this
    · simp only [Bool.and_eq_true, Bool.not_eq_true', beq_eq_false_iff_ne] at this
      exact this.2
    · rename_i e; exact absurd e hf1
    · rename_i e; exact absurd e hf2
    · cases this
  · obtain ⟨o, ho⟩ : ∃ o, full[i]? = some o := ⟨_, Array.getElem?_eq_getElem hlt⟩
    have := flag i o ho hi
    rw [hf] at this
    have := List.all_eq_true.1 this j (List.mem_range.2 hji)
    simp only [Bool.or_eq_true, beq_iff_eq] at this
    rcases this with (h' | h') | h'
    · exact absurd h' hj
    · exact absurd h' hfj
    · exact h'

theorem free_spec {full : Array Oper} {j i : Nat} {x y : Oper} (hx : full[j]? = some x) (hy : full[i]? = some y) (h : free isI isS hs full j i = true) : x.apart full y = true ∧ calmC (clsO isI isS hs x) (clsO isI isS hs y) = true := by
  unfold free at h
  rw [hx, hy] at h
  simpa using h

theorem ss_one {full : Array Oper} {K : Act → World → Prop} {i : Nat} {o : Oper} (ho : full[i]? = some o) {a : Act} {w : World} : ss P isI isS hs H full K [i] a w = s1 P isI isS hs H full o K a w := by simp only [ss, ho]

/-- The floating operation is brought to the front. -/
theorem fl_now {full : Array Oper} {A : Array Nat} {n : Nat} {F : Nat → Nat} (hq : SeqF isI isS hs full A n F) {K : Act → World → Prop} {on : Oper} (hon : full[n]? = some on) :
    ∀ (l : List Nat) (a : Act) (w : World), (∀ i ∈ l, i ≠ n ∧ i < full.size) → H w → fl P isI isS hs H full n F K l a w → s1 P isI isS hs H full on (ss P isI isS hs H full K l) a w
  | [], a, w, _, _, h => by
    unfold fl at h
    rw [ss_one hon] at h
    exact h
  | i :: r, a, w, hl, hw, h => by
    obtain ⟨oi, hoi⟩ : ∃ o, full[i]? = some o := ⟨_, Array.getElem?_eq_getElem (hl i (by simp)).2⟩
    unfold fl at h
    by_cases hf : F i = 0
    · have h2 := h.2 (by omega)
      rw [ss_one hoi] at h2
      have h3 := s1_mono hw (fun a w hw' k => fl_now hq hon r a w (fun j hj => hl j (by simp [hj])) hw' k) h2
      obtain ⟨f1, f2⟩ := free_spec hoi hon (hq.f0 i oi hoi (hl i (by simp)).1 hf).1
      have := s1_swap hw f1 f2 (fun cs b => Region.noSelect_spec hq.sel i oi cs b hoi) (fun cs b => Region.noSelect_spec hq.sel n on cs b hon) h3
      refine s1_mono hw (fun a w _ k => ?_) this
      simp only [ss, hoi]; exact k
    · have := h.1 hf
      simp only [ss, hon] at this
      exact this

/-- Another operation is brought to the front. -/
theorem fl_other {full : Array Oper} {A : Array Nat} {n : Nat} {F : Nat → Nat} (hq : SeqF isI isS hs full A n F) {K : Act → World → Prop} {i : Nat} {o : Oper} (ho : full[i]? = some o) (hin : i ≠ n) (hi2 : F i ≠ 2) (l2 : List Nat) (hl2 : ∀ j ∈ l2, j ≠ n ∧ j < full.size) :
    ∀ (l1 : List Nat) (a : Act) (w : World), (∀ j ∈ l1, j ≠ n ∧ j < i ∧ free isI isS hs full j i = true ∧ (A.getD i 0).testBit j = false) → H w → fl P isI isS hs H full n F K (l1 ++ i :: l2) a w → s1 P isI isS hs H full o (fl P isI isS hs H full n F K (l1 ++ l2)) a w
  | [], a, w, _, _, h => by
    rw [List.nil_append] at h ⊢
    unfold fl at h
    have := h.2 hi2
    rw [ss_one ho] at this
    exact this
  | y :: l1, a, w, hf, hw, h => by
    have hy := hf y (by simp)
    have hilt : i < full.size := (Array.getElem?_eq_some_iff.1 ho).1
    obtain ⟨oy, hoy⟩ : ∃ o, full[y]? = some o := ⟨_, Array.getElem?_eq_getElem (show y < full.size by omega)⟩
    obtain ⟨f1, f2⟩ := free_spec hoy ho hy.2.2.1
    rw [List.cons_append] at h ⊢
    unfold fl at h
    have second : F y ≠ 2 → s1 P isI isS hs H full o (ss P isI isS hs H full (fl P isI isS hs H full n F K (l1 ++ l2)) [y]) a w := fun hy2 => by
      have h2 := h.2 hy2
      rw [ss_one hoy] at h2
      have h3 := s1_mono hw (fun a w hw' k => fl_other hq ho hin hi2 l2 hl2 l1 a w (fun j hj => hf j (by simp [hj])) hw' k) h2
      have := s1_swap hw f1 f2 (fun cs b => Region.noSelect_spec hq.sel y oy cs b hoy) (fun cs b => Region.noSelect_spec hq.sel i o cs b ho) h3
      exact s1_mono hw (fun a w _ k => by rw [ss_one hoy]; exact k) this
    by_cases hy0 : F y = 0
    · refine s1_mono hw (fun a w _ k => ?_) (second (by omega))
      unfold fl
      exact ⟨fun hh => absurd hy0 hh, fun _ => k⟩
    · -- y does not commute with the floating one: so i does
      have hi1 : F i ≠ 1 := fun e => by
        have := hq.ord i y hy.2.1 e hin hy.1 hy0 hilt
        rw [hy.2.2.2] at this; cases this
      have hcw := hq.cw i o ho hin hi1 hi2
      have first : s1 P isI isS hs H full o (ss P isI isS hs H full K (n :: y :: (l1 ++ l2))) a w := by
        have h1 := h.1 hy0
        have hfr : ∀ j ∈ n :: y :: l1, free isI isS hs full j i = true := fun j hj => by
          rcases List.mem_cons.1 hj with rfl | hj
          · exact (hq.f0 i o ho hin (hq.rng i o ho hin hi1 hi2)).2
          · exact (hf j (by simpa using hj)).2.2.1
        exact ss_front hq.sel ho l2 (n :: y :: l1) a w hfr hw h1
      by_cases hy2 : F y = 2
      · refine s1_mono hw (fun a w _ k => ?_) first
        unfold fl
        exact ⟨fun _ => k, fun hh => absurd hy2 hh⟩
      · refine s1_mono hw (fun a w _ k => ?_) (s1_and hcw hw first (second hy2))
        unfold fl
        exact ⟨fun _ => k.1, fun _ => k.2⟩

theorem listed_ancF {full : Array Oper} {A : Array Nat} {n : Nat} {F : Nat → Nat} (hq : SeqF isI isS hs full A n F) {listed : Array Bool} (hsz : listed.size = full.size)
    (down : ∀ i o, full[i]? = some o → listed.getD i false = true → ∀ e ∈ o.after, Region.binds .any e = true → listed.getD e.on false = true) {j : Nat} :
    ∀ (m k : Nat), k < m → listed.getD k false = true → (A.getD k 0).testBit j = true → j < k → listed.getD j false = true := by
  intro m
  induction m with
  | zero => intro k hk; omega
  | succ m ih =>
    intro k hk hlk hAk hjk
    have hks : k < full.size := by
      rcases Nat.lt_or_ge k full.size with h' | h'
      · exact h'
      · rw [Array.getD_eq_getD_getElem?, Array.getElem?_eq_none (by omega)] at hlk; cases hlk
    obtain ⟨ok, hok⟩ : ∃ ok, full[k]? = some ok := ⟨_, Array.getElem?_eq_getElem hks⟩
    obtain ⟨e, he, hb, hor⟩ := hq.anc k ok hok j hjk hAk
    have hle := down k ok hok hlk e he hb
    rcases hor with h' | ⟨hlt, hA'⟩
    · rw [← h']; exact hle
    · exact ih e.on (by have := hq.down k ok hok e he hb; omega) hle hA' hlt

/-- What is left: l in the order of the text; b: is the floating one still to come? -/
def flOr (P : Program) (isI isS : TypeId → Bool) (hs : List Nat) (H : World → Prop) (full : Array Oper) (n : Nat) (F : Nat → Nat) (K : Act → World → Prop) (b : Bool) (l : List Nat) (a : Act) (w : World) : Prop :=
  match b with
  | true => fl P isI isS hs H full n F K l a w
  | false => ss P isI isS hs H full K l a w

theorem wpAny_of_fl {full : Array Oper} {A : Array Nat} {n : Nat} {F : Nat → Nat} (hq : SeqF isI isS hs full A n F) {K : Act → World → Prop} {Q : Exit → Act → World → Prop} (hQ : ∀ a w, K a w → Q .normal a w) :
    ∀ (fuel : Nat) (listed : Array Bool) (b : Bool) (l : List Nat) (a : Act) (w : World), H w → listed.size = full.size → (if b then l.length + 1 else l.length) ≤ fuel → l.Pairwise (· < ·) → (∀ i, i ∈ l ↔ i < full.size ∧ i ≠ n ∧ listed.getD i false = false) → (listed.getD n false = !b) →
      (∀ i o, full[i]? = some o → listed.getD i false = true → ∀ e ∈ o.after, Region.binds .any e = true → listed.getD e.on false = true) →
      flOr P isI isS hs H full n F K b l a w → wpAny P .any full Q fuel listed a w := by
  intro fuel
  obtain ⟨on, hon⟩ : ∃ o, full[n]? = some o := ⟨_, Array.getElem?_eq_getElem hq.lt⟩
  have unl : ∀ {listed : Array Bool} {i : Nat}, listed.size = full.size → i ∈ Region.ready .any full listed → i < full.size ∧ listed.getD i false = false := fun {listed i} hsz hi => by
    obtain ⟨h0, o, ho, _⟩ := mem_ready.1 hi
    have hlt : i < full.size := (Array.getElem?_eq_some_iff.1 ho).1
    refine ⟨hlt, ?_⟩
    rw [Array.getD_eq_getD_getElem?, Array.getElem?_eq_getElem (by omega)] at h0 ⊢
    simpa using h0
  have mkReady : ∀ (listed : Array Bool) (i : Nat) (o : Oper), listed.size = full.size → full[i]? = some o → listed.getD i false = false → (∀ e ∈ o.after, Region.binds .any e = true → listed.getD e.on false = true) → i ∈ Region.ready .any full listed := fun listed i o hsz ho hl hall => by
    rw [mem_ready]
    refine ⟨?_, o, ho, hall⟩
    have hlt : i < full.size := (Array.getElem?_eq_some_iff.1 ho).1
    rw [Array.getD_eq_getD_getElem?, Array.getElem?_eq_getElem (by omega)] at hl ⊢
    simpa using hl
  -- nothing ready: nothing left
  have stuck : ∀ (listed : Array Bool), listed.size = full.size → Region.ready .any full listed = [] → ∀ i, i < full.size → listed.getD i false = true := fun listed hsz hr i => by
    induction i using Nat.strongRecOn with
    | _ i ih =>
      intro hi
      cases hl : listed.getD i false with
      | true => rfl
      | false =>
        exfalso
        obtain ⟨o, ho⟩ : ∃ o, full[i]? = some o := ⟨_, Array.getElem?_eq_getElem hi⟩
        have := mkReady listed i o hsz ho hl (fun e he hb => ih e.on (hq.down i o ho e he hb) (by have := hq.down i o ho e he hb; omega))
        rw [hr] at this; cases this
  have done : ∀ (listed : Array Bool) (b : Bool) (l : List Nat) (a : Act) (w : World), listed.size = full.size → (∀ i, i ∈ l ↔ i < full.size ∧ i ≠ n ∧ listed.getD i false = false) → (listed.getD n false = !b) → Region.ready .any full listed = [] → flOr P isI isS hs H full n F K b l a w → Q .normal a w := fun listed b l a w hsz hl hn hr h => by
    have hall := stuck listed hsz hr
    have hb : b = false := by
      have := hall n hq.lt
      rw [hn] at this
      cases b with
      | true => cases this
      | false => rfl
    subst hb
    have : l = [] := by
      cases l with
      | nil => rfl
      | cons i r =>
        have h1 := (hl i).1 (by simp)
        have := hall i h1.1
        rw [h1.2.2] at this; cases this
    subst this
    exact hQ _ _ h
  induction fuel with
  | zero =>
    intro listed b l a w hw hsz hlen hp hl hn hd h
    cases b with
    | true => simp at hlen
    | false =>
      have hnil : l = [] := List.eq_nil_of_length_eq_zero (by simpa using hlen)
      subst hnil
      refine ⟨?_, hQ _ _ h⟩
      cases hr : Region.ready .any full listed with
      | nil => rfl
      | cons i r =>
        exfalso
        have hi : i ∈ Region.ready .any full listed := by rw [hr]; simp
        have hu := unl hsz hi
        by_cases e : i = n
        · subst e; rw [hn] at hu; cases hu.2
        · have := (hl i).2 ⟨hu.1, e, hu.2⟩; cases this
  | succ fuel ih =>
    intro listed b l a w hw hsz hlen hp hl hn hd h
    refine ⟨fun hr => done listed b l a w hsz hl hn hr h, fun i hi => ?_⟩
    obtain ⟨hlt, hun⟩ := unl hsz hi
    obtain ⟨_, o, ho, hall⟩ := mem_ready.1 hi
    have hd' : ∀ i' o', full[i']? = some o' → (listed.setIfInBounds i true).getD i' false = true → ∀ e ∈ o'.after, Region.binds .any e = true → (listed.setIfInBounds i true).getD e.on false = true := by
      intro k' ok hok hlk e he hb
      refine getD_set_true ?_
      by_cases hki : k' = i
      · subst hki
        rw [ho] at hok
        injection hok with hok
        subst hok
        exact hall e he hb
      · rw [getD_set_ne false (Ne.symm hki)] at hlk
        exact hd k' ok hok hlk e he hb
    have setI : (listed.setIfInBounds i true).getD i false = true := by
      rw [Array.getD_eq_getD_getElem?, Array.getElem?_setIfInBounds_self_of_lt (by omega)]; rfl
    by_cases hin : i = n
    · subst hin
      have hb : b = true := by
        rw [hn] at hun
        cases b with
        | true => rfl
        | false => cases hun
      subst hb
      obtain rfl : on = o := by rw [hon] at ho; injection ho
      refine wpOp_of_s1 (isI := isI) (isS := isS) (hs := hs) hw (fun a' w' hw' k => ?_) ho (fl_now hq ho l a w (fun j hj => ⟨((hl j).1 hj).2.1, ((hl j).1 hj).1⟩) hw h)
      refine ih _ false l a' w' hw' (by simpa using hsz) (by simp at hlen ⊢; omega) hp (fun j => ?_) setI hd' k
      by_cases hj : j = i
      · subst hj
        constructor
        · intro hm; exact absurd rfl ((hl j).1 hm).2.1
        · intro hh; exact absurd rfl hh.2.1
      · rw [getD_set_ne false (Ne.symm hj)]; exact hl j
    · obtain ⟨l1, l2, rfl⟩ := List.append_of_mem ((hl i).2 ⟨hlt, hin, hun⟩)
      have hp1 := List.pairwise_append.1 hp
      have hp2 := List.pairwise_cons.1 hp1.2.1
      have notAnc : ∀ j, j < i → listed.getD j false = false → (A.getD i 0).testBit j = false := fun j hji hju => by
        cases hA : (A.getD i 0).testBit j with
        | false => rfl
        | true =>
          exfalso
          obtain ⟨e, he, hb, hor⟩ := hq.anc i o ho j hji hA
          have hle := hall e he hb
          have : listed.getD j false = true := by
            rcases hor with h' | ⟨hlt', hA'⟩
            · rw [← h']; exact hle
            · exact listed_ancF hq hsz hd (e.on + 1) e.on (by omega) hle hA' hlt'
          rw [hju] at this
          cases this
      have hf : ∀ j ∈ l1, j ≠ n ∧ j < i ∧ free isI isS hs full j i = true ∧ (A.getD i 0).testBit j = false := fun j hj => by
        have h1 := (hl j).1 (by simp [hj])
        have hji : j < i := hp1.2.2 j hj i (by simp)
        have hna := notAnc j hji h1.2.2
        exact ⟨h1.2.1, hji, hq.fre i o ho hin j hji h1.2.1 hna, hna⟩
      have hp' : (l1 ++ l2).Pairwise (· < ·) := List.pairwise_append.2 ⟨hp1.1, hp2.2, fun u hu v hv => hp1.2.2 u hu v (by simp [hv])⟩
      have hm' : ∀ j, j ∈ l1 ++ l2 ↔ j < full.size ∧ j ≠ n ∧ (listed.setIfInBounds i true).getD j false = false := fun j => by
        by_cases hji : j = i
        · subst hji
          constructor
          · intro hm
            exfalso
            rcases List.mem_append.1 hm with h' | h'
            · have := hp1.2.2 j h' j (by simp); omega
            · have := hp2.1 j h'; omega
          · rintro ⟨_, _, h'⟩
            rw [setI] at h'; cases h'
        · rw [getD_set_ne false (Ne.symm hji), ← hl j]
          simp [hji]
      have hn' : (listed.setIfInBounds i true).getD n false = !b := by rw [getD_set_ne false hin]; exact hn
      have hlen' : (if b then (l1 ++ l2).length + 1 else (l1 ++ l2).length) ≤ fuel := by
        cases b <;> simp at hlen ⊢ <;> omega
      cases b with
      | false =>
        refine wpOp_of_s1 (isI := isI) (isS := isS) (hs := hs) hw (fun a' w' hw' k => ?_) ho (ss_front hq.sel ho l2 l1 a w (fun j hj => (hf j hj).2.2.1) hw h)
        exact ih _ false (l1 ++ l2) a' w' hw' (by simpa using hsz) hlen' hp' hm' hn' hd' k
      | true =>
        have hi2 : F i ≠ 2 := fun e => by
          have := hq.f2 i o ho hin e
          have h3 := notAnc n this.2 (by rw [hn]; rfl)
          rw [this.1] at h3; cases h3
        refine wpOp_of_s1 (isI := isI) (isS := isS) (hs := hs) hw (fun a' w' hw' k => ?_) ho (fl_other hq ho hin hi2 l2 (fun j hj => by have := (hl j).1 (by simp [hj]); exact ⟨this.2.1, this.1⟩) l1 a w hf hw h)
        exact ih _ true (l1 ++ l2) a' w' hw' (by simpa using hsz) hlen' hp' hm' hn' hd' k

/-- The same over named temporaries. -/
def xf (P : Program) (isI isS : TypeId → Bool) (hs : List Nat) (H : World → Prop) (full : Array Oper) (K : Env → World → Prop) (on : Oper) : List Oper → List Nat → Env → World → Prop
  | [], _, env, w => xs P isI isS hs H full K [on] env w
  | o :: r, fs, env, w => match fs with
    | 0 :: fs => xs P isI isS hs H full (xf P isI isS hs H full K on r fs) [o] env w
    | 2 :: _ => xs P isI isS hs H full K (on :: o :: r) env w
    | _ :: fs => xs P isI isS hs H full K (on :: o :: r) env w ∧ xs P isI isS hs H full (xf P isI isS hs H full K on r fs) [o] env w
    | [] => False

/-- Places, operations and flags side by side. -/
inductive Al (full : Array Oper) (F : Nat → Nat) : List Nat → List Oper → List Nat → Prop where
  | nil : Al full F [] [] []
  | cons {i : Nat} {o : Oper} {f : Nat} {is : List Nat} {l : List Oper} {fs : List Nat} (ho : full[i]? = some o) (hf : F i = f) (h : Al full F is l fs) : Al full F (i :: is) (o :: l) (f :: fs)

theorem ss_of_xsL {N : Nat} {full : Array Oper} {F : Nat → Nat} {K : Env → World → Prop} {K' : Act → World → Prop} (hsel : Region.noSelect full = true) (hd : ∀ (i : Nat) (o : Oper), full[i]? = some o → ∀ t, o.dst = some t → t < N) (hK : ∀ env a w, Fits N env a → H w → K env w → K' a w) :
    ∀ {is : List Nat} {l : List Oper} {fs : List Nat}, Al full F is l fs → ∀ (env : Env) (a : Act) (w : World), H w → Fits N env a → xs P isI isS hs H full K l env w → ss P isI isS hs H full K' is a w := by
  intro is l fs hal
  induction hal with
  | nil => intro env a w hw hf h; exact hK env a w hf hw h
  | @cons i o _ _ _ _ ho _ _ ih =>
    intro env a w hw hf h
    obtain ⟨g, hg, ht, hff⟩ := h
    simp only [ss, ho]
    unfold s1
    rw [gv_wanted hf hg]
    cases g with
    | true =>
      obtain ⟨hop, ha⟩ := ht rfl
      rw [if_pos rfl, ← exec_eq hf (fun cs b => Region.noSelect_spec hsel i o cs b ho) hop]
      exact acts_mono hw (fun v w' hw' hx => ih _ _ w' hw' (hf.put o.dst (hd i o ho) v) hx) ha
    | false =>
      rw [if_neg (by decide)]
      exact ih _ _ w hw (hf.put o.dst (hd i o ho) undef) (hff rfl)

theorem fl_of_xf {N : Nat} {full : Array Oper} {n : Nat} {F : Nat → Nat} {K : Env → World → Prop} {on : Oper} (hon : full[n]? = some on) (hsel : Region.noSelect full = true) (hd : ∀ (i : Nat) (o : Oper), full[i]? = some o → ∀ t, o.dst = some t → t < N) :
    ∀ {is : List Nat} {l : List Oper} {fs : List Nat}, Al full F is l fs → ∀ (env : Env) (a : Act) (w : World), H w → Fits N env a → xf P isI isS hs H full K on l fs env w →
      fl P isI isS hs H full n F (fun a' w' => ∃ env', Fits N env' a' ∧ K env' w') is a w := by
  have lift : ∀ env a w, Fits N env a → H w → K env w → ∃ env', Fits N env' a ∧ K env' w := fun env a w hf _ hk => ⟨env, hf, hk⟩
  intro is l fs hal
  induction hal with
  | nil =>
    intro env a w hw hf h
    exact ss_of_xsL (F := F) hsel hd lift (.cons hon rfl .nil) env a w hw hf h
  | cons ho hfl hrest ih =>
    rename_i i o f is l fs
    intro env a w hw hf h
    have first : xs P isI isS hs H full K (on :: o :: l) env w → ss P isI isS hs H full (fun a' w' => ∃ env', Fits N env' a' ∧ K env' w') (n :: i :: is) a w :=
      fun hx => ss_of_xsL (F := F) hsel hd lift (.cons hon rfl (.cons ho hfl hrest)) env a w hw hf hx
    have second : xs P isI isS hs H full (xf P isI isS hs H full K on l fs) [o] env w → ss P isI isS hs H full (fl P isI isS hs H full n F (fun a' w' => ∃ env', Fits N env' a' ∧ K env' w') is) [i] a w :=
      fun hx => ss_of_xsL (F := F) hsel hd (fun env a w hf hw hk => ih env a w hw hf hk) (.cons ho hfl .nil) env a w hw hf hx
    unfold fl
    unfold xf at h
    subst hfl
    split at h
    · rename_i heq; injection heq with e1 e2; subst e2
      exact ⟨fun hh => absurd e1 hh, fun _ => second h⟩
    · rename_i heq; injection heq with e1 e2
      exact ⟨fun _ => first h, fun hh => absurd e1 hh⟩
    · rename_i heq; injection heq with e1 e2; subst e2
      exact ⟨fun _ => first h.1, fun _ => second h.2⟩
    · exact h.elim
end

def ins (n : Nat) (fs : List Nat) : List Nat := fs.take n ++ 0 :: fs.drop n

theorem al_of {full : Array Oper} {F : Nat → Nat} : ∀ (l : List Oper) (fs : List Nat) (k : Nat), fs.length = l.length → (∀ j o, l[j]? = some o → full[k + j]? = some o) → (∀ j f, fs[j]? = some f → F (k + j) = f) → Al full F (List.range' k l.length) l fs
  | [], [], k, _, _, _ => .nil
  | [], _ :: _, _, h, _, _ => by simp at h
  | _ :: _, [], _, h, _, _ => by simp at h
  | o :: l, f :: fs, k, hl, h1, h2 => by
    rw [List.length_cons, List.range'_succ]
    exact .cons (by simpa using h1 0 o rfl) (by simpa using h2 0 f rfl) (al_of l fs (k + 1) (by simpa using hl) (fun j o' ho' => by have := h1 (j + 1) o' (by simpa using ho'); rwa [show k + 1 + j = k + (j + 1) from by omega]) (fun j f' hf' => by have := h2 (j + 1) f' (by simpa using hf'); rwa [show k + 1 + j = k + (j + 1) from by omega]))
theorem Al.app {full : Array Oper} {F : Nat → Nat} {is is' : List Nat} {l l' : List Oper} {fs fs' : List Nat} (h : Al full F is l fs) (h' : Al full F is' l' fs') : Al full F (is ++ is') (l ++ l') (fs ++ fs') := by
  induction h with
  | nil => exact h'
  | cons ho hf _ ih => exact .cons ho hf ih

/-- A region that draws, with one operation that floats: n: its place; fs: the flags of the others. -/
theorem tdrawF {fn : Func} {R : Value → World → Prop} {k : List It} {id : Nat} {l : List Oper} {env : Env} {w : World} {on : Oper} (n : Nat) (fs hs : List Nat) (H : World → Prop) (hon : l[n]? = some on) (hfl : fs.length + 1 = l.length) (hd : dstOK fn.ntmps l.toArray = true)
    (hq : seqF isI isS hs l.toArray (Region.before l.toArray) n (ins n fs) = true) (hw : H w.drew) (h : xf Try.prog isI isS hs H l.toArray (T Try.prog fn R k) on (l.take n ++ l.drop (n + 1)) fs env w.drew) :
    T Try.prog fn R (.code (.region id l.toArray true) :: k) env w := fun a ha => by
  obtain ⟨hs', hd⟩ := dstOK_spec hd
  have hq' := seqF_spec hq
  have hn : n < l.length := by simpa using hq'.lt
  have hfn : n ≤ fs.length := by omega
  have F1 : ∀ j, j < n → (ins n fs).getD j 0 = fs.getD j 0 := fun j hj => by
    unfold ins
    rw [List.getD_eq_getElem?_getD, List.getElem?_append_left (by rw [List.length_take]; omega), List.getElem?_take_of_lt hj, ← List.getD_eq_getElem?_getD]
  have F2 : ∀ j, (ins n fs).getD (n + 1 + j) 0 = fs.getD (n + j) 0 := fun j => by
    unfold ins
    rw [List.getD_eq_getElem?_getD, List.getElem?_append_right (by rw [List.length_take]; omega), List.length_take, Nat.min_eq_left hfn, show n + 1 + j - n = j + 1 from by omega, List.getElem?_cons_succ, List.getElem?_drop, ← List.getD_eq_getElem?_getD]
  have hal : Al l.toArray (fun i => (ins n fs).getD i 0) (List.range' 0 (l.take n).length ++ List.range' (n + 1) (l.drop (n + 1)).length) (l.take n ++ l.drop (n + 1)) (fs.take n ++ fs.drop n) := by
    refine (al_of (l.take n) (fs.take n) 0 (by rw [List.length_take, List.length_take]; omega) (fun j o ho => ?_) (fun j f hf => ?_)).app (al_of (l.drop (n + 1)) (fs.drop n) (n + 1) (by rw [List.length_drop, List.length_drop]; omega) (fun j o ho => ?_) (fun j f hf => ?_))
    · have hj : j < n := by
        have := (List.getElem?_eq_some_iff.1 ho).1
        rw [List.length_take] at this; omega
      rw [List.getElem?_take_of_lt hj] at ho
      simpa using ho
    · have hj : j < n := by
        have := (List.getElem?_eq_some_iff.1 hf).1
        rw [List.length_take] at this; omega
      rw [List.getElem?_take_of_lt hj] at hf
      rw [Nat.zero_add, F1 j hj, List.getD_eq_getElem?_getD, hf]; rfl
    · rw [List.getElem?_drop] at ho
      simpa using ho
    · rw [List.getElem?_drop] at hf
      rw [F2 j, List.getD_eq_getElem?_getD, hf]; rfl
  rw [List.take_append_drop] at hal
  have h1 := fl_of_xf (P := Try.prog) (N := fn.ntmps) (n := n) (by simpa using hon) hs' hd hal env a w.drew hw ha h
  refine wp_region_any mixed (wpAny_of_fl hq' (fun a' w' ⟨env', hf, ht⟩ => ht a' hf) l.toArray.size _ true _ a _ hw (by simp) ?_ ?_ (fun i => ?_) ?_ (fun i o ho hl => ?_) h1)
  · simp; omega
  · rw [List.pairwise_append]
    refine ⟨List.pairwise_lt_range', List.pairwise_lt_range', fun u hu v hv => ?_⟩
    rw [List.mem_range'_1, List.length_take] at hu
    rw [List.mem_range'_1] at hv; omega
  · rw [List.mem_append, List.mem_range'_1, List.mem_range'_1, List.length_take, List.length_drop]
    have hr : (Array.replicate l.toArray.size false).getD i false = false := by
      rw [Array.getD_eq_getD_getElem?, Array.getElem?_replicate]; split <;> rfl
    rw [hr]
    simp
    omega
  · rw [Array.getD_eq_getD_getElem?, Array.getElem?_replicate]; split <;> rfl
  · exfalso
    rw [Array.getD_eq_getD_getElem?, Array.getElem?_replicate] at hl
    split at hl <;> simp at hl

section
variable {hs : List Nat} {H : World → Prop} {full : Array Oper} {K : Env → World → Prop} {env : Env} {w : World} {on o : Oper} {r : List Oper} {fs : List Nat}
theorem xfe (h : xs Try.prog isI isS hs H full K [on] env w) : xf Try.prog isI isS hs H full K on [] fs env w := h
theorem xf0 (h : xs Try.prog isI isS hs H full (xf Try.prog isI isS hs H full K on r fs) [o] env w) : xf Try.prog isI isS hs H full K on (o :: r) (0 :: fs) env w := h
theorem xf1 (h1 : xs Try.prog isI isS hs H full K (on :: o :: r) env w) (h2 : xs Try.prog isI isS hs H full (xf Try.prog isI isS hs H full K on r fs) [o] env w) : xf Try.prog isI isS hs H full K on (o :: r) (1 :: fs) env w := ⟨h1, h2⟩
theorem xf2 (h : xs Try.prog isI isS hs H full K (on :: o :: r) env w) : xf Try.prog isI isS hs H full K on (o :: r) (2 :: fs) env w := h
end
end Eng
end Go.Proofs.Ytighkjohpmlemaa
