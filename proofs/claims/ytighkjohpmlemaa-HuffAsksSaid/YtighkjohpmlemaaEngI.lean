/-
  A region that draws, with one pair of operations that do not commute: both orders of the pair are walked.
-/
import Derived.Test.YtighkjohpmlemaaEngD
namespace Go.Proofs.Ytighkjohpmlemaa
open Go.RowKit
namespace Eng

structure Downs (full : Array Oper) (A : Array Nat) : Prop where
  sel : Region.noSelect full = true
  down : ∀ i o, full[i]? = some o → ∀ e ∈ o.after, Region.binds .any e = true → e.on < i
  anc : ∀ i o, full[i]? = some o → ∀ j, j < i → (A.getD i 0).testBit j = true → ∃ e ∈ o.after, Region.binds .any e = true ∧ (e.on = j ∨ (j < e.on ∧ (A.getD e.on 0).testBit j = true))

section
variable {P : Program} {isI isS : TypeId → Bool} {hs : List Nat} {H : World → Prop}

theorem downs_anc {full : Array Oper} {A : Array Nat} (hq : Downs full A) {listed : Array Bool} (hsz : listed.size = full.size)
    (down : ∀ i o, full[i]? = some o → listed.getD i false = true → ∀ e ∈ o.after, Region.binds .any e = true → listed.getD e.on false = true) {j : Nat} :
    ∀ (m k : Nat), k < m → listed.getD k false = true → (A.getD k 0).testBit j = true → j < k → listed.getD j false = true := by
  intro m
  induction m with
  | zero => intro k hk; omega
  | succ m ih =>
    intro k hk hlk hAk hjk
    have hks : k < full.size := by
      rcases Nat.lt_or_ge k full.size with h' | h'
      · exact h'
      · rw [Array.getD_eq_getD_getElem?, Array.getElem?_eq_none (by omega)] at hlk; cases hlk
    obtain ⟨ok, hok⟩ : ∃ ok, full[k]? = some ok := ⟨_, Array.getElem?_eq_getElem hks⟩
    obtain ⟨e, he, hb, hor⟩ := hq.anc k ok hok j hjk hAk
    have hle := down k ok hok hlk e he hb
    rcases hor with h' | ⟨hlt, hA'⟩
    · rw [← h']; exact hle
    · exact ih e.on (by have := hq.down k ok hok e he hb; omega) hle hA' hlt

/-- Whatever order is drawn, by what holds of the places that are left. -/
theorem wpAny_inv {full : Array Oper} {A : Array Nat} (hq : Downs full A) {Q : Exit → Act → World → Prop} (Inv : List Nat → Act → World → Prop) (hQ : ∀ a w, Inv [] a w → Q .normal a w)
    (hstep : ∀ l1 i l2 o a w, full[i]? = some o → H w → (l1 ++ i :: l2).Pairwise (· < ·) → (∀ j ∈ l1, (A.getD i 0).testBit j = false) → Inv (l1 ++ i :: l2) a w → s1 P isI isS hs H full o (Inv (l1 ++ l2)) a w) :
    ∀ (fuel : Nat) (listed : Array Bool) (l : List Nat) (a : Act) (w : World), H w → listed.size = full.size → l.length ≤ fuel → l.Pairwise (· < ·) → (∀ i, i ∈ l ↔ i < full.size ∧ listed.getD i false = false) →
      (∀ i o, full[i]? = some o → listed.getD i false = true → ∀ e ∈ o.after, Region.binds .any e = true → listed.getD e.on false = true) →
      Inv l a w → wpAny P .any full Q fuel listed a w := by
  intro fuel
  have start : ∀ (listed : Array Bool) (l : List Nat) (a : Act) (w : World), listed.size = full.size → l.Pairwise (· < ·) → (∀ i, i ∈ l ↔ i < full.size ∧ listed.getD i false = false) → Inv l a w →
      Region.ready .any full listed = [] → Q .normal a w := by
    intro listed l a w hsz hp hl h hr
    cases l with
    | nil => exact hQ _ _ h
    | cons i r =>
      exfalso
      have hi := (hl i).1 (by simp)
      obtain ⟨o, ho⟩ : ∃ o, full[i]? = some o := ⟨_, Array.getElem?_eq_getElem hi.1⟩
      have : i ∈ Region.ready .any full listed := by
        rw [mem_ready]
        refine ⟨?_, o, ho, fun e he hb => ?_⟩
        · have h2 := hi.2
          rw [Array.getD_eq_getD_getElem?, Array.getElem?_eq_getElem (by omega)] at h2 ⊢
          simpa using h2
        · have hlt := hq.down i o ho e he hb
          cases hle : listed.getD e.on false with
          | true => rfl
          | false =>
            have := (hl e.on).2 ⟨by omega, hle⟩
            rcases List.mem_cons.1 this with h' | h'
            · omega
            · have := List.rel_of_pairwise_cons hp h'; omega
      rw [hr] at this
      cases this
  induction fuel with
  | zero =>
    intro listed l a w hw hsz hlen hp hl hd h
    have hnil : l = [] := List.eq_nil_of_length_eq_zero (by omega)
    subst hnil
    refine ⟨?_, hQ _ _ h⟩
    cases hr : Region.ready .any full listed with
    | nil => rfl
    | cons i r =>
      exfalso
      have hi : i ∈ Region.ready .any full listed := by rw [hr]; simp
      have := (hl i).2 (ready_unlisted hsz hi)
      cases this
  | succ fuel ih =>
    intro listed l a w hw hsz hlen hp hl hd h
    refine ⟨start listed l a w hsz hp hl h, fun i hi => ?_⟩
    obtain ⟨hlt, hun⟩ := ready_unlisted hsz hi
    obtain ⟨_, o, ho, hall⟩ := mem_ready.1 hi
    obtain ⟨l1, l2, rfl⟩ := List.append_of_mem ((hl i).2 ⟨hlt, hun⟩)
    have hfree : ∀ j ∈ l1, (A.getD i 0).testBit j = false := fun j hj => by
      have hji : j < i := (List.pairwise_append.1 hp).2.2 j hj i (by simp)
      have hju := ((hl j).1 (by simp [hj])).2
      cases hA : (A.getD i 0).testBit j with
      | false => rfl
      | true =>
        exfalso
        obtain ⟨e, he, hb, hor⟩ := hq.anc i o ho j hji hA
        have hle := hall e he hb
        have : listed.getD j false = true := by
          rcases hor with h' | ⟨hlt', hA'⟩
          · rw [← h']; exact hle
          · exact downs_anc hq hsz hd (e.on + 1) e.on (by omega) hle hA' hlt'
        rw [hju] at this
        cases this
    refine wpOp_of_s1 (isI := isI) (isS := isS) (hs := hs) hw (fun a' w' hw' k => ?_) ho (hstep l1 i l2 o a w ho hw hp hfree h)
    have hp1 := List.pairwise_append.1 hp
    have hp2 := List.pairwise_cons.1 hp1.2.1
    refine ih _ (l1 ++ l2) a' w' hw' (by simpa using hsz) (by simp at hlen ⊢; omega) (List.pairwise_append.2 ⟨hp1.1, hp2.2, fun x hx y hy => hp1.2.2 x hx y (by simp [hy])⟩) (fun j => ?_) ?_ k
    · by_cases hji : j = i
      · subst hji
        constructor
        · intro hm
          exfalso
          rcases List.mem_append.1 hm with h' | h'
          · have := hp1.2.2 j h' j (by simp); omega
          · have := hp2.1 j h'; omega
        · rintro ⟨_, h'⟩
          rw [Array.getD_eq_getD_getElem?, Array.getElem?_setIfInBounds_self_of_lt (by omega)] at h'
          cases h'
      · rw [getD_set_ne false (Ne.symm hji), ← hl j]
        simp [hji]
    · intro k' ok hok hlk e he hb
      refine getD_set_true ?_
      by_cases hki : k' = i
      · subst hki
        rw [ho] at hok
        injection hok with hok
        subst hok
        exact hall e he hb
      · rw [getD_set_ne false (Ne.symm hki)] at hlk
        exact hd k' ok hok hlk e he hb

theorem ss_apnd {full : Array Oper} {K : Act → World → Prop} : ∀ (l1 l2 : List Nat) (a : Act) (w : World), ss P isI isS hs H full K (l1 ++ l2) a w ↔ ss P isI isS hs H full (fun a w => ss P isI isS hs H full K l2 a w) l1 a w
  | [], l2, a, w => Iff.rfl
  | i :: l1, l2, a, w => by
    simp only [List.cons_append, ss]
    have : (ss P isI isS hs H full K (l1 ++ l2)) = ss P isI isS hs H full (fun a w => ss P isI isS hs H full K l2 a w) l1 := by
      funext a w; exact propext (ss_apnd l1 l2 a w)
    rw [this]
/-- An operation is brought to the front, whatever comes behind. -/
theorem ss_ahead {full : Array Oper} {K : Act → World → Prop} (hsel : Region.noSelect full = true) {i : Nat} {o : Oper} (ho : full[i]? = some o) : ∀ (l1 : List Nat) (a : Act) (w : World),
    (∀ j ∈ l1, free isI isS hs full j i = true) → H w → ss P isI isS hs H full (s1 P isI isS hs H full o K) l1 a w → s1 P isI isS hs H full o (ss P isI isS hs H full K l1) a w
  | [], a, w, _, _, h => h
  | j :: l1, a, w, hf, hw, h => by
    have hj := hf j (by simp)
    unfold free at hj
    cases hoj : full[j]? with
    | none => rw [hoj] at hj; cases hj
    | some x =>
      rw [hoj, ho] at hj
      simp only [Bool.and_eq_true] at hj
      simp only [ss, hoj] at h ⊢
      exact s1_swap hw hj.1 hj.2 (fun cs b => Region.noSelect_spec hsel j x cs b hoj) (fun cs b => Region.noSelect_spec hsel i o cs b ho)
        (s1_mono hw (fun a w hw' k => ss_ahead hsel ho l1 a w (fun j' hj' => hf j' (by simp [hj'])) hw' k) h)

/-- An operation that looks at temporaries alone: two ways behind it are one. -/
theorem s1_both {full : Array Oper} {o : Oper} {K K' : Act → World → Prop} {a : Act} {w : World} (hc : clsO isI isS hs o = .p) (h : s1 P isI isS hs H full o K a w) (h' : s1 P isI isS hs H full o K' a w) : s1 P isI isS hs H full o (fun a w => K a w ∧ K' a w) a w := by
  unfold s1 at *
  split
  · rename_i hw
    rw [if_pos hw] at h h'
    rw [hc] at h h' ⊢
    obtain ⟨v, hv, k⟩ := h
    obtain ⟨u, hu, k'⟩ := h'
    have : u = v := by
      have e := hv w
      rw [hu w] at e
      injection e with e
      injection e
    subst this
    exact ⟨u, hv, k, k'⟩
  · rename_i hw
    rw [if_neg hw] at h h'
    exact ⟨h, h'⟩

def clsAt (isI isS : TypeId → Bool) (hs : List Nat) (full : Array Oper) (k : Nat) : Bool := match full[k]? with
  | some o => match clsO isI isS hs o with
    | .p => true
    | _ => false
  | none => false

def seqOK3 (isI isS : TypeId → Bool) (hs : List Nat) (j0 i0 : Nat) (full : Array Oper) (A : Array Nat) : Bool :=
  Region.noSelect full && decide (j0 < i0) && decide (i0 < full.size) && (List.range full.size).all fun i =>
    match full[i]? with
    | none => false
    | some o =>
      (o.after.all fun e => !Region.binds .any e || decide (e.on < i)) &&
      ((List.range i).all fun j =>
        if (A.getD i 0).testBit j then o.after.any fun e => Region.binds .any e && (e.on == j || (decide (j < e.on) && (A.getD e.on 0).testBit j))
        else (Nat.beq j j0 && Nat.beq i i0) || free isI isS hs full j i) &&
      (if j0 < i then if i < i0 then free isI isS hs full i j0 && clsAt isI isS hs full i else if i0 < i then (A.getD i 0).testBit j0 || (A.getD i 0).testBit i0 else true else true)

structure SeqOK3 (isI isS : TypeId → Bool) (hs : List Nat) (j0 i0 : Nat) (full : Array Oper) (A : Array Nat) : Prop where
  d : Downs full A
  lt : j0 < i0
  sz : i0 < full.size
  fre : ∀ i o, full[i]? = some o → ∀ j, j < i → (A.getD i 0).testBit j = false → (j = j0 ∧ i = i0) ∨ free isI isS hs full j i = true
  mid : ∀ i o, full[i]? = some o → j0 < i → i < i0 → free isI isS hs full i j0 = true ∧ clsO isI isS hs o = .p
  post : ∀ i o, full[i]? = some o → i0 < i → (A.getD i 0).testBit j0 = true ∨ (A.getD i 0).testBit i0 = true

theorem seqOK3_spec {j0 i0 : Nat} {full : Array Oper} {A : Array Nat} (h : seqOK3 isI isS hs j0 i0 full A = true) : SeqOK3 isI isS hs j0 i0 full A := by
  unfold seqOK3 at h
  rw [Bool.and_eq_true, Bool.and_eq_true, Bool.and_eq_true] at h
  have hlt : j0 < i0 := by simpa using h.1.1.2
  have hall : ∀ i o, full[i]? = some o → ((o.after.all fun e => !Region.binds .any e || decide (e.on < i)) = true ∧
      ((List.range i).all fun j => if (A.getD i 0).testBit j then o.after.any fun e => Region.binds .any e && (e.on == j || (decide (j < e.on) && (A.getD e.on 0).testBit j))
        else (Nat.beq j j0 && Nat.beq i i0) || free isI isS hs full j i) = true) ∧
      (if j0 < i then if i < i0 then free isI isS hs full i j0 && clsAt isI isS hs full i else if i0 < i then (A.getD i 0).testBit j0 || (A.getD i 0).testBit i0 else true else true) = true := fun i o ho => by
    have hlt : i < full.size := (Array.getElem?_eq_some_iff.1 ho).1
    have hi := List.all_eq_true.1 h.2 i (List.mem_range.2 hlt)
    rw [ho] at hi
    simp only [Bool.and_eq_true] at hi
    exact hi
  refine ⟨⟨h.1.1.1, fun i o ho e he hb => ?_, fun i o ho j hj hA => ?_⟩, hlt, by simpa using h.1.2, fun i o ho j hj hA => ?_, fun i o ho h1 h2 => ?_, fun i o ho h1 => ?_⟩
  · have := Array.all_eq_true_iff_forall_mem.1 (hall i o ho).1.1 e he
    simpa [hb] using this
  · have := List.all_eq_true.1 (hall i o ho).1.2 j (List.mem_range.2 hj)
    rw [if_pos hA] at this
    obtain ⟨e, he, hh⟩ := Array.any_eq_true'.1 this
    simp only [Bool.and_eq_true, Bool.or_eq_true, beq_iff_eq, decide_eq_true_eq] at hh
    exact ⟨e, he, hh.1, hh.2⟩
  · have := List.all_eq_true.1 (hall i o ho).1.2 j (List.mem_range.2 hj)
    rw [if_neg (by rw [hA]; decide)] at this
    simp only [Bool.or_eq_true, Bool.and_eq_true] at this
    exact this.imp (fun hh => ⟨Nat.eq_of_beq_eq_true hh.1, Nat.eq_of_beq_eq_true hh.2⟩) id
  · have := (hall i o ho).2
    rw [if_pos h1, if_pos h2, Bool.and_eq_true] at this
    refine ⟨this.1, ?_⟩
    have h3 := this.2
    unfold clsAt at h3
    rw [ho] at h3
    cases hc : clsO isI isS hs o with
    | p => rfl
    | _ => simp only [hc] at h3; cases h3
  · have := (hall i o ho).2
    rw [if_pos (by omega), if_neg (by omega), if_pos h1, Bool.or_eq_true] at this
    exact this

/-- What holds of the places that are left: both orders, as long as neither of the pair is run. -/
def Inv3 (P : Program) (isI isS : TypeId → Bool) (hs : List Nat) (H : World → Prop) (full : Array Oper) (K : Act → World → Prop) (j0 i0 : Nat) (l : List Nat) (a : Act) (w : World) : Prop :=
  (¬ (j0 ∈ l ∧ i0 ∈ l) ∧ ss P isI isS hs H full K l a w) ∨
  ∃ pre mid post, l = pre ++ j0 :: (mid ++ i0 :: post) ∧ ss P isI isS hs H full (fun a w => ss P isI isS hs H full K (j0 :: (mid ++ i0 :: post)) a w ∧ ss P isI isS hs H full K (mid ++ i0 :: j0 :: post) a w) pre a w

theorem inv3_step {full : Array Oper} {A : Array Nat} {K : Act → World → Prop} {j0 i0 : Nat} (hq : SeqOK3 isI isS hs j0 i0 full A) (l1 : List Nat) (i : Nat) (l2 : List Nat) (o : Oper) (a : Act) (w : World) (ho : full[i]? = some o) (hw : H w) (hp : (l1 ++ i :: l2).Pairwise (· < ·))
    (hn : ∀ j ∈ l1, (A.getD i 0).testBit j = false) (h : Inv3 P isI isS hs H full K j0 i0 (l1 ++ i :: l2) a w) : s1 P isI isS hs H full o (Inv3 P isI isS hs H full K j0 i0 (l1 ++ l2)) a w := by
  have hlt : ∀ j ∈ l1, j < i := fun j hj => (List.pairwise_append.1 hp).2.2 j hj i (by simp)
  have hfr : ∀ j ∈ l1, ¬ (j = j0 ∧ i = i0) → free isI isS hs full j i = true := fun j hj hne => (hq.fre i o ho j (hlt j hj) (hn j hj)).resolve_left hne
  have hji := hq.lt
  rcases h with ⟨hnb, h⟩ | ⟨pre, mid, post, he, h⟩
  · refine s1_mono hw (fun a w _ k => .inl ⟨fun hc => hnb ?_, k⟩) (ss_front hq.d.sel ho l2 l1 a w (fun j hj => hfr j hj fun hc => hnb ?_) hw h)
    · exact ⟨by have := hc.1; simp at this ⊢; rcases this with h' | h' <;> simp [h'], by have := hc.2; simp at this ⊢; rcases this with h' | h' <;> simp [h']⟩
    · obtain ⟨rfl, rfl⟩ := hc
      exact ⟨by simp [hj], by simp⟩
  · rw [he] at hp
    have hmem : i ∈ pre ++ j0 :: (mid ++ i0 :: post) := by rw [← he]; simp
    have hpp := List.pairwise_append.1 hp
    have hpj := List.pairwise_cons.1 hpp.2.1
    have hpm := List.pairwise_append.1 hpj.2
    have hpi := List.pairwise_cons.1 hpm.2.1
    -- where the operation stands
    have split : ∀ x y, pre ++ j0 :: (mid ++ i0 :: post) = x ++ i :: y → l1 = x ∧ l2 = y := by
      intro x y hxy
      rw [hxy] at hp he
      have hpx := List.pairwise_append.1 hp
      have hp0 : (l1 ++ i :: l2).Pairwise (· < ·) := by rw [he]; exact hp
      have hp1 := List.pairwise_append.1 hp0
      have aux : ∀ (u v x y : List Nat), (∀ j ∈ u, j < i) → (∀ j ∈ x, j < i) → u ++ i :: v = x ++ i :: y → u = x ∧ v = y := by
        intro u
        induction u with
        | nil =>
          intro v x y _ hx e
          cases x with
          | nil => simp at e; exact ⟨rfl, e⟩
          | cons b r => simp at e; have := hx b (by simp); omega
        | cons b r ih =>
          intro v x y hu hx e
          cases x with
          | nil => simp at e; have := hu b (by simp); omega
          | cons c s =>
            simp at e
            obtain ⟨h1, h2⟩ := ih v s y (fun j hj => hu j (by simp [hj])) (fun j hj => hx j (by simp [hj])) e.2
            exact ⟨by rw [e.1, h1], h2⟩
      exact aux l1 l2 x y (fun j hj => hp1.2.2 j hj i (by simp)) (fun j hj => hpx.2.2 j hj i (by simp)) he
    rcases List.mem_append.1 hmem with hm | hm
    · -- ahead of the pair
      obtain ⟨x, y, rfl⟩ := List.append_of_mem hm
      obtain ⟨rfl, rfl⟩ := split x (y ++ j0 :: (mid ++ i0 :: post)) (by simp)
      have hij : i < j0 := hpp.2.2 i (by simp) j0 (by simp)
      refine s1_mono hw (fun a w _ k => .inr ⟨l1 ++ y, mid, post, by simp, k⟩) (ss_front hq.d.sel ho y l1 a w (fun j hj => hfr j hj (by omega)) hw h)
    · rcases List.mem_cons.1 hm with rfl | hm
      · -- the first of the pair
        obtain ⟨rfl, rfl⟩ := split pre (mid ++ i0 :: post) rfl
        have h1 := ss_app (H := H) l1 _ a w hw (fun a w _ k => k.1) h
        have h2 := (ss_apnd l1 (i :: (mid ++ i0 :: post)) a w).2 h1
        refine s1_mono hw (fun a w _ k => .inl ⟨fun hc => ?_, k⟩) (ss_front hq.d.sel ho _ l1 a w (fun j hj => hfr j hj (by omega)) hw h2)
        rcases List.mem_append.1 hc.1 with h' | h'
        · have := hpp.2.2 i h' i (by simp); omega
        · have := hpj.1 i h'; omega
      · rcases List.mem_append.1 hm with hm | hm
        · -- between
          obtain ⟨x, y, rfl⟩ := List.append_of_mem hm
          obtain ⟨rfl, rfl⟩ := split (pre ++ j0 :: x) (y ++ i0 :: post) (by simp)
          have h1 : j0 < i := hpj.1 i (by simp)
          have h2 : i < i0 := hpm.2.2 i (by simp) i0 (by simp)
          obtain ⟨_, hcp⟩ := hq.mid i o ho h1 h2
          have h3 := ss_app (H := H) pre (s1 P isI isS hs H full o (fun a w => ss P isI isS hs H full K (j0 :: ((x ++ y) ++ i0 :: post)) a w ∧ ss P isI isS hs H full K ((x ++ y) ++ i0 :: j0 :: post) a w)) a w hw (fun a w hw' k => by
            refine s1_both hcp ?_ ?_
            · have k1 := k.1
              rw [show j0 :: ((x ++ i :: y) ++ i0 :: post) = (j0 :: x) ++ i :: (y ++ i0 :: post) from by simp] at k1
              have := ss_front hq.d.sel ho _ (j0 :: x) a w (fun j hj => hfr j (by simp at hj ⊢; rcases hj with h' | h' <;> simp [h']) (by omega)) hw' k1
              rw [show j0 :: ((x ++ y) ++ i0 :: post) = (j0 :: x) ++ (y ++ i0 :: post) from by simp]
              exact this
            · have k1 := k.2
              rw [show (x ++ i :: y) ++ i0 :: j0 :: post = x ++ i :: (y ++ i0 :: j0 :: post) from by simp] at k1
              have := ss_front hq.d.sel ho _ x a w (fun j hj => hfr j (by simp [hj]) (by omega)) hw' k1
              rw [show (x ++ y) ++ i0 :: j0 :: post = x ++ (y ++ i0 :: j0 :: post) from by simp]
              exact this) h
          exact s1_mono hw (fun a w _ k => .inr ⟨pre, x ++ y, post, by simp, k⟩) (ss_ahead hq.d.sel ho pre a w (fun j hj => hfr j (by simp [hj]) (by omega)) hw h3)
        · rcases List.mem_cons.1 hm with rfl | hm
          · -- the second of the pair
            obtain ⟨rfl, rfl⟩ := split (pre ++ j0 :: mid) post (by simp)
            have hj0 : ∃ oj, full[j0]? = some oj := ⟨_, Array.getElem?_eq_getElem (by have := hq.sz; omega)⟩
            obtain ⟨oj, hoj⟩ := hj0
            have h1 := ss_app (H := H) pre _ a w hw (fun a w _ k => k.2) h
            have h2 := (ss_apnd pre (mid ++ i :: j0 :: l2) a w).2 h1
            rw [← List.append_assoc] at h2
            have h3 := ss_front hq.d.sel ho _ (pre ++ mid) a w (fun j hj => hfr j (by simp at hj ⊢; rcases hj with h' | h' <;> simp [h']) (fun hc => by
              obtain ⟨rfl, _⟩ := hc
              rcases List.mem_append.1 hj with h' | h'
              · have := hpp.2.2 j h' j (by simp); omega
              · have := hpj.1 j (by simp [h']); omega)) hw h2
            refine s1_mono hw (fun a w hw' k => .inl ⟨fun hc => ?_, ?_⟩) h3
            · have := hc.2
              simp at this
              rcases this with h' | h' | h' | h'
              · have := hpp.2.2 i h' i (by simp); omega
              · omega
              · have := hpm.2.2 i h' i (by simp); omega
              · have := hpi.1 i h'; omega
            · rw [List.append_assoc] at k
              have k1 := (ss_apnd pre (mid ++ j0 :: l2) a w).1 k
              have k2 := ss_app (H := H) pre (fun a w => ss P isI isS hs H full K (j0 :: (mid ++ l2)) a w) a w hw' (fun a w hw'' k => by
                have := ss_front hq.d.sel hoj _ mid a w (fun j hj => by
                  have hj1 : j0 < j := hpj.1 j (by simp [hj])
                  have hj2 : j < i := hpm.2.2 j hj i (by simp)
                  obtain ⟨oo, hoo⟩ : ∃ oo, full[j]? = some oo := ⟨_, Array.getElem?_eq_getElem (by have := hq.sz; omega)⟩
                  exact (hq.mid j oo hoo hj1 hj2).1) hw'' k
                simp only [ss, hoj]
                exact this) k1
              rw [show (pre ++ j0 :: mid) ++ l2 = pre ++ (j0 :: (mid ++ l2)) from by simp]
              exact (ss_apnd pre _ a w).2 k2
          · -- behind the pair
            exfalso
            obtain ⟨x, y, rfl⟩ := List.append_of_mem hm
            obtain ⟨rfl, rfl⟩ := split (pre ++ j0 :: (mid ++ i0 :: x)) y (by simp)
            have h1 : i0 < i := hpi.1 i (by simp)
            rcases hq.post i o ho h1 with h' | h'
            · rw [hn j0 (by simp)] at h'; cases h'
            · rw [hn i0 (by simp)] at h'; cases h'
theorem ss_of_xsM {N : Nat} {full : Array Oper} {K : Env → World → Prop} (hsel : Region.noSelect full = true) (hd : ∀ (i : Nat) (o : Oper), full[i]? = some o → ∀ t, o.dst = some t → t < N) :
    ∀ (l : List Oper) (ix : List Nat) (env : Env) (a : Act) (w : World), ix.map (full[·]?) = l.map some → H w → Fits N env a → xs P isI isS hs H full K l env w →
      ss P isI isS hs H full (fun a' w' => ∃ env', Fits N env' a' ∧ K env' w') ix a w
  | [], [], env, a, w, _, _, hf, h => ⟨env, hf, h⟩
  | [], _ :: _, _, _, _, e, _, _, _ => by simp at e
  | _ :: _, [], _, _, _, e, _, _, _ => by simp at e
  | o :: l, k :: ix, env, a, w, e, hw, hf, h => by
    rw [List.map_cons, List.map_cons, List.cons.injEq] at e
    have h0 : full[k]? = some o := e.1
    obtain ⟨g, hg, ht, hff⟩ := h
    have hwt := gv_wanted hf hg
    simp only [ss, h0]
    unfold s1
    rw [hwt]
    cases g with
    | true =>
      obtain ⟨ho, ha⟩ := ht rfl
      rw [if_pos rfl, ← exec_eq hf (fun cs b => Region.noSelect_spec hsel k o cs b h0) ho]
      exact acts_mono hw (fun v w' hw' hx => ss_of_xsM hsel hd l ix _ _ w' e.2 hw' (hf.put o.dst (hd k o h0) v) hx) ha
    | false =>
      rw [if_neg (by decide)]
      exact ss_of_xsM hsel hd l ix _ _ w e.2 hw (hf.put o.dst (hd k o h0) undef) (hff rfl)
end

theorem map_range'_get {l : List Oper} : ∀ (n s : Nat), s + n ≤ l.length → (List.range' s n).map (l.toArray[·]?) = ((l.drop s).take n).map some
  | 0, s, _ => by simp
  | n + 1, s, h => by
    have hlt : s < l.length := by omega
    rw [List.range'_succ, List.map_cons, map_range'_get n (s + 1) (by omega), List.drop_eq_getElem_cons hlt, List.take_succ_cons, List.map_cons]
    simp [hlt]

/-- A region that draws, in which one pair of operations does not commute: behind the operations ahead of it, both orders. -/
theorem tdrawL {fn : Func} {R : Value → World → Prop} {k : List It} {id : Nat} {l : List Oper} {env : Env} {w : World} (j0 i0 : Nat) (hs : List Nat) (H : World → Prop) (hd : dstOK fn.ntmps l.toArray = true) (hq : seqOK3 isI isS hs j0 i0 l.toArray (Region.before l.toArray) = true) (hw : H w.drew)
    (h : xs Try.prog isI isS hs H l.toArray (fun env' w' => xs Try.prog isI isS hs H l.toArray (T Try.prog fn R k) (l.drop j0) env' w' ∧
      xs Try.prog isI isS hs H l.toArray (T Try.prog fn R k) ((l.drop (j0 + 1)).take (i0 - j0) ++ (l[j0]?).toList ++ l.drop (i0 + 1)) env' w') (l.take j0) env w.drew) :
    T Try.prog fn R (.code (.region id l.toArray true) :: k) env w := fun a ha => by
  obtain ⟨hs', hd⟩ := dstOK_spec hd
  have hq' := seqOK3_spec hq
  have hlt := hq'.lt
  have hsz : i0 < l.length := by simpa using hq'.sz
  have h1 := ss_of_xsM (N := fn.ntmps) hs' hd (l.take j0) (List.range' 0 j0) env a w.drew (by rw [map_range'_get _ _ (by omega)]; rfl) hw ha h
  have e1 : (List.range' j0 (l.length - j0)) = j0 :: (List.range' (j0 + 1) (i0 - j0 - 1) ++ i0 :: List.range' (i0 + 1) (l.length - i0 - 1)) := by
    have a1 : List.range' j0 (l.length - j0) = j0 :: List.range' (j0 + 1) (l.length - j0 - 1) := by
      rw [show l.length - j0 = (l.length - j0 - 1) + 1 from by omega, List.range'_succ]; rfl
    have a2 : List.range' i0 (l.length - i0) = i0 :: List.range' (i0 + 1) (l.length - i0 - 1) := by
      rw [show l.length - i0 = (l.length - i0 - 1) + 1 from by omega, List.range'_succ]; rfl
    rw [a1, ← a2]
    have := List.range'_append_1 (s := j0 + 1) (m := i0 - j0 - 1) (n := l.length - i0)
    rw [show j0 + 1 + (i0 - j0 - 1) = i0 from by omega] at this
    rw [this]
    congr 2; omega
  have h2 : Inv3 Try.prog isI isS hs H l.toArray (fun a' w' => ∃ env', Fits fn.ntmps env' a' ∧ T Try.prog fn R k env' w') j0 i0 (List.range l.length) a w.drew := by
    refine .inr ⟨List.range' 0 j0, List.range' (j0 + 1) (i0 - j0 - 1), List.range' (i0 + 1) (l.length - i0 - 1), ?_, ss_app _ _ a _ hw (fun a' w' hw' ⟨env', hf, hx⟩ => ⟨?_, ?_⟩) h1⟩
    · rw [← e1]
      have := List.range'_append_1 (s := 0) (m := j0) (n := l.length - j0)
      rw [Nat.zero_add] at this
      rw [this, List.range_eq_range']
      congr 1; omega
    · rw [← e1]
      refine ss_of_xsM (N := fn.ntmps) hs' hd (l.drop j0) _ env' a' w' ?_ hw' hf hx.1
      rw [map_range'_get _ _ (by omega), List.take_of_length_le (by rw [List.length_drop]; omega)]
    · refine ss_of_xsM (N := fn.ntmps) hs' hd _ _ env' a' w' ?_ hw' hf hx.2
      have a2 : List.range' (j0 + 1) (i0 - j0) = List.range' (j0 + 1) (i0 - j0 - 1) ++ [i0] := by
        have := List.range'_append_1 (s := j0 + 1) (m := i0 - j0 - 1) (n := 1)
        rw [show j0 + 1 + (i0 - j0 - 1) = i0 from by omega, show i0 - j0 - 1 + 1 = i0 - j0 from by omega] at this
        exact this.symm
      rw [show List.range' (j0 + 1) (i0 - j0 - 1) ++ i0 :: j0 :: List.range' (i0 + 1) (l.length - i0 - 1) = (List.range' (j0 + 1) (i0 - j0) ++ [j0]) ++ List.range' (i0 + 1) (l.length - i0 - 1) from by rw [a2]; simp]
      rw [List.map_append, List.map_append, map_range'_get _ _ (by omega), map_range'_get _ _ (by omega), List.map_append, List.map_append, List.take_of_length_le (l := l.drop (i0 + 1)) (by rw [List.length_drop]; omega)]
      congr 2
      simp [show j0 < l.length from by omega]
  refine wp_region_any mixed (wpAny_inv (isI := isI) (isS := isS) (hs := hs) (H := H) hq'.d _ (fun a' w' hI => ?_) (fun l1 i l2 o a w => inv3_step hq' l1 i l2 o a w) l.toArray.size _ (List.range l.length) a _ hw (by simp) (by simp) List.pairwise_lt_range (fun i => ?_) (fun i o ho hl => ?_) h2)
  · rcases hI with ⟨_, env', hf, ht⟩ | ⟨pre, mid, post, e, _⟩
    · exact ht a' hf
    · exfalso
      have := congrArg List.length e
      simp at this
  · simp [Array.getD_eq_getD_getElem?]; intro h; simp [h]
  · exfalso
    rw [Array.getD_eq_getD_getElem?, Array.getElem?_replicate] at hl
    split at hl <;> simp at hl
end Eng
end Go.Proofs.Ytighkjohpmlemaa
