/-
  A region in two parts: all operations of the first part are ordered ahead of all of the second; some reads of the first part are held while it runs. Guards, read off the list of a region's operations. A region in which one operation without forerunners (a new variable) may come at any time: it floats among the operations that change the world. A region that draws, with one pair of operations that do not commute: both orders of the pair are walked.
-/
import Derived.Test.YtalnkjpgnkfedaaGreatDoorEngC
/-! A region in two parts: all operations of the first part are ordered ahead of all of the second; some reads of the first part are held while it runs. -/
namespace Go.Proofs.YtalnkjpgnkfedaaGreatDoor
open Go.RowKit
namespace Eng

def seqOK2 (isI isS : TypeId → Bool) (hs : List Nat) (cut : Nat) (full : Array Oper) (A : Array Nat) : Bool :=
  Region.noSelect full && decide (cut ≤ full.size) && (List.range full.size).all fun i =>
    match full[i]? with
    | none => false
    | some o =>
      (o.after.all fun e => !Region.binds .any e || decide (e.on < i)) &&
      (List.range i).all fun j =>
        if (A.getD i 0).testBit j then o.after.any fun e => Region.binds .any e && (e.on == j || (decide (j < e.on) && (A.getD e.on 0).testBit j))
        else if i < cut then free isI isS hs full j i else decide (cut ≤ j) && free isI isS [] full j i

structure SeqOK2 (isI isS : TypeId → Bool) (hs : List Nat) (cut : Nat) (full : Array Oper) (A : Array Nat) : Prop where
  sel : Region.noSelect full = true
  le : cut ≤ full.size
  down : ∀ i o, full[i]? = some o → ∀ e ∈ o.after, Region.binds .any e = true → e.on < i
  anc : ∀ i o, full[i]? = some o → ∀ j, j < i → (A.getD i 0).testBit j = true → ∃ e ∈ o.after, Region.binds .any e = true ∧ (e.on = j ∨ (j < e.on ∧ (A.getD e.on 0).testBit j = true))
  fre : ∀ i o, full[i]? = some o → ∀ j, j < i → (A.getD i 0).testBit j = false → i < cut → free isI isS hs full j i = true
  fre2 : ∀ i o, full[i]? = some o → ∀ j, j < i → (A.getD i 0).testBit j = false → cut ≤ i → cut ≤ j ∧ free isI isS [] full j i = true

section
variable {P : Program} {isI isS : TypeId → Bool} {hs : List Nat} {H : World → Prop} {cut : Nat}

theorem seqOK2_spec {full : Array Oper} {A : Array Nat} (h : seqOK2 isI isS hs cut full A = true) : SeqOK2 isI isS hs cut full A := by
  unfold seqOK2 at h
  rw [Bool.and_eq_true, Bool.and_eq_true] at h
  have hall : ∀ i o, full[i]? = some o → (o.after.all fun e => !Region.binds .any e || decide (e.on < i)) = true ∧
      ∀ j, j < i → (if (A.getD i 0).testBit j then o.after.any fun e => Region.binds .any e && (e.on == j || (decide (j < e.on) && (A.getD e.on 0).testBit j))
        else if i < cut then free isI isS hs full j i else decide (cut ≤ j) && free isI isS [] full j i) = true := fun i o ho => by
    have hlt : i < full.size := (Array.getElem?_eq_some_iff.1 ho).1
    have hi := List.all_eq_true.1 h.2 i (List.mem_range.2 hlt)
    rw [ho] at hi
    simp only [Bool.and_eq_true] at hi
    exact ⟨hi.1, fun j hj => List.all_eq_true.1 hi.2 j (List.mem_range.2 hj)⟩
  refine ⟨h.1.1, by simpa using h.1.2, fun i o ho e he hb => ?_, fun i o ho j hj hA => ?_, fun i o ho j hj hA hc => ?_, fun i o ho j hj hA hc => ?_⟩
  · have := Array.all_eq_true_iff_forall_mem.1 (hall i o ho).1 e he
    simpa [hb] using this
  · have := (hall i o ho).2 j hj
    rw [if_pos hA] at this
    obtain ⟨e, he, hh⟩ := Array.any_eq_true'.1 this
    simp only [Bool.and_eq_true, Bool.or_eq_true, beq_iff_eq, decide_eq_true_eq] at hh
    exact ⟨e, he, hh.1, hh.2⟩
  · have := (hall i o ho).2 j hj
    rw [if_neg (by rw [hA]; decide), if_pos hc] at this
    exact this
  · have := (hall i o ho).2 j hj
    rw [if_neg (by rw [hA]; decide), if_neg (by omega), Bool.and_eq_true] at this
    exact ⟨by simpa using this.1, this.2⟩

theorem listed_anc2 {full : Array Oper} {A : Array Nat} (hq : SeqOK2 isI isS hs cut full A) {listed : Array Bool} (hsz : listed.size = full.size)
    (down : ∀ i o, full[i]? = some o → listed.getD i false = true → ∀ e ∈ o.after, Region.binds .any e = true → listed.getD e.on false = true) {j : Nat} :
    ∀ (m k : Nat), k < m → listed.getD k false = true → (A.getD k 0).testBit j = true → j < k → listed.getD j false = true := by
  intro m
  induction m with
  | zero => intro k hk; omega
  | succ m ih =>
    intro k hk hlk hAk hjk
    have hks : k < full.size := by
      rcases Nat.lt_or_ge k full.size with h' | h'
      · exact h'
      · rw [Array.getD_eq_getD_getElem?, Array.getElem?_eq_none (by omega)] at hlk; cases hlk
    obtain ⟨ok, hok⟩ : ∃ ok, full[k]? = some ok := ⟨_, Array.getElem?_eq_getElem hks⟩
    obtain ⟨e, he, hb, hor⟩ := hq.anc k ok hok j hjk hAk
    have hle := down k ok hok hlk e he hb
    rcases hor with h' | ⟨hlt, hA'⟩
    · rw [← h']; exact hle
    · exact ih e.on (by have := hq.down k ok hok e he hb; omega) hle hA' hlt

/-- The two parts: l1 is left of the first, l2 of the second. -/
def ss2 (P : Program) (isI isS : TypeId → Bool) (hs : List Nat) (H : World → Prop) (full : Array Oper) (K : Act → World → Prop) (l1 l2 : List Nat) (a : Act) (w : World) : Prop :=
  ss P isI isS hs H full (fun a w => ss P isI isS [] noH full K l2 a w) l1 a w

theorem ready_unlisted {full : Array Oper} {listed : Array Bool} {i : Nat} (hsz : listed.size = full.size) (hi : i ∈ Region.ready .any full listed) : i < full.size ∧ listed.getD i false = false := by
  obtain ⟨h0, o, ho, _⟩ := mem_ready.1 hi
  have hlt : i < full.size := (Array.getElem?_eq_some_iff.1 ho).1
  refine ⟨hlt, ?_⟩
  rw [Array.getD_eq_getD_getElem?, Array.getElem?_eq_getElem (by omega)] at h0 ⊢
  simpa using h0

theorem wpAny_of_ss2 {full : Array Oper} {A : Array Nat} (hq : SeqOK2 isI isS hs cut full A) {K : Act → World → Prop} {Q : Exit → Act → World → Prop} (hQ : ∀ a w, K a w → Q .normal a w) :
    ∀ (fuel : Nat) (listed : Array Bool) (l1 l2 : List Nat) (a : Act) (w : World), (l1 ≠ [] → H w) → listed.size = full.size → (l1 ++ l2).length ≤ fuel → (l1 ++ l2).Pairwise (· < ·) → (∀ i ∈ l1, i < cut) → (∀ i ∈ l2, cut ≤ i) → (∀ i, i ∈ l1 ++ l2 ↔ i < full.size ∧ listed.getD i false = false) →
      (∀ i o, full[i]? = some o → listed.getD i false = true → ∀ e ∈ o.after, Region.binds .any e = true → listed.getD e.on false = true) →
      ss2 P isI isS hs H full K l1 l2 a w → wpAny P .any full Q fuel listed a w := by
  intro fuel
  have start : ∀ (listed : Array Bool) (l : List Nat), listed.size = full.size → l.Pairwise (· < ·) → (∀ i, i ∈ l ↔ i < full.size ∧ listed.getD i false = false) →
      Region.ready .any full listed = [] → l = [] := by
    intro listed l hsz hp hl hr
    cases l with
    | nil => rfl
    | cons i r =>
      exfalso
      have hi := (hl i).1 (by simp)
      obtain ⟨o, ho⟩ : ∃ o, full[i]? = some o := ⟨_, Array.getElem?_eq_getElem hi.1⟩
      have : i ∈ Region.ready .any full listed := by
        rw [mem_ready]
        refine ⟨?_, o, ho, fun e he hb => ?_⟩
        · have h2 := hi.2
          rw [Array.getD_eq_getD_getElem?, Array.getElem?_eq_getElem (by omega)] at h2 ⊢
          simpa using h2
        · have hlt := hq.down i o ho e he hb
          cases hle : listed.getD e.on false with
          | true => rfl
          | false =>
            have := (hl e.on).2 ⟨by omega, hle⟩
            rcases List.mem_cons.1 this with h' | h'
            · omega
            · have := List.rel_of_pairwise_cons hp h'; omega
      rw [hr] at this
      cases this
  induction fuel with
  | zero =>
    intro listed l1 l2 a w hw hsz hlen hp hb1 hb2 hl hd h
    have hnil : l1 ++ l2 = [] := List.eq_nil_of_length_eq_zero (by omega)
    obtain ⟨rfl, rfl⟩ := List.append_eq_nil_iff.1 hnil
    refine ⟨?_, hQ _ _ h⟩
    cases hr : Region.ready .any full listed with
    | nil => rfl
    | cons i r =>
      exfalso
      have hi : i ∈ Region.ready .any full listed := by rw [hr]; simp
      have := (hl i).2 (ready_unlisted hsz hi)
      cases this
  | succ fuel ih =>
    intro listed l1 l2 a w hw hsz hlen hp hb1 hb2 hl hd h
    refine ⟨fun hr => ?_, fun i hi => ?_⟩
    · obtain ⟨rfl, rfl⟩ := List.append_eq_nil_iff.1 (start listed _ hsz hp hl hr)
      exact hQ _ _ h
    obtain ⟨hlt, hun⟩ := ready_unlisted hsz hi
    obtain ⟨_, o, ho, hall⟩ := mem_ready.1 hi
    have notAnc : ∀ j, j < i → listed.getD j false = false → (A.getD i 0).testBit j = false := fun j hji hju => by
      cases hA : (A.getD i 0).testBit j with
      | false => rfl
      | true =>
        exfalso
        obtain ⟨e, he, hb, hor⟩ := hq.anc i o ho j hji hA
        have hle := hall e he hb
        have : listed.getD j false = true := by
          rcases hor with h' | ⟨hlt', hA'⟩
          · rw [← h']; exact hle
          · exact listed_anc2 hq hsz hd (e.on + 1) e.on (by omega) hle hA' hlt'
        rw [hju] at this
        cases this
    have unl : ∀ j, j ∈ l1 ++ l2 → listed.getD j false = false := fun j hj => ((hl j).1 hj).2
    have hd' : ∀ i' o', full[i']? = some o' → (listed.setIfInBounds i true).getD i' false = true → ∀ e ∈ o'.after, Region.binds .any e = true → (listed.setIfInBounds i true).getD e.on false = true := by
      intro k' ok hok hlk e he hb
      refine getD_set_true ?_
      by_cases hki : k' = i
      · subst hki
        rw [ho] at hok
        injection hok with hok
        subst hok
        exact hall e he hb
      · rw [getD_set_ne false (Ne.symm hki)] at hlk
        exact hd k' ok hok hlk e he hb
    have memb' : ∀ (x y : List Nat), l1 ++ l2 = x ++ i :: y → ∀ j, j ∈ x ++ y ↔ j < full.size ∧ (listed.setIfInBounds i true).getD j false = false := by
      intro x y hxy j
      rw [hxy] at hp hl
      have hp1 := List.pairwise_append.1 hp
      have hp2 := List.pairwise_cons.1 hp1.2.1
      by_cases hji : j = i
      · subst hji
        constructor
        · intro hm
          exfalso
          rcases List.mem_append.1 hm with h' | h'
          · have := hp1.2.2 j h' j (by simp); omega
          · have := hp2.1 j h'; omega
        · rintro ⟨_, h'⟩
          rw [Array.getD_eq_getD_getElem?, Array.getElem?_setIfInBounds_self_of_lt (by omega)] at h'
          cases h'
      · rw [getD_set_ne false (Ne.symm hji), ← hl j]
        simp [hji]
    rcases List.mem_append.1 ((hl i).2 ⟨hlt, hun⟩) with hm | hm
    · obtain ⟨x, y, rfl⟩ := List.append_of_mem hm
      have hic : i < cut := hb1 i (by simp)
      have hfree : ∀ j ∈ x, free isI isS hs full j i = true := fun j hj => by
        have hji : j < i := by
          rw [List.append_assoc] at hp
          exact (List.pairwise_append.1 hp).2.2 j hj i (by simp)
        exact hq.fre i o ho j hji (notAnc j hji (unl j (by simp [hj]))) hic
      refine wpOp_of_s1 (isI := isI) (isS := isS) (hs := hs) (hw (by simp)) (fun a' w' hw' k => ?_) ho (ss_front hq.sel ho y x a w hfree (hw (by simp)) h)
      have hxy : (x ++ i :: y) ++ l2 = x ++ i :: (y ++ l2) := by simp
      refine ih _ (x ++ y) l2 a' w' (fun _ => hw') (by simpa using hsz) (by simp at hlen ⊢; omega) ?_ (fun j hj => hb1 j (by rcases List.mem_append.1 hj with h' | h' <;> simp [h'])) hb2 (fun j => by have := memb' x (y ++ l2) hxy j; simpa using this) hd' k
      rw [hxy] at hp
      have hp1 := List.pairwise_append.1 hp
      have hp2 := List.pairwise_cons.1 hp1.2.1
      rw [List.append_assoc]
      exact List.pairwise_append.2 ⟨hp1.1, hp2.2, fun u hu v hv => hp1.2.2 u hu v (by simp [hv])⟩
    · have hic : cut ≤ i := hb2 i hm
      have hnil : l1 = [] := by
        cases l1 with
        | nil => rfl
        | cons j r =>
          exfalso
          have hjc := hb1 j (by simp)
          have hji : j < i := by omega
          have := hq.fre2 i o ho j hji (notAnc j hji (unl j (by simp))) hic
          omega
      subst hnil
      obtain ⟨x, y, rfl⟩ := List.append_of_mem hm
      rw [List.nil_append] at hp
      have hfree : ∀ j ∈ x, free isI isS [] full j i = true := fun j hj => by
        have hji : j < i := (List.pairwise_append.1 hp).2.2 j hj i (by simp)
        exact (hq.fre2 i o ho j hji (notAnc j hji (unl j (by simp [hj]))) hic).2
      refine wpOp_of_s1 (isI := isI) (isS := isS) (hs := []) (H := noH) trivial (fun a' w' _ k => ?_) ho (ss_front hq.sel ho y x a w hfree trivial h)
      have hp1 := List.pairwise_append.1 hp
      have hp2 := List.pairwise_cons.1 hp1.2.1
      exact ih _ [] (x ++ y) a' w' (fun e => absurd rfl e) (by simpa using hsz) (by simp at hlen ⊢; omega) (by simpa using List.pairwise_append.2 ⟨hp1.1, hp2.2, fun u hu v hv => hp1.2.2 u hu v (by simp [hv])⟩) (fun j hj => by cases hj)
        (fun j hj => hb2 j (by rcases List.mem_append.1 hj with h' | h' <;> simp [h'])) (fun j => by have := memb' x y (by simp) j; simpa using this) hd' k

theorem ss_app {full : Array Oper} {K : Act → World → Prop} : ∀ (l : List Nat) (K' : Act → World → Prop) (a : Act) (w : World), H w → (∀ a w, H w → K a w → K' a w) → ss P isI isS hs H full K l a w → ss P isI isS hs H full K' l a w
  | [], K', a, w, hw, hk, h => hk _ _ hw h
  | i :: l, K', a, w, hw, hk, h => by
    simp only [ss] at h ⊢
    split at h
    · exact h.elim
    · exact s1_mono hw (fun a w hw' k => ss_app l K' a w hw' hk k) h

theorem ss_of_xs2 {N : Nat} {full : Array Oper} {K : Env → World → Prop} (hsel : Region.noSelect full = true) (hd : ∀ (i : Nat) (o : Oper), full[i]? = some o → ∀ t, o.dst = some t → t < N) :
    ∀ (l : List Oper) (k : Nat) (env : Env) (a : Act) (w : World), (∀ j o, l[j]? = some o → full[k + j]? = some o) → H w → Fits N env a → xs P isI isS hs H full K l env w →
      ss P isI isS hs H full (fun a' w' => ∃ env', Fits N env' a' ∧ K env' w') (List.range' k l.length) a w
  | [], k, env, a, w, _, _, hf, h => ⟨env, hf, h⟩
  | o :: l, k, env, a, w, hl, hw, hf, h => by
    have h0 : full[k]? = some o := by simpa using (hl 0 o (by simp))
    have hl' : ∀ j o', l[j]? = some o' → full[k + 1 + j]? = some o' := fun j o' ho' => by have := hl (j + 1) o' (by simpa using ho'); simpa [Nat.add_assoc, Nat.add_comm 1 j] using this
    obtain ⟨g, hg, ht, hff⟩ := h
    simp only [List.length_cons, List.range'_succ, ss, h0]
    unfold s1
    rw [gv_wanted hf hg]
    cases g with
    | true =>
      obtain ⟨ho, ha⟩ := ht rfl
      rw [if_pos rfl, ← exec_eq hf (fun cs b => Region.noSelect_spec hsel k o cs b h0) ho]
      exact acts_mono hw (fun v w' hw' hx => ss_of_xs2 hsel hd l (k + 1) _ _ w' hl' hw' (hf.put o.dst (hd k o h0) v) hx) ha
    | false =>
      rw [if_neg (by decide)]
      exact ss_of_xs2 hsel hd l (k + 1) _ _ w hl' hw (hf.put o.dst (hd k o h0) undef) (hff rfl)

end

/-- A region that draws, in two parts. -/
theorem tdrawC {fn : Func} {R : Value → World → Prop} {k : List It} {id : Nat} {l : List Oper} {env : Env} {w : World} (cut : Nat) (hs : List Nat) (H : World → Prop) (hd : dstOK fn.ntmps l.toArray = true) (hq : seqOK2 isI isS hs cut l.toArray (Region.before l.toArray) = true) (hw : H w.drew)
    (h : xs Tryz.prog isI isS hs H l.toArray (fun env' w' => xs Tryz.prog isI isS [] noH l.toArray (T Tryz.prog fn R k) (l.drop cut) env' w') (l.take cut) env w.drew) :
    T Tryz.prog fn R (.code (.region id l.toArray true) :: k) env w := fun a ha => by
  obtain ⟨hs', hd⟩ := dstOK_spec hd
  have hq' := seqOK2_spec hq
  have hle : cut ≤ l.length := by simpa using hq'.le
  have h1 := ss_of_xs2 (N := fn.ntmps) hs' hd (l.take cut) 0 env a w.drew (fun j o ho => by
    rw [Nat.zero_add]
    have hj : j < cut := by
      have := (List.getElem?_eq_some_iff.1 ho).1
      rw [List.length_take] at this; omega
    rw [List.getElem?_take_of_lt hj] at ho
    simpa using ho) hw ha h
  rw [List.length_take, Nat.min_eq_left hle] at h1
  have h2 : ss2 Tryz.prog isI isS hs H l.toArray (fun a' w' => ∃ env', Fits fn.ntmps env' a' ∧ T Tryz.prog fn R k env' w') (List.range' 0 cut) (List.range' cut (l.length - cut)) a w.drew := by
    refine ss_app _ _ a _ hw (fun a' w' _ ⟨env', hf, hx⟩ => ?_) h1
    have := ss_of_xs2 (N := fn.ntmps) hs' hd (l.drop cut) cut env' a' w' (fun j o ho => by
      rw [List.getElem?_drop] at ho
      simpa using ho) trivial hf hx
    rwa [List.length_drop] at this
  refine wp_region_any mixed (wpAny_of_ss2 hq' (fun a' w' ⟨env', hf, ht⟩ => ht a' hf) l.toArray.size _ (List.range' 0 cut) (List.range' cut (l.length - cut)) a _ (fun _ => hw) (by simp) (by simp; omega) ?_ (fun i hi => by rw [List.mem_range'_1] at hi; omega) (fun i hi => by rw [List.mem_range'_1] at hi; omega) (fun i => ?_) (fun i o ho hl => ?_) h2)
  · have e : List.range' 0 cut ++ List.range' cut (l.length - cut) = List.range l.length := by
      have := List.range'_append_1 (s := 0) (m := cut) (n := l.length - cut)
      rw [Nat.zero_add] at this
      rw [this, List.range_eq_range']
      congr 1; omega
    rw [e]; exact List.pairwise_lt_range
  · rw [List.mem_append, List.mem_range'_1, List.mem_range'_1]
    simp [Array.getD_eq_getD_getElem?]
    constructor
    · intro hh
      have : i < l.length := by omega
      exact ⟨this, by simp [this]⟩
    · intro hh; omega
  · exfalso
    rw [Array.getD_eq_getD_getElem?, Array.getElem?_replicate] at hl
    split at hl <;> simp at hl

/-- Two labels. -/
def At2 {α β : Type} (l0 l1 : Nat) (E0 : α → Env) (I0 : α → World → Prop) (m0 : α → Nat) (E1 : β → Env) (I1 : β → World → Prop) (m1 : β → Nat) : Nat → Nat → Env → World → Prop :=
  fun l n env w => (l = l0 ∧ ∃ x, Sub (E0 x) env ∧ I0 x w ∧ m0 x = n) ∨ (l = l1 ∧ ∃ x, Sub (E1 x) env ∧ I1 x w ∧ m1 x = n)

theorem tscope2 {P : Program} {fn : Func} {R : Value → World → Prop} {k : List It} {env : Env} {w : World} {α β : Type} {c : Code} {ys0 ys1 : List It} (l0 l1 : Nat) (hne : l0 ≠ l1) (hf0 : after c l0 = some ys0) (hf1 : after c l1 = some ys1) (E0 : α → Env) (I0 : α → World → Prop) (m0 : α → Nat) (E1 : β → Env) (I1 : β → World → Prop) (m1 : β → Nat)
    (seg0 : ∀ x w, I0 x w → (∀ y w', I1 y w' → m1 y < m0 x → T P fn R (ys1 ++ .scp (Less (At2 l0 l1 E0 I0 m0 E1 I1 m1) (m0 x)) :: k) (E1 y) w') → T P fn R (ys0 ++ .scp (Less (At2 l0 l1 E0 I0 m0 E1 I1 m1) (m0 x)) :: k) (E0 x) w)
    (seg1 : ∀ x w, I1 x w → (∀ y w', I0 y w' → m0 y < m1 x → T P fn R (ys0 ++ .scp (Less (At2 l0 l1 E0 I0 m0 E1 I1 m1) (m1 x)) :: k) (E0 y) w') → T P fn R (ys1 ++ .scp (Less (At2 l0 l1 E0 I0 m0 E1 I1 m1) (m1 x)) :: k) (E1 x) w)
    (first : (∀ x w, I0 x w → T P fn R (ys0 ++ .scp (Some (At2 l0 l1 E0 I0 m0 E1 I1 m1)) :: k) (E0 x) w) → (∀ x w, I1 x w → T P fn R (ys1 ++ .scp (Some (At2 l0 l1 E0 I0 m0 E1 I1 m1)) :: k) (E1 x) w) → T P fn R (.code c :: .scp (Some (At2 l0 l1 E0 I0 m0 E1 I1 m1)) :: k) env w) :
    T P fn R (.code (.scope c) :: k) env w := by
  refine tscope (At2 l0 l1 E0 I0 m0 E1 I1 m1) ?_ ?_ ?_
  · rintro l n env w (⟨rfl, _⟩ | ⟨rfl, _⟩)
    · exact ⟨ys0, hf0⟩
    · exact ⟨ys1, hf1⟩
  · rintro n l ys' env w ha (⟨rfl, x, hs, hI, rfl⟩ | ⟨rfl, x, hs, hI, rfl⟩) hj
    · rw [hf0] at ha; injection ha with ha; subst ha
      exact tweak (seg0 x w hI fun y w' hy hlt => hj l1 ys1 (E1 y) w' hf1 ⟨m1 y, hlt, .inr ⟨rfl, y, fun _ _ h => h, hy, rfl⟩⟩) hs
    · rw [hf1] at ha; injection ha with ha; subst ha
      exact tweak (seg1 x w hI fun y w' hy hlt => hj l0 ys0 (E0 y) w' hf0 ⟨m0 y, hlt, .inl ⟨rfl, y, fun _ _ h => h, hy, rfl⟩⟩) hs
  · intro h
    exact first (fun x w hI => h l0 ys0 (E0 x) w hf0 ⟨m0 x, .inl ⟨rfl, x, fun _ _ h => h, hI, rfl⟩⟩) (fun x w hI => h l1 ys1 (E1 x) w hf1 ⟨m1 x, .inr ⟨rfl, x, fun _ _ h => h, hI, rfl⟩⟩)
end Eng
end Go.Proofs.YtalnkjpgnkfedaaGreatDoor

/-! Guards, read off the list of a region's operations. -/
namespace Go.Proofs.YtalnkjpgnkfedaaGreatDoor
open Go.RowKit
namespace Eng

/-- The slot of the operation at a place. -/
def dstAt : List Oper → Nat → Option Tmp
  | [], _ => none
  | o :: _, 0 => o.dst
  | _ :: r, j + 1 => dstAt r j
theorem dstAt_eq : ∀ (l : List Oper) (j : Nat), dstAt l j = (l[j]?).bind (·.dst)
  | [], _ => rfl
  | o :: _, 0 => rfl
  | _ :: r, j + 1 => by simp only [dstAt, List.getElem?_cons_succ]; exact dstAt_eq r j
def gvl (l : List Oper) (env : Env) (j : Nat) (want : Bool) : Option Bool := match dstAt l j with
  | none => some false
  | some d => match look env d with
    | some (.bool true) => some want
    | some (.bool false) => some (!want)
    | some _ => some false
    | none => none
theorem gvl_eq {l : List Oper} {env : Env} {j : Nat} {want b : Bool} (h : gvl l env j want = some b) : gv l.toArray env (some (j, want)) = some b := by
  unfold gvl at h
  rw [dstAt_eq] at h
  unfold gv
  dsimp only
  rw [List.getElem?_toArray]
  exact h
theorem xgy' {hs : List Nat} {H : World → Prop} {l : List Oper} {K : Env → World → Prop} {rest : List Oper} {env : Env} {w : World} {dst : Option Tmp} {ty : TypeId} {pos : String} {af : Array Edge} {op : Op} {j : Nat} {want : Bool} (hg : gvl l env j want = some true)
    (h : xs Tryz.prog isI isS hs H l.toArray K (⟨dst, op, ty, pos, af, none⟩ :: rest) env w) : xs Tryz.prog isI isS hs H l.toArray K (⟨dst, op, ty, pos, af, some (j, want)⟩ :: rest) env w := xgy (gvl_eq hg) h
theorem xgn' {hs : List Nat} {H : World → Prop} {l : List Oper} {K : Env → World → Prop} {rest : List Oper} {env : Env} {w : World} {d : Tmp} {ty : TypeId} {pos : String} {af : Array Edge} {op : Op} {j : Nat} {want : Bool} (hg : gvl l env j want = some false)
    (h : xs Tryz.prog isI isS hs H l.toArray K rest ((d, undef) :: env) w) : xs Tryz.prog isI isS hs H l.toArray K (⟨some d, op, ty, pos, af, some (j, want)⟩ :: rest) env w := xgn (gvl_eq hg) h


section
variable {hs : List Nat} {H : World → Prop} {full : Array Oper} {K : Env → World → Prop} {rest : List Oper} {env : Env} {w : World} {d : Tmp} {dst : Option Tmp} {ty : TypeId} {pos : String} {af : Array Edge}

theorem xmv {x : Operand} {v : Value} (hx : evo env x = some v) (h : xs Tryz.prog isI isS hs H full K rest ((d, v) :: env) w) : xs Tryz.prog isI isS hs H full K (⟨some d, .move x, ty, pos, af, none⟩ :: rest) env w := xp (op := .move x) hx h
theorem xas {x : Operand} {v : Value} (hx : evo env x = some v) (h : xs Tryz.prog isI isS hs H full K rest ((d, v) :: env) w) : xs Tryz.prog isI isS hs H full K (⟨some d, .assign x, ty, pos, af, none⟩ :: rest) env w := xp (op := .assign x) hx h
def pkV (a b : Value) : Value → Option Value
  | .bool true => some a
  | .bool false => some b
  | _ => none
theorem xpk {c x y : Operand} {vc vx vy v : Value} (hc : evo env c = some vc) (hx : evo env x = some vx) (hy : evo env y = some vy) (hv : pkV vx vy vc = some v) (h : xs Tryz.prog isI isS hs H full K rest ((d, v) :: env) w) :
    xs Tryz.prog isI isS hs H full K (⟨some d, .pick c x y, ty, pos, af, none⟩ :: rest) env w := by
  refine xp (op := .pick c x y) (v := v) ?_ h
  unfold pstep
  simp only [hx, hy, hc]
  unfold pkV at hv
  split at hv
  · exact hv
  · exact hv
  · cases hv
theorem xnc {x : Operand} {a : Addr} (hx : evo env x = some (.pointer (some a))) (h : xs Tryz.prog isI isS hs H full K rest ((d, .pointer (some a)) :: env) w) : xs Tryz.prog isI isS hs H full K (⟨some d, .nilCheck x, ty, pos, af, none⟩ :: rest) env w :=
  xp (op := .nilCheck x) (by unfold pstep; simp only [hx]) h
theorem xfa {s f b o off : Nat} {x : Operand} (hx : evo env x = some (.pointer (some ⟨b, o, none⟩))) (ho : fo s f = some off) (hf : Nat.blt f 100 = true) (h : xs Tryz.prog isI isS hs H full K rest ((d, .pointer (some ⟨b, o + off, none⟩)) :: env) w) :
    xs Tryz.prog isI isS hs H full K (⟨some d, .fieldAddr s x f, ty, pos, af, none⟩ :: rest) env w := xp (op := .fieldAddr s x f) (by unfold pstep; simp only [hx, ho, hf]) h
theorem xex {x : Operand} {i : Nat} {vs : Array Value} {v : Value} (hx : evo env x = some (.tuple vs)) (hi : vs[i]? = some v) (h : xs Tryz.prog isI isS hs H full K rest ((d, v) :: env) w) : xs Tryz.prog isI isS hs H full K (⟨some d, .extract x i, ty, pos, af, none⟩ :: rest) env w :=
  xp (op := .extract x i) (by unfold pstep; simp only [hx, hi]) h
theorem xnot {t : TypeId} {x : Operand} {b : Bool} (hx : evo env x = some (.bool b)) (h : xs Tryz.prog isI isS hs H full K rest ((d, .bool (!b)) :: env) w) : xs Tryz.prog isI isS hs H full K (⟨some d, .unOp .not t x, ty, pos, af, none⟩ :: rest) env w :=
  xp (op := .unOp .not t x) (by unfold pstep; simp only [hx]; cases b <;> rfl) h
def lnV (t : TypeId) : Value → Option Value
  | .slice _ n _ => match es t with
    | some _ => some (.int .i64 n)
    | none => none
  | .string s => match isS t with
    | true => some (.int .i64 s.size)
    | false => none
  | _ => none
theorem xln {x : Operand} {t : TypeId} {vx v : Value} (hx : evo env x = some vx) (hv : lnV t vx = some v) (h : xs Tryz.prog isI isS hs H full K rest ((d, v) :: env) w) :
    xs Tryz.prog isI isS hs H full K (⟨some d, .call { callee := .builtin .len, args := ⟨[x]⟩, argTypes := ⟨[t]⟩ }, ty, pos, af, none⟩ :: rest) env w := by
  refine xp (op := .call { callee := .builtin .len, args := ⟨[x]⟩, argTypes := ⟨[t]⟩ }) (v := v) ?_ h
  unfold pstep
  simp only [hx]
  unfold lnV at hv
  split at hv
  · exact hv
  · exact hv
  · cases hv
def eqnV : Value → Option Value
  | .pointer (some _) => some (.bool false)
  | .pointer none => some (.bool true)
  | _ => none
theorem xeqn {t yt : TypeId} {x : Operand} {vx v : Value} (hx : evo env x = some vx) (hb : bit m_ptr t = true) (hv : eqnV vx = some v) (h : xs Tryz.prog isI isS hs H full K rest ((d, v) :: env) w) :
    xs Tryz.prog isI isS hs H full K (⟨some d, .binOp .eql t x (.const (.pointer none)) yt, ty, pos, af, none⟩ :: rest) env w := by
  refine xp (op := .binOp .eql t x (.const (.pointer none)) yt) (v := v) ?_ h
  unfold pstep
  simp only [hx, hb]
  unfold eqnV at hv
  split at hv
  · exact hv
  · exact hv
  · cases hv
def nenV : Value → Option Value
  | .pointer (some _) => some (.bool true)
  | .pointer none => some (.bool false)
  | _ => none
theorem xnen {t yt : TypeId} {x : Operand} {vx v : Value} (hx : evo env x = some vx) (hb : bit m_ptr t = true) (hv : nenV vx = some v) (h : xs Tryz.prog isI isS hs H full K rest ((d, v) :: env) w) :
    xs Tryz.prog isI isS hs H full K (⟨some d, .binOp .neq t x (.const (.pointer none)) yt, ty, pos, af, none⟩ :: rest) env w := by
  refine xp (op := .binOp .neq t x (.const (.pointer none)) yt) (v := v) ?_ h
  unfold pstep
  simp only [hx, hb]
  unfold nenV at hv
  split at hv
  · exact hv
  · exact hv
  · cases hv

theorem xadd {t yt : TypeId} {x y : Operand} {a b : Int} (hx : evo env x = some (.int .i64 a)) (hy : evo env y = some (.int .i64 b)) (h1 : -9223372036854775808 ≤ a + b) (h2 : a + b ≤ 9223372036854775807)
    (h : xs Tryz.prog isI isS hs H full K rest ((d, .int .i64 (a + b)) :: env) w) : xs Tryz.prog isI isS hs H full K (⟨some d, .binOp .add t x y yt, ty, pos, af, none⟩ :: rest) env w := xai hx hy rfl h1 h2 h
theorem xsub {t yt : TypeId} {x y : Operand} {a b : Int} (hx : evo env x = some (.int .i64 a)) (hy : evo env y = some (.int .i64 b)) (h1 : -9223372036854775808 ≤ a - b) (h2 : a - b ≤ 9223372036854775807)
    (h : xs Tryz.prog isI isS hs H full K rest ((d, .int .i64 (a - b)) :: env) w) : xs Tryz.prog isI isS hs H full K (⟨some d, .binOp .sub t x y yt, ty, pos, af, none⟩ :: rest) env w := xai hx hy rfl h1 h2 h
theorem xmul {t yt : TypeId} {x y : Operand} {a b : Int} (hx : evo env x = some (.int .i64 a)) (hy : evo env y = some (.int .i64 b)) (h1 : -9223372036854775808 ≤ a * b) (h2 : a * b ≤ 9223372036854775807)
    (h : xs Tryz.prog isI isS hs H full K rest ((d, .int .i64 (a * b)) :: env) w) : xs Tryz.prog isI isS hs H full K (⟨some d, .binOp .mul t x y yt, ty, pos, af, none⟩ :: rest) env w := xai hx hy rfl h1 h2 h
theorem xaddu {t yt : TypeId} {x y : Operand} {a b : Int} (hx : evo env x = some (.int .u64 a)) (hy : evo env y = some (.int .u64 b)) (h1 : 0 ≤ a + b) (h2 : a + b ≤ 18446744073709551615)
    (h : xs Tryz.prog isI isS hs H full K rest ((d, .int .u64 (a + b)) :: env) w) : xs Tryz.prog isI isS hs H full K (⟨some d, .binOp .add t x y yt, ty, pos, af, none⟩ :: rest) env w := xau hx hy rfl h1 h2 h
theorem xsubu {t yt : TypeId} {x y : Operand} {a b : Int} (hx : evo env x = some (.int .u64 a)) (hy : evo env y = some (.int .u64 b)) (h1 : 0 ≤ a - b) (h2 : a - b ≤ 18446744073709551615)
    (h : xs Tryz.prog isI isS hs H full K rest ((d, .int .u64 (a - b)) :: env) w) : xs Tryz.prog isI isS hs H full K (⟨some d, .binOp .sub t x y yt, ty, pos, af, none⟩ :: rest) env w := xau hx hy rfl h1 h2 h
theorem xquo {t yt : TypeId} {x y : Operand} {a b : Int} (hx : evo env x = some (.int .i64 a)) (hy : evo env y = some (.int .i64 b)) (h1 : 0 ≤ a) (h2 : 0 < b) (h3 : a ≤ 9223372036854775807)
    (h : xs Tryz.prog isI isS hs H full K rest ((d, .int .i64 (a / b)) :: env) w) : xs Tryz.prog isI isS hs H full K (⟨some d, .binOp .quo t x y yt, ty, pos, af, none⟩ :: rest) env w := xdi hx hy rfl h1 h2 h3 h
theorem xrem {t yt : TypeId} {x y : Operand} {a b : Int} (hx : evo env x = some (.int .i64 a)) (hy : evo env y = some (.int .i64 b)) (h1 : 0 ≤ a) (h2 : 0 < b) (h3 : a ≤ 9223372036854775807)
    (h : xs Tryz.prog isI isS hs H full K rest ((d, .int .i64 (a % b)) :: env) w) : xs Tryz.prog isI isS hs H full K (⟨some d, .binOp .rem t x y yt, ty, pos, af, none⟩ :: rest) env w := xdi hx hy rfl h1 h2 h3 h
theorem xt_eql {t yt : TypeId} {x y : Operand} {k : IntKind} {a b : Int} (hx : evo env x = some (.int k a)) (hy : evo env y = some (.int k b)) (hp : a = b) (h : xs Tryz.prog isI isS hs H full K rest ((d, .bool true) :: env) w) : xs Tryz.prog isI isS hs H full K (⟨some d, .binOp .eql t x y yt, ty, pos, af, none⟩ :: rest) env w := xct hx hy rfl hp h
theorem xf_eql {t yt : TypeId} {x y : Operand} {k : IntKind} {a b : Int} (hx : evo env x = some (.int k a)) (hy : evo env y = some (.int k b)) (hp : a ≠ b) (h : xs Tryz.prog isI isS hs H full K rest ((d, .bool false) :: env) w) : xs Tryz.prog isI isS hs H full K (⟨some d, .binOp .eql t x y yt, ty, pos, af, none⟩ :: rest) env w := xcf hx hy rfl (by omega) h
theorem xs_eql {t yt : TypeId} {x y : Operand} {k : IntKind} {a b : Int} (hx : evo env x = some (.int k a)) (hy : evo env y = some (.int k b)) (ht : a = b → xs Tryz.prog isI isS hs H full K rest ((d, .bool true) :: env) w) (hf : a ≠ b → xs Tryz.prog isI isS hs H full K rest ((d, .bool false) :: env) w) : xs Tryz.prog isI isS hs H full K (⟨some d, .binOp .eql t x y yt, ty, pos, af, none⟩ :: rest) env w := xcs hx hy rfl ht (fun hn => hf (by omega))
theorem xt_neq {t yt : TypeId} {x y : Operand} {k : IntKind} {a b : Int} (hx : evo env x = some (.int k a)) (hy : evo env y = some (.int k b)) (hp : a ≠ b) (h : xs Tryz.prog isI isS hs H full K rest ((d, .bool true) :: env) w) : xs Tryz.prog isI isS hs H full K (⟨some d, .binOp .neq t x y yt, ty, pos, af, none⟩ :: rest) env w := xct hx hy rfl hp h
theorem xf_neq {t yt : TypeId} {x y : Operand} {k : IntKind} {a b : Int} (hx : evo env x = some (.int k a)) (hy : evo env y = some (.int k b)) (hp : a = b) (h : xs Tryz.prog isI isS hs H full K rest ((d, .bool false) :: env) w) : xs Tryz.prog isI isS hs H full K (⟨some d, .binOp .neq t x y yt, ty, pos, af, none⟩ :: rest) env w := xcf hx hy rfl (by omega) h
theorem xs_neq {t yt : TypeId} {x y : Operand} {k : IntKind} {a b : Int} (hx : evo env x = some (.int k a)) (hy : evo env y = some (.int k b)) (ht : a ≠ b → xs Tryz.prog isI isS hs H full K rest ((d, .bool true) :: env) w) (hf : a = b → xs Tryz.prog isI isS hs H full K rest ((d, .bool false) :: env) w) : xs Tryz.prog isI isS hs H full K (⟨some d, .binOp .neq t x y yt, ty, pos, af, none⟩ :: rest) env w := xcs hx hy rfl ht (fun hn => hf (by omega))
theorem xt_lss {t yt : TypeId} {x y : Operand} {k : IntKind} {a b : Int} (hx : evo env x = some (.int k a)) (hy : evo env y = some (.int k b)) (hp : a < b) (h : xs Tryz.prog isI isS hs H full K rest ((d, .bool true) :: env) w) : xs Tryz.prog isI isS hs H full K (⟨some d, .binOp .lss t x y yt, ty, pos, af, none⟩ :: rest) env w := xct hx hy rfl hp h
theorem xf_lss {t yt : TypeId} {x y : Operand} {k : IntKind} {a b : Int} (hx : evo env x = some (.int k a)) (hy : evo env y = some (.int k b)) (hp : b ≤ a) (h : xs Tryz.prog isI isS hs H full K rest ((d, .bool false) :: env) w) : xs Tryz.prog isI isS hs H full K (⟨some d, .binOp .lss t x y yt, ty, pos, af, none⟩ :: rest) env w := xcf hx hy rfl (by omega) h
theorem xs_lss {t yt : TypeId} {x y : Operand} {k : IntKind} {a b : Int} (hx : evo env x = some (.int k a)) (hy : evo env y = some (.int k b)) (ht : a < b → xs Tryz.prog isI isS hs H full K rest ((d, .bool true) :: env) w) (hf : b ≤ a → xs Tryz.prog isI isS hs H full K rest ((d, .bool false) :: env) w) : xs Tryz.prog isI isS hs H full K (⟨some d, .binOp .lss t x y yt, ty, pos, af, none⟩ :: rest) env w := xcs hx hy rfl ht (fun hn => hf (by omega))
theorem xt_leq {t yt : TypeId} {x y : Operand} {k : IntKind} {a b : Int} (hx : evo env x = some (.int k a)) (hy : evo env y = some (.int k b)) (hp : a ≤ b) (h : xs Tryz.prog isI isS hs H full K rest ((d, .bool true) :: env) w) : xs Tryz.prog isI isS hs H full K (⟨some d, .binOp .leq t x y yt, ty, pos, af, none⟩ :: rest) env w := xct hx hy rfl hp h
theorem xf_leq {t yt : TypeId} {x y : Operand} {k : IntKind} {a b : Int} (hx : evo env x = some (.int k a)) (hy : evo env y = some (.int k b)) (hp : b < a) (h : xs Tryz.prog isI isS hs H full K rest ((d, .bool false) :: env) w) : xs Tryz.prog isI isS hs H full K (⟨some d, .binOp .leq t x y yt, ty, pos, af, none⟩ :: rest) env w := xcf hx hy rfl (by omega) h
theorem xs_leq {t yt : TypeId} {x y : Operand} {k : IntKind} {a b : Int} (hx : evo env x = some (.int k a)) (hy : evo env y = some (.int k b)) (ht : a ≤ b → xs Tryz.prog isI isS hs H full K rest ((d, .bool true) :: env) w) (hf : b < a → xs Tryz.prog isI isS hs H full K rest ((d, .bool false) :: env) w) : xs Tryz.prog isI isS hs H full K (⟨some d, .binOp .leq t x y yt, ty, pos, af, none⟩ :: rest) env w := xcs hx hy rfl ht (fun hn => hf (by omega))
theorem xt_gtr {t yt : TypeId} {x y : Operand} {k : IntKind} {a b : Int} (hx : evo env x = some (.int k a)) (hy : evo env y = some (.int k b)) (hp : b < a) (h : xs Tryz.prog isI isS hs H full K rest ((d, .bool true) :: env) w) : xs Tryz.prog isI isS hs H full K (⟨some d, .binOp .gtr t x y yt, ty, pos, af, none⟩ :: rest) env w := xct hx hy rfl hp h
theorem xf_gtr {t yt : TypeId} {x y : Operand} {k : IntKind} {a b : Int} (hx : evo env x = some (.int k a)) (hy : evo env y = some (.int k b)) (hp : a ≤ b) (h : xs Tryz.prog isI isS hs H full K rest ((d, .bool false) :: env) w) : xs Tryz.prog isI isS hs H full K (⟨some d, .binOp .gtr t x y yt, ty, pos, af, none⟩ :: rest) env w := xcf hx hy rfl (by omega) h
theorem xs_gtr {t yt : TypeId} {x y : Operand} {k : IntKind} {a b : Int} (hx : evo env x = some (.int k a)) (hy : evo env y = some (.int k b)) (ht : b < a → xs Tryz.prog isI isS hs H full K rest ((d, .bool true) :: env) w) (hf : a ≤ b → xs Tryz.prog isI isS hs H full K rest ((d, .bool false) :: env) w) : xs Tryz.prog isI isS hs H full K (⟨some d, .binOp .gtr t x y yt, ty, pos, af, none⟩ :: rest) env w := xcs hx hy rfl ht (fun hn => hf (by omega))
theorem xt_geq {t yt : TypeId} {x y : Operand} {k : IntKind} {a b : Int} (hx : evo env x = some (.int k a)) (hy : evo env y = some (.int k b)) (hp : b ≤ a) (h : xs Tryz.prog isI isS hs H full K rest ((d, .bool true) :: env) w) : xs Tryz.prog isI isS hs H full K (⟨some d, .binOp .geq t x y yt, ty, pos, af, none⟩ :: rest) env w := xct hx hy rfl hp h
theorem xf_geq {t yt : TypeId} {x y : Operand} {k : IntKind} {a b : Int} (hx : evo env x = some (.int k a)) (hy : evo env y = some (.int k b)) (hp : a < b) (h : xs Tryz.prog isI isS hs H full K rest ((d, .bool false) :: env) w) : xs Tryz.prog isI isS hs H full K (⟨some d, .binOp .geq t x y yt, ty, pos, af, none⟩ :: rest) env w := xcf hx hy rfl (by omega) h
theorem xs_geq {t yt : TypeId} {x y : Operand} {k : IntKind} {a b : Int} (hx : evo env x = some (.int k a)) (hy : evo env y = some (.int k b)) (ht : b ≤ a → xs Tryz.prog isI isS hs H full K rest ((d, .bool true) :: env) w) (hf : a < b → xs Tryz.prog isI isS hs H full K rest ((d, .bool false) :: env) w) : xs Tryz.prog isI isS hs H full K (⟨some d, .binOp .geq t x y yt, ty, pos, af, none⟩ :: rest) env w := xcs hx hy rfl ht (fun hn => hf (by omega))
end
end Eng
end Go.Proofs.YtalnkjpgnkfedaaGreatDoor

/-! A region in which one operation without forerunners (a new variable) may come at any time: it floats among the operations that change the world. -/
namespace Go.Proofs.YtalnkjpgnkfedaaGreatDoor
open Go.RowKit
namespace Eng

section
variable {P : Program} {isI isS : TypeId → Bool} {hs : List Nat} {H : World → Prop}

theorem acts_and {c : Cls} {s : Sem Next} {w : World} {S S' : Value → World → Prop} (hc : c ≠ .w) (hw : H w) (h : acts P H c s w S) (h' : acts P H c s w S') : acts P H c s w (fun v w => S v w ∧ S' v w) := by
  cases c with
  | p =>
    obtain ⟨v, h1, h2⟩ := h
    obtain ⟨v', h1', h2'⟩ := h'
    have e := h1 w
    rw [h1' w] at e
    injection e with e; injection e with e; subst e
    exact ⟨v', h1', h2, h2'⟩
  | r =>
    obtain ⟨v, h1, h2⟩ := h
    obtain ⟨v', h1', h2'⟩ := h'
    have e := h1
    rw [h1'] at e
    injection e with e; injection e with e; subst e
    exact ⟨v', h1', h2, h2'⟩
  | h =>
    obtain ⟨v, h1, h2⟩ := h
    obtain ⟨v', h1', h2'⟩ := h'
    have e := h1 w hw
    rw [h1' w hw] at e
    injection e with e; injection e with e; subst e
    exact ⟨v', h1', h2, h2'⟩
  | w => exact absurd rfl hc

theorem s1_and {full : Array Oper} {o : Oper} {K K' : Act → World → Prop} {a : Act} {w : World} (hc : clsO isI isS hs o ≠ .w) (hw : H w) (h : s1 P isI isS hs H full o K a w) (h' : s1 P isI isS hs H full o K' a w) : s1 P isI isS hs H full o (fun a w => K a w ∧ K' a w) a w := by
  unfold s1 at *
  split
  · rename_i hh; rw [if_pos hh] at h h'; exact acts_and hc hw h h'
  · rename_i hh; rw [if_neg hh] at h h'; exact ⟨h, h'⟩

/-- The floating operation: n. Flags: 0 commutes with it; 1 does not; 2 comes behind it. -/
def fl (P : Program) (isI isS : TypeId → Bool) (hs : List Nat) (H : World → Prop) (full : Array Oper) (n : Nat) (F : Nat → Nat) (K : Act → World → Prop) : List Nat → Act → World → Prop
  | [], a, w => ss P isI isS hs H full K [n] a w
  | i :: r, a, w => (F i ≠ 0 → ss P isI isS hs H full K (n :: i :: r) a w) ∧ (F i ≠ 2 → ss P isI isS hs H full (fl P isI isS hs H full n F K r) [i] a w)

structure SeqF (isI isS : TypeId → Bool) (hs : List Nat) (full : Array Oper) (A : Array Nat) (n : Nat) (F : Nat → Nat) : Prop where
  sel : Region.noSelect full = true
  lt : n < full.size
  down : ∀ i o, full[i]? = some o → ∀ e ∈ o.after, Region.binds .any e = true → e.on < i
  anc : ∀ i o, full[i]? = some o → ∀ j, j < i → (A.getD i 0).testBit j = true → ∃ e ∈ o.after, Region.binds .any e = true ∧ (e.on = j ∨ (j < e.on ∧ (A.getD e.on 0).testBit j = true))
  fre : ∀ i o, full[i]? = some o → i ≠ n → ∀ j, j < i → j ≠ n → (A.getD i 0).testBit j = false → free isI isS hs full j i = true
  f0 : ∀ i o, full[i]? = some o → i ≠ n → F i = 0 → free isI isS hs full i n = true ∧ free isI isS hs full n i = true
  rng : ∀ i o, full[i]? = some o → i ≠ n → F i ≠ 1 → F i ≠ 2 → F i = 0
  f2 : ∀ i o, full[i]? = some o → i ≠ n → F i = 2 → (A.getD i 0).testBit n = true ∧ n < i
  cw : ∀ i o, full[i]? = some o → i ≠ n → F i ≠ 1 → F i ≠ 2 → clsO isI isS hs o ≠ .w
  ord : ∀ i j, j < i → F i = 1 → i ≠ n → j ≠ n → F j ≠ 0 → i < full.size → (A.getD i 0).testBit j = true

def seqF (isI isS : TypeId → Bool) (hs : List Nat) (full : Array Oper) (A : Array Nat) (n : Nat) (fs : List Nat) : Bool :=
  Region.noSelect full && decide (n < full.size) && (List.range full.size).all fun i =>
    match full[i]? with
    | none => false
    | some o =>
      (o.after.all fun e => !Region.binds .any e || decide (e.on < i)) &&
      ((List.range i).all fun j =>
        if (A.getD i 0).testBit j then o.after.any fun e => Region.binds .any e && (e.on == j || (decide (j < e.on) && (A.getD e.on 0).testBit j))
        else i == n || j == n || free isI isS hs full j i) &&
      (i == n || (match fs.getD i 0 with
        | 0 => free isI isS hs full i n && free isI isS hs full n i && !(clsO isI isS hs o == .w)
        | 1 => (List.range i).all fun j => j == n || fs.getD j 0 == 0 || (A.getD i 0).testBit j
        | 2 => (A.getD i 0).testBit n && decide (n < i)
        | _ => false))

theorem seqF_spec {full : Array Oper} {A : Array Nat} {n : Nat} {fs : List Nat} (h : seqF isI isS hs full A n fs = true) : SeqF isI isS hs full A n (fun i => fs.getD i 0) := by
  unfold seqF at h
  rw [Bool.and_eq_true, Bool.and_eq_true] at h
  have hall : ∀ i o, full[i]? = some o → (o.after.all fun e => !Region.binds .any e || decide (e.on < i)) = true ∧
      (∀ j, j < i → (if (A.getD i 0).testBit j then o.after.any fun e => Region.binds .any e && (e.on == j || (decide (j < e.on) && (A.getD e.on 0).testBit j)) else i == n || j == n || free isI isS hs full j i) = true) ∧
      (i == n || (match fs.getD i 0 with
        | 0 => free isI isS hs full i n && free isI isS hs full n i && !(clsO isI isS hs o == .w)
        | 1 => (List.range i).all fun j => j == n || fs.getD j 0 == 0 || (A.getD i 0).testBit j
        | 2 => (A.getD i 0).testBit n && decide (n < i)
        | _ => false)) = true := fun i o ho => by
    have hlt : i < full.size := (Array.getElem?_eq_some_iff.1 ho).1
    have hi := List.all_eq_true.1 h.2 i (List.mem_range.2 hlt)
    rw [ho] at hi
    simp only [Bool.and_eq_true] at hi
    exact ⟨hi.1.1, fun j hj => List.all_eq_true.1 hi.1.2 j (List.mem_range.2 hj), hi.2⟩
  have flag : ∀ i o, full[i]? = some o → i ≠ n → (match fs.getD i 0 with
        | 0 => free isI isS hs full i n && free isI isS hs full n i && !(clsO isI isS hs o == .w)
        | 1 => (List.range i).all fun j => j == n || fs.getD j 0 == 0 || (A.getD i 0).testBit j
        | 2 => (A.getD i 0).testBit n && decide (n < i)
        | _ => false) = true := fun i o ho hne => by
    have := (hall i o ho).2.2
    rw [Bool.or_eq_true] at this
    rcases this with h' | h'
    · exact absurd (by simpa using h') hne
    · exact h'
  refine ⟨h.1.1, by simpa using h.1.2, fun i o ho e he hb => ?_, fun i o ho j hj hA => ?_, fun i o ho hi j hj hjn hA => ?_, fun i o ho hi hf => ?_, fun i o ho hi hf1 hf2 => ?_, fun i o ho hi hf => ?_, fun i o ho hi hf1 hf2 => ?_, fun i j hji hf hi hj hfj hlt => ?_⟩
  · have := Array.all_eq_true_iff_forall_mem.1 (hall i o ho).1 e he
    simpa [hb] using this
  · have := (hall i o ho).2.1 j hj
    rw [if_pos hA] at this
    obtain ⟨e, he, hh⟩ := Array.any_eq_true'.1 this
    simp only [Bool.and_eq_true, Bool.or_eq_true, beq_iff_eq, decide_eq_true_eq] at hh
    exact ⟨e, he, hh.1, hh.2⟩
  · have := (hall i o ho).2.1 j hj
    rw [if_neg (by rw [hA]; decide)] at this
    simpa [hi, hjn] using this
  · have := flag i o ho hi
    rw [hf] at this
    simp only [Bool.and_eq_true] at this
    exact this.1
  · have := flag i o ho hi
    split at this
    · rename_i e; exact e
    · rename_i e; exact absurd e hf1
    · rename_i e; exact absurd e hf2
    · cases this
  · have := flag i o ho hi
    rw [hf] at this
    simpa using this
  · have := flag i o ho hi
    split at this
    · simp only [Bool.and_eq_true, Bool.not_eq_true', beq_eq_false_iff_ne] at this
      exact this.2
    · rename_i e; exact absurd e hf1
    · rename_i e; exact absurd e hf2
    · cases this
  · obtain ⟨o, ho⟩ : ∃ o, full[i]? = some o := ⟨_, Array.getElem?_eq_getElem hlt⟩
    have := flag i o ho hi
    rw [hf] at this
    have := List.all_eq_true.1 this j (List.mem_range.2 hji)
    simp only [Bool.or_eq_true, beq_iff_eq] at this
    rcases this with (h' | h') | h'
    · exact absurd h' hj
    · exact absurd h' hfj
    · exact h'

theorem free_spec {full : Array Oper} {j i : Nat} {x y : Oper} (hx : full[j]? = some x) (hy : full[i]? = some y) (h : free isI isS hs full j i = true) : x.apart full y = true ∧ calmC (clsO isI isS hs x) (clsO isI isS hs y) = true := by
  unfold free at h
  rw [hx, hy] at h
  simpa using h

theorem ss_one {full : Array Oper} {K : Act → World → Prop} {i : Nat} {o : Oper} (ho : full[i]? = some o) {a : Act} {w : World} : ss P isI isS hs H full K [i] a w = s1 P isI isS hs H full o K a w := by simp only [ss, ho]

/-- The floating operation is brought to the front. -/
theorem fl_now {full : Array Oper} {A : Array Nat} {n : Nat} {F : Nat → Nat} (hq : SeqF isI isS hs full A n F) {K : Act → World → Prop} {on : Oper} (hon : full[n]? = some on) :
    ∀ (l : List Nat) (a : Act) (w : World), (∀ i ∈ l, i ≠ n ∧ i < full.size) → H w → fl P isI isS hs H full n F K l a w → s1 P isI isS hs H full on (ss P isI isS hs H full K l) a w
  | [], a, w, _, _, h => by
    unfold fl at h
    rw [ss_one hon] at h
    exact h
  | i :: r, a, w, hl, hw, h => by
    obtain ⟨oi, hoi⟩ : ∃ o, full[i]? = some o := ⟨_, Array.getElem?_eq_getElem (hl i (by simp)).2⟩
    unfold fl at h
    by_cases hf : F i = 0
    · have h2 := h.2 (by omega)
      rw [ss_one hoi] at h2
      have h3 := s1_mono hw (fun a w hw' k => fl_now hq hon r a w (fun j hj => hl j (by simp [hj])) hw' k) h2
      obtain ⟨f1, f2⟩ := free_spec hoi hon (hq.f0 i oi hoi (hl i (by simp)).1 hf).1
      have := s1_swap hw f1 f2 (fun cs b => Region.noSelect_spec hq.sel i oi cs b hoi) (fun cs b => Region.noSelect_spec hq.sel n on cs b hon) h3
      refine s1_mono hw (fun a w _ k => ?_) this
      simp only [ss, hoi]; exact k
    · have := h.1 hf
      simp only [ss, hon] at this
      exact this

/-- Another operation is brought to the front. -/
theorem fl_other {full : Array Oper} {A : Array Nat} {n : Nat} {F : Nat → Nat} (hq : SeqF isI isS hs full A n F) {K : Act → World → Prop} {i : Nat} {o : Oper} (ho : full[i]? = some o) (hin : i ≠ n) (hi2 : F i ≠ 2) (l2 : List Nat) (hl2 : ∀ j ∈ l2, j ≠ n ∧ j < full.size) :
    ∀ (l1 : List Nat) (a : Act) (w : World), (∀ j ∈ l1, j ≠ n ∧ j < i ∧ free isI isS hs full j i = true ∧ (A.getD i 0).testBit j = false) → H w → fl P isI isS hs H full n F K (l1 ++ i :: l2) a w → s1 P isI isS hs H full o (fl P isI isS hs H full n F K (l1 ++ l2)) a w
  | [], a, w, _, _, h => by
    rw [List.nil_append] at h ⊢
    unfold fl at h
    have := h.2 hi2
    rw [ss_one ho] at this
    exact this
  | y :: l1, a, w, hf, hw, h => by
    have hy := hf y (by simp)
    have hilt : i < full.size := (Array.getElem?_eq_some_iff.1 ho).1
    obtain ⟨oy, hoy⟩ : ∃ o, full[y]? = some o := ⟨_, Array.getElem?_eq_getElem (show y < full.size by omega)⟩
    obtain ⟨f1, f2⟩ := free_spec hoy ho hy.2.2.1
    rw [List.cons_append] at h ⊢
    unfold fl at h
    have second : F y ≠ 2 → s1 P isI isS hs H full o (ss P isI isS hs H full (fl P isI isS hs H full n F K (l1 ++ l2)) [y]) a w := fun hy2 => by
      have h2 := h.2 hy2
      rw [ss_one hoy] at h2
      have h3 := s1_mono hw (fun a w hw' k => fl_other hq ho hin hi2 l2 hl2 l1 a w (fun j hj => hf j (by simp [hj])) hw' k) h2
      have := s1_swap hw f1 f2 (fun cs b => Region.noSelect_spec hq.sel y oy cs b hoy) (fun cs b => Region.noSelect_spec hq.sel i o cs b ho) h3
      exact s1_mono hw (fun a w _ k => by rw [ss_one hoy]; exact k) this
    by_cases hy0 : F y = 0
    · refine s1_mono hw (fun a w _ k => ?_) (second (by omega))
      unfold fl
      exact ⟨fun hh => absurd hy0 hh, fun _ => k⟩
    · -- y does not commute with the floating one: so i does
      have hi1 : F i ≠ 1 := fun e => by
        have := hq.ord i y hy.2.1 e hin hy.1 hy0 hilt
        rw [hy.2.2.2] at this; cases this
      have hcw := hq.cw i o ho hin hi1 hi2
      have first : s1 P isI isS hs H full o (ss P isI isS hs H full K (n :: y :: (l1 ++ l2))) a w := by
        have h1 := h.1 hy0
        have hfr : ∀ j ∈ n :: y :: l1, free isI isS hs full j i = true := fun j hj => by
          rcases List.mem_cons.1 hj with rfl | hj
          · exact (hq.f0 i o ho hin (hq.rng i o ho hin hi1 hi2)).2
          · exact (hf j (by simpa using hj)).2.2.1
        exact ss_front hq.sel ho l2 (n :: y :: l1) a w hfr hw h1
      by_cases hy2 : F y = 2
      · refine s1_mono hw (fun a w _ k => ?_) first
        unfold fl
        exact ⟨fun _ => k, fun hh => absurd hy2 hh⟩
      · refine s1_mono hw (fun a w _ k => ?_) (s1_and hcw hw first (second hy2))
        unfold fl
        exact ⟨fun _ => k.1, fun _ => k.2⟩

theorem listed_ancF {full : Array Oper} {A : Array Nat} {n : Nat} {F : Nat → Nat} (hq : SeqF isI isS hs full A n F) {listed : Array Bool} (hsz : listed.size = full.size)
    (down : ∀ i o, full[i]? = some o → listed.getD i false = true → ∀ e ∈ o.after, Region.binds .any e = true → listed.getD e.on false = true) {j : Nat} :
    ∀ (m k : Nat), k < m → listed.getD k false = true → (A.getD k 0).testBit j = true → j < k → listed.getD j false = true := by
  intro m
  induction m with
  | zero => intro k hk; omega
  | succ m ih =>
    intro k hk hlk hAk hjk
    have hks : k < full.size := by
      rcases Nat.lt_or_ge k full.size with h' | h'
      · exact h'
      · rw [Array.getD_eq_getD_getElem?, Array.getElem?_eq_none (by omega)] at hlk; cases hlk
    obtain ⟨ok, hok⟩ : ∃ ok, full[k]? = some ok := ⟨_, Array.getElem?_eq_getElem hks⟩
    obtain ⟨e, he, hb, hor⟩ := hq.anc k ok hok j hjk hAk
    have hle := down k ok hok hlk e he hb
    rcases hor with h' | ⟨hlt, hA'⟩
    · rw [← h']; exact hle
    · exact ih e.on (by have := hq.down k ok hok e he hb; omega) hle hA' hlt

/-- What is left: l in the order of the text; b: is the floating one still to come? -/
def flOr (P : Program) (isI isS : TypeId → Bool) (hs : List Nat) (H : World → Prop) (full : Array Oper) (n : Nat) (F : Nat → Nat) (K : Act → World → Prop) (b : Bool) (l : List Nat) (a : Act) (w : World) : Prop :=
  match b with
  | true => fl P isI isS hs H full n F K l a w
  | false => ss P isI isS hs H full K l a w

theorem wpAny_of_fl {full : Array Oper} {A : Array Nat} {n : Nat} {F : Nat → Nat} (hq : SeqF isI isS hs full A n F) {K : Act → World → Prop} {Q : Exit → Act → World → Prop} (hQ : ∀ a w, K a w → Q .normal a w) :
    ∀ (fuel : Nat) (listed : Array Bool) (b : Bool) (l : List Nat) (a : Act) (w : World), H w → listed.size = full.size → (if b then l.length + 1 else l.length) ≤ fuel → l.Pairwise (· < ·) → (∀ i, i ∈ l ↔ i < full.size ∧ i ≠ n ∧ listed.getD i false = false) → (listed.getD n false = !b) →
      (∀ i o, full[i]? = some o → listed.getD i false = true → ∀ e ∈ o.after, Region.binds .any e = true → listed.getD e.on false = true) →
      flOr P isI isS hs H full n F K b l a w → wpAny P .any full Q fuel listed a w := by
  intro fuel
  obtain ⟨on, hon⟩ : ∃ o, full[n]? = some o := ⟨_, Array.getElem?_eq_getElem hq.lt⟩
  have unl : ∀ {listed : Array Bool} {i : Nat}, listed.size = full.size → i ∈ Region.ready .any full listed → i < full.size ∧ listed.getD i false = false := fun {listed i} hsz hi => by
    obtain ⟨h0, o, ho, _⟩ := mem_ready.1 hi
    have hlt : i < full.size := (Array.getElem?_eq_some_iff.1 ho).1
    refine ⟨hlt, ?_⟩
    rw [Array.getD_eq_getD_getElem?, Array.getElem?_eq_getElem (by omega)] at h0 ⊢
    simpa using h0
  have mkReady : ∀ (listed : Array Bool) (i : Nat) (o : Oper), listed.size = full.size → full[i]? = some o → listed.getD i false = false → (∀ e ∈ o.after, Region.binds .any e = true → listed.getD e.on false = true) → i ∈ Region.ready .any full listed := fun listed i o hsz ho hl hall => by
    rw [mem_ready]
    refine ⟨?_, o, ho, hall⟩
    have hlt : i < full.size := (Array.getElem?_eq_some_iff.1 ho).1
    rw [Array.getD_eq_getD_getElem?, Array.getElem?_eq_getElem (by omega)] at hl ⊢
    simpa using hl
  -- nothing ready: nothing left
  have stuck : ∀ (listed : Array Bool), listed.size = full.size → Region.ready .any full listed = [] → ∀ i, i < full.size → listed.getD i false = true := fun listed hsz hr i => by
    induction i using Nat.strongRecOn with
    | _ i ih =>
      intro hi
      cases hl : listed.getD i false with
      | true => rfl
      | false =>
        exfalso
        obtain ⟨o, ho⟩ : ∃ o, full[i]? = some o := ⟨_, Array.getElem?_eq_getElem hi⟩
        have := mkReady listed i o hsz ho hl (fun e he hb => ih e.on (hq.down i o ho e he hb) (by have := hq.down i o ho e he hb; omega))
        rw [hr] at this; cases this
  have done : ∀ (listed : Array Bool) (b : Bool) (l : List Nat) (a : Act) (w : World), listed.size = full.size → (∀ i, i ∈ l ↔ i < full.size ∧ i ≠ n ∧ listed.getD i false = false) → (listed.getD n false = !b) → Region.ready .any full listed = [] → flOr P isI isS hs H full n F K b l a w → Q .normal a w := fun listed b l a w hsz hl hn hr h => by
    have hall := stuck listed hsz hr
    have hb : b = false := by
      have := hall n hq.lt
      rw [hn] at this
      cases b with
      | true => cases this
      | false => rfl
    subst hb
    have : l = [] := by
      cases l with
      | nil => rfl
      | cons i r =>
        have h1 := (hl i).1 (by simp)
        have := hall i h1.1
        rw [h1.2.2] at this; cases this
    subst this
    exact hQ _ _ h
  induction fuel with
  | zero =>
    intro listed b l a w hw hsz hlen hp hl hn hd h
    cases b with
    | true => simp at hlen
    | false =>
      have hnil : l = [] := List.eq_nil_of_length_eq_zero (by simpa using hlen)
      subst hnil
      refine ⟨?_, hQ _ _ h⟩
      cases hr : Region.ready .any full listed with
      | nil => rfl
      | cons i r =>
        exfalso
        have hi : i ∈ Region.ready .any full listed := by rw [hr]; simp
        have hu := unl hsz hi
        by_cases e : i = n
        · subst e; rw [hn] at hu; cases hu.2
        · have := (hl i).2 ⟨hu.1, e, hu.2⟩; cases this
  | succ fuel ih =>
    intro listed b l a w hw hsz hlen hp hl hn hd h
    refine ⟨fun hr => done listed b l a w hsz hl hn hr h, fun i hi => ?_⟩
    obtain ⟨hlt, hun⟩ := unl hsz hi
    obtain ⟨_, o, ho, hall⟩ := mem_ready.1 hi
    have hd' : ∀ i' o', full[i']? = some o' → (listed.setIfInBounds i true).getD i' false = true → ∀ e ∈ o'.after, Region.binds .any e = true → (listed.setIfInBounds i true).getD e.on false = true := by
      intro k' ok hok hlk e he hb
      refine getD_set_true ?_
      by_cases hki : k' = i
      · subst hki
        rw [ho] at hok
        injection hok with hok
        subst hok
        exact hall e he hb
      · rw [getD_set_ne false (Ne.symm hki)] at hlk
        exact hd k' ok hok hlk e he hb
    have setI : (listed.setIfInBounds i true).getD i false = true := by
      rw [Array.getD_eq_getD_getElem?, Array.getElem?_setIfInBounds_self_of_lt (by omega)]; rfl
    by_cases hin : i = n
    · subst hin
      have hb : b = true := by
        rw [hn] at hun
        cases b with
        | true => rfl
        | false => cases hun
      subst hb
      obtain rfl : on = o := by rw [hon] at ho; injection ho
      refine wpOp_of_s1 (isI := isI) (isS := isS) (hs := hs) hw (fun a' w' hw' k => ?_) ho (fl_now hq ho l a w (fun j hj => ⟨((hl j).1 hj).2.1, ((hl j).1 hj).1⟩) hw h)
      refine ih _ false l a' w' hw' (by simpa using hsz) (by simp at hlen ⊢; omega) hp (fun j => ?_) setI hd' k
      by_cases hj : j = i
      · subst hj
        constructor
        · intro hm; exact absurd rfl ((hl j).1 hm).2.1
        · intro hh; exact absurd rfl hh.2.1
      · rw [getD_set_ne false (Ne.symm hj)]; exact hl j
    · obtain ⟨l1, l2, rfl⟩ := List.append_of_mem ((hl i).2 ⟨hlt, hin, hun⟩)
      have hp1 := List.pairwise_append.1 hp
      have hp2 := List.pairwise_cons.1 hp1.2.1
      have notAnc : ∀ j, j < i → listed.getD j false = false → (A.getD i 0).testBit j = false := fun j hji hju => by
        cases hA : (A.getD i 0).testBit j with
        | false => rfl
        | true =>
          exfalso
          obtain ⟨e, he, hb, hor⟩ := hq.anc i o ho j hji hA
          have hle := hall e he hb
          have : listed.getD j false = true := by
            rcases hor with h' | ⟨hlt', hA'⟩
            · rw [← h']; exact hle
            · exact listed_ancF hq hsz hd (e.on + 1) e.on (by omega) hle hA' hlt'
          rw [hju] at this
          cases this
      have hf : ∀ j ∈ l1, j ≠ n ∧ j < i ∧ free isI isS hs full j i = true ∧ (A.getD i 0).testBit j = false := fun j hj => by
        have h1 := (hl j).1 (by simp [hj])
        have hji : j < i := hp1.2.2 j hj i (by simp)
        have hna := notAnc j hji h1.2.2
        exact ⟨h1.2.1, hji, hq.fre i o ho hin j hji h1.2.1 hna, hna⟩
      have hp' : (l1 ++ l2).Pairwise (· < ·) := List.pairwise_append.2 ⟨hp1.1, hp2.2, fun u hu v hv => hp1.2.2 u hu v (by simp [hv])⟩
      have hm' : ∀ j, j ∈ l1 ++ l2 ↔ j < full.size ∧ j ≠ n ∧ (listed.setIfInBounds i true).getD j false = false := fun j => by
        by_cases hji : j = i
        · subst hji
          constructor
          · intro hm
            exfalso
            rcases List.mem_append.1 hm with h' | h'
            · have := hp1.2.2 j h' j (by simp); omega
            · have := hp2.1 j h'; omega
          · rintro ⟨_, _, h'⟩
            rw [setI] at h'; cases h'
        · rw [getD_set_ne false (Ne.symm hji), ← hl j]
          simp [hji]
      have hn' : (listed.setIfInBounds i true).getD n false = !b := by rw [getD_set_ne false hin]; exact hn
      have hlen' : (if b then (l1 ++ l2).length + 1 else (l1 ++ l2).length) ≤ fuel := by
        cases b <;> simp at hlen ⊢ <;> omega
      cases b with
      | false =>
        refine wpOp_of_s1 (isI := isI) (isS := isS) (hs := hs) hw (fun a' w' hw' k => ?_) ho (ss_front hq.sel ho l2 l1 a w (fun j hj => (hf j hj).2.2.1) hw h)
        exact ih _ false (l1 ++ l2) a' w' hw' (by simpa using hsz) hlen' hp' hm' hn' hd' k
      | true =>
        have hi2 : F i ≠ 2 := fun e => by
          have := hq.f2 i o ho hin e
          have h3 := notAnc n this.2 (by rw [hn]; rfl)
          rw [this.1] at h3; cases h3
        refine wpOp_of_s1 (isI := isI) (isS := isS) (hs := hs) hw (fun a' w' hw' k => ?_) ho (fl_other hq ho hin hi2 l2 (fun j hj => by have := (hl j).1 (by simp [hj]); exact ⟨this.2.1, this.1⟩) l1 a w hf hw h)
        exact ih _ true (l1 ++ l2) a' w' hw' (by simpa using hsz) hlen' hp' hm' hn' hd' k

/-- The same over named temporaries. -/
def xf (P : Program) (isI isS : TypeId → Bool) (hs : List Nat) (H : World → Prop) (full : Array Oper) (K : Env → World → Prop) (on : Oper) : List Oper → List Nat → Env → World → Prop
  | [], _, env, w => xs P isI isS hs H full K [on] env w
  | o :: r, fs, env, w => match fs with
    | 0 :: fs => xs P isI isS hs H full (xf P isI isS hs H full K on r fs) [o] env w
    | 2 :: _ => xs P isI isS hs H full K (on :: o :: r) env w
    | _ :: fs => xs P isI isS hs H full K (on :: o :: r) env w ∧ xs P isI isS hs H full (xf P isI isS hs H full K on r fs) [o] env w
    | [] => False

/-- Places, operations and flags side by side. -/
inductive Al (full : Array Oper) (F : Nat → Nat) : List Nat → List Oper → List Nat → Prop where
  | nil : Al full F [] [] []
  | cons {i : Nat} {o : Oper} {f : Nat} {is : List Nat} {l : List Oper} {fs : List Nat} (ho : full[i]? = some o) (hf : F i = f) (h : Al full F is l fs) : Al full F (i :: is) (o :: l) (f :: fs)

theorem ss_of_xsL {N : Nat} {full : Array Oper} {F : Nat → Nat} {K : Env → World → Prop} {K' : Act → World → Prop} (hsel : Region.noSelect full = true) (hd : ∀ (i : Nat) (o : Oper), full[i]? = some o → ∀ t, o.dst = some t → t < N) (hK : ∀ env a w, Fits N env a → H w → K env w → K' a w) :
    ∀ {is : List Nat} {l : List Oper} {fs : List Nat}, Al full F is l fs → ∀ (env : Env) (a : Act) (w : World), H w → Fits N env a → xs P isI isS hs H full K l env w → ss P isI isS hs H full K' is a w := by
  intro is l fs hal
  induction hal with
  | nil => intro env a w hw hf h; exact hK env a w hf hw h
  | @cons i o _ _ _ _ ho _ _ ih =>
    intro env a w hw hf h
    obtain ⟨g, hg, ht, hff⟩ := h
    simp only [ss, ho]
    unfold s1
    rw [gv_wanted hf hg]
    cases g with
    | true =>
      obtain ⟨hop, ha⟩ := ht rfl
      rw [if_pos rfl, ← exec_eq hf (fun cs b => Region.noSelect_spec hsel i o cs b ho) hop]
      exact acts_mono hw (fun v w' hw' hx => ih _ _ w' hw' (hf.put o.dst (hd i o ho) v) hx) ha
    | false =>
      rw [if_neg (by decide)]
      exact ih _ _ w hw (hf.put o.dst (hd i o ho) undef) (hff rfl)

theorem fl_of_xf {N : Nat} {full : Array Oper} {n : Nat} {F : Nat → Nat} {K : Env → World → Prop} {on : Oper} (hon : full[n]? = some on) (hsel : Region.noSelect full = true) (hd : ∀ (i : Nat) (o : Oper), full[i]? = some o → ∀ t, o.dst = some t → t < N) :
    ∀ {is : List Nat} {l : List Oper} {fs : List Nat}, Al full F is l fs → ∀ (env : Env) (a : Act) (w : World), H w → Fits N env a → xf P isI isS hs H full K on l fs env w →
      fl P isI isS hs H full n F (fun a' w' => ∃ env', Fits N env' a' ∧ K env' w') is a w := by
  have lift : ∀ env a w, Fits N env a → H w → K env w → ∃ env', Fits N env' a ∧ K env' w := fun env a w hf _ hk => ⟨env, hf, hk⟩
  intro is l fs hal
  induction hal with
  | nil =>
    intro env a w hw hf h
    exact ss_of_xsL (F := F) hsel hd lift (.cons hon rfl .nil) env a w hw hf h
  | cons ho hfl hrest ih =>
    rename_i i o f is l fs
    intro env a w hw hf h
    have first : xs P isI isS hs H full K (on :: o :: l) env w → ss P isI isS hs H full (fun a' w' => ∃ env', Fits N env' a' ∧ K env' w') (n :: i :: is) a w :=
      fun hx => ss_of_xsL (F := F) hsel hd lift (.cons hon rfl (.cons ho hfl hrest)) env a w hw hf hx
    have second : xs P isI isS hs H full (xf P isI isS hs H full K on l fs) [o] env w → ss P isI isS hs H full (fl P isI isS hs H full n F (fun a' w' => ∃ env', Fits N env' a' ∧ K env' w') is) [i] a w :=
      fun hx => ss_of_xsL (F := F) hsel hd (fun env a w hf hw hk => ih env a w hw hf hk) (.cons ho hfl .nil) env a w hw hf hx
    unfold fl
    unfold xf at h
    subst hfl
    split at h
    · rename_i heq; injection heq with e1 e2; subst e2
      exact ⟨fun hh => absurd e1 hh, fun _ => second h⟩
    · rename_i heq; injection heq with e1 e2
      exact ⟨fun _ => first h, fun hh => absurd e1 hh⟩
    · rename_i heq; injection heq with e1 e2; subst e2
      exact ⟨fun _ => first h.1, fun _ => second h.2⟩
    · exact h.elim
end

def ins (n : Nat) (fs : List Nat) : List Nat := fs.take n ++ 0 :: fs.drop n

theorem al_of {full : Array Oper} {F : Nat → Nat} : ∀ (l : List Oper) (fs : List Nat) (k : Nat), fs.length = l.length → (∀ j o, l[j]? = some o → full[k + j]? = some o) → (∀ j f, fs[j]? = some f → F (k + j) = f) → Al full F (List.range' k l.length) l fs
  | [], [], k, _, _, _ => .nil
  | [], _ :: _, _, h, _, _ => by simp at h
  | _ :: _, [], _, h, _, _ => by simp at h
  | o :: l, f :: fs, k, hl, h1, h2 => by
    rw [List.length_cons, List.range'_succ]
    exact .cons (by simpa using h1 0 o rfl) (by simpa using h2 0 f rfl) (al_of l fs (k + 1) (by simpa using hl) (fun j o' ho' => by have := h1 (j + 1) o' (by simpa using ho'); rwa [show k + 1 + j = k + (j + 1) from by omega]) (fun j f' hf' => by have := h2 (j + 1) f' (by simpa using hf'); rwa [show k + 1 + j = k + (j + 1) from by omega]))
theorem Al.app {full : Array Oper} {F : Nat → Nat} {is is' : List Nat} {l l' : List Oper} {fs fs' : List Nat} (h : Al full F is l fs) (h' : Al full F is' l' fs') : Al full F (is ++ is') (l ++ l') (fs ++ fs') := by
  induction h with
  | nil => exact h'
  | cons ho hf _ ih => exact .cons ho hf ih

/-- A region that draws, with one operation that floats: n: its place; fs: the flags of the others. -/
theorem tdrawF {fn : Func} {R : Value → World → Prop} {k : List It} {id : Nat} {l : List Oper} {env : Env} {w : World} {on : Oper} (n : Nat) (fs hs : List Nat) (H : World → Prop) (hon : l[n]? = some on) (hfl : fs.length + 1 = l.length) (hd : dstOK fn.ntmps l.toArray = true)
    (hq : seqF isI isS hs l.toArray (Region.before l.toArray) n (ins n fs) = true) (hw : H w.drew) (h : xf Tryz.prog isI isS hs H l.toArray (T Tryz.prog fn R k) on (l.take n ++ l.drop (n + 1)) fs env w.drew) :
    T Tryz.prog fn R (.code (.region id l.toArray true) :: k) env w := fun a ha => by
  obtain ⟨hs', hd⟩ := dstOK_spec hd
  have hq' := seqF_spec hq
  have hn : n < l.length := by simpa using hq'.lt
  have hfn : n ≤ fs.length := by omega
  have F1 : ∀ j, j < n → (ins n fs).getD j 0 = fs.getD j 0 := fun j hj => by
    unfold ins
    rw [List.getD_eq_getElem?_getD, List.getElem?_append_left (by rw [List.length_take]; omega), List.getElem?_take_of_lt hj, ← List.getD_eq_getElem?_getD]
  have F2 : ∀ j, (ins n fs).getD (n + 1 + j) 0 = fs.getD (n + j) 0 := fun j => by
    unfold ins
    rw [List.getD_eq_getElem?_getD, List.getElem?_append_right (by rw [List.length_take]; omega), List.length_take, Nat.min_eq_left hfn, show n + 1 + j - n = j + 1 from by omega, List.getElem?_cons_succ, List.getElem?_drop, ← List.getD_eq_getElem?_getD]
  have hal : Al l.toArray (fun i => (ins n fs).getD i 0) (List.range' 0 (l.take n).length ++ List.range' (n + 1) (l.drop (n + 1)).length) (l.take n ++ l.drop (n + 1)) (fs.take n ++ fs.drop n) := by
    refine (al_of (l.take n) (fs.take n) 0 (by rw [List.length_take, List.length_take]; omega) (fun j o ho => ?_) (fun j f hf => ?_)).app (al_of (l.drop (n + 1)) (fs.drop n) (n + 1) (by rw [List.length_drop, List.length_drop]; omega) (fun j o ho => ?_) (fun j f hf => ?_))
    · have hj : j < n := by
        have := (List.getElem?_eq_some_iff.1 ho).1
        rw [List.length_take] at this; omega
      rw [List.getElem?_take_of_lt hj] at ho
      simpa using ho
    · have hj : j < n := by
        have := (List.getElem?_eq_some_iff.1 hf).1
        rw [List.length_take] at this; omega
      rw [List.getElem?_take_of_lt hj] at hf
      rw [Nat.zero_add, F1 j hj, List.getD_eq_getElem?_getD, hf]; rfl
    · rw [List.getElem?_drop] at ho
      simpa using ho
    · rw [List.getElem?_drop] at hf
      rw [F2 j, List.getD_eq_getElem?_getD, hf]; rfl
  rw [List.take_append_drop] at hal
  have h1 := fl_of_xf (P := Tryz.prog) (N := fn.ntmps) (n := n) (by simpa using hon) hs' hd hal env a w.drew hw ha h
  refine wp_region_any mixed (wpAny_of_fl hq' (fun a' w' ⟨env', hf, ht⟩ => ht a' hf) l.toArray.size _ true _ a _ hw (by simp) ?_ ?_ (fun i => ?_) ?_ (fun i o ho hl => ?_) h1)
  · simp; omega
  · rw [List.pairwise_append]
    refine ⟨List.pairwise_lt_range', List.pairwise_lt_range', fun u hu v hv => ?_⟩
    rw [List.mem_range'_1, List.length_take] at hu
    rw [List.mem_range'_1] at hv; omega
  · rw [List.mem_append, List.mem_range'_1, List.mem_range'_1, List.length_take, List.length_drop]
    have hr : (Array.replicate l.toArray.size false).getD i false = false := by
      rw [Array.getD_eq_getD_getElem?, Array.getElem?_replicate]; split <;> rfl
    rw [hr]
    simp
    omega
  · rw [Array.getD_eq_getD_getElem?, Array.getElem?_replicate]; split <;> rfl
  · exfalso
    rw [Array.getD_eq_getD_getElem?, Array.getElem?_replicate] at hl
    split at hl <;> simp at hl

section
variable {hs : List Nat} {H : World → Prop} {full : Array Oper} {K : Env → World → Prop} {env : Env} {w : World} {on o : Oper} {r : List Oper} {fs : List Nat}
theorem xfe (h : xs Tryz.prog isI isS hs H full K [on] env w) : xf Tryz.prog isI isS hs H full K on [] fs env w := h
theorem xf0 (h : xs Tryz.prog isI isS hs H full (xf Tryz.prog isI isS hs H full K on r fs) [o] env w) : xf Tryz.prog isI isS hs H full K on (o :: r) (0 :: fs) env w := h
theorem xf1 (h1 : xs Tryz.prog isI isS hs H full K (on :: o :: r) env w) (h2 : xs Tryz.prog isI isS hs H full (xf Tryz.prog isI isS hs H full K on r fs) [o] env w) : xf Tryz.prog isI isS hs H full K on (o :: r) (1 :: fs) env w := ⟨h1, h2⟩
theorem xf2 (h : xs Tryz.prog isI isS hs H full K (on :: o :: r) env w) : xf Tryz.prog isI isS hs H full K on (o :: r) (2 :: fs) env w := h
end
end Eng
end Go.Proofs.YtalnkjpgnkfedaaGreatDoor

/-! A region that draws, with one pair of operations that do not commute: both orders of the pair are walked. -/
namespace Go.Proofs.YtalnkjpgnkfedaaGreatDoor
open Go.RowKit
namespace Eng

structure Downs (full : Array Oper) (A : Array Nat) : Prop where
  sel : Region.noSelect full = true
  down : ∀ i o, full[i]? = some o → ∀ e ∈ o.after, Region.binds .any e = true → e.on < i
  anc : ∀ i o, full[i]? = some o → ∀ j, j < i → (A.getD i 0).testBit j = true → ∃ e ∈ o.after, Region.binds .any e = true ∧ (e.on = j ∨ (j < e.on ∧ (A.getD e.on 0).testBit j = true))

section
variable {P : Program} {isI isS : TypeId → Bool} {hs : List Nat} {H : World → Prop}

theorem downs_anc {full : Array Oper} {A : Array Nat} (hq : Downs full A) {listed : Array Bool} (hsz : listed.size = full.size)
    (down : ∀ i o, full[i]? = some o → listed.getD i false = true → ∀ e ∈ o.after, Region.binds .any e = true → listed.getD e.on false = true) {j : Nat} :
    ∀ (m k : Nat), k < m → listed.getD k false = true → (A.getD k 0).testBit j = true → j < k → listed.getD j false = true := by
  intro m
  induction m with
  | zero => intro k hk; omega
  | succ m ih =>
    intro k hk hlk hAk hjk
    have hks : k < full.size := by
      rcases Nat.lt_or_ge k full.size with h' | h'
      · exact h'
      · rw [Array.getD_eq_getD_getElem?, Array.getElem?_eq_none (by omega)] at hlk; cases hlk
    obtain ⟨ok, hok⟩ : ∃ ok, full[k]? = some ok := ⟨_, Array.getElem?_eq_getElem hks⟩
    obtain ⟨e, he, hb, hor⟩ := hq.anc k ok hok j hjk hAk
    have hle := down k ok hok hlk e he hb
    rcases hor with h' | ⟨hlt, hA'⟩
    · rw [← h']; exact hle
    · exact ih e.on (by have := hq.down k ok hok e he hb; omega) hle hA' hlt

/-- Whatever order is drawn, by what holds of the places that are left. -/
theorem wpAny_inv {full : Array Oper} {A : Array Nat} (hq : Downs full A) {Q : Exit → Act → World → Prop} (Inv : List Nat → Act → World → Prop) (hQ : ∀ a w, Inv [] a w → Q .normal a w)
    (hstep : ∀ l1 i l2 o a w, full[i]? = some o → H w → (l1 ++ i :: l2).Pairwise (· < ·) → (∀ j ∈ l1, (A.getD i 0).testBit j = false) → Inv (l1 ++ i :: l2) a w → s1 P isI isS hs H full o (Inv (l1 ++ l2)) a w) :
    ∀ (fuel : Nat) (listed : Array Bool) (l : List Nat) (a : Act) (w : World), H w → listed.size = full.size → l.length ≤ fuel → l.Pairwise (· < ·) → (∀ i, i ∈ l ↔ i < full.size ∧ listed.getD i false = false) →
      (∀ i o, full[i]? = some o → listed.getD i false = true → ∀ e ∈ o.after, Region.binds .any e = true → listed.getD e.on false = true) →
      Inv l a w → wpAny P .any full Q fuel listed a w := by
  intro fuel
  have start : ∀ (listed : Array Bool) (l : List Nat) (a : Act) (w : World), listed.size = full.size → l.Pairwise (· < ·) → (∀ i, i ∈ l ↔ i < full.size ∧ listed.getD i false = false) → Inv l a w →
      Region.ready .any full listed = [] → Q .normal a w := by
    intro listed l a w hsz hp hl h hr
    cases l with
    | nil => exact hQ _ _ h
    | cons i r =>
      exfalso
      have hi := (hl i).1 (by simp)
      obtain ⟨o, ho⟩ : ∃ o, full[i]? = some o := ⟨_, Array.getElem?_eq_getElem hi.1⟩
      have : i ∈ Region.ready .any full listed := by
        rw [mem_ready]
        refine ⟨?_, o, ho, fun e he hb => ?_⟩
        · have h2 := hi.2
          rw [Array.getD_eq_getD_getElem?, Array.getElem?_eq_getElem (by omega)] at h2 ⊢
          simpa using h2
        · have hlt := hq.down i o ho e he hb
          cases hle : listed.getD e.on false with
          | true => rfl
          | false =>
            have := (hl e.on).2 ⟨by omega, hle⟩
            rcases List.mem_cons.1 this with h' | h'
            · omega
            · have := List.rel_of_pairwise_cons hp h'; omega
      rw [hr] at this
      cases this
  induction fuel with
  | zero =>
    intro listed l a w hw hsz hlen hp hl hd h
    have hnil : l = [] := List.eq_nil_of_length_eq_zero (by omega)
    subst hnil
    refine ⟨?_, hQ _ _ h⟩
    cases hr : Region.ready .any full listed with
    | nil => rfl
    | cons i r =>
      exfalso
      have hi : i ∈ Region.ready .any full listed := by rw [hr]; simp
      have := (hl i).2 (ready_unlisted hsz hi)
      cases this
  | succ fuel ih =>
    intro listed l a w hw hsz hlen hp hl hd h
    refine ⟨start listed l a w hsz hp hl h, fun i hi => ?_⟩
    obtain ⟨hlt, hun⟩ := ready_unlisted hsz hi
    obtain ⟨_, o, ho, hall⟩ := mem_ready.1 hi
    obtain ⟨l1, l2, rfl⟩ := List.append_of_mem ((hl i).2 ⟨hlt, hun⟩)
    have hfree : ∀ j ∈ l1, (A.getD i 0).testBit j = false := fun j hj => by
      have hji : j < i := (List.pairwise_append.1 hp).2.2 j hj i (by simp)
      have hju := ((hl j).1 (by simp [hj])).2
      cases hA : (A.getD i 0).testBit j with
      | false => rfl
      | true =>
        exfalso
        obtain ⟨e, he, hb, hor⟩ := hq.anc i o ho j hji hA
        have hle := hall e he hb
        have : listed.getD j false = true := by
          rcases hor with h' | ⟨hlt', hA'⟩
          · rw [← h']; exact hle
          · exact downs_anc hq hsz hd (e.on + 1) e.on (by omega) hle hA' hlt'
        rw [hju] at this
        cases this
    refine wpOp_of_s1 (isI := isI) (isS := isS) (hs := hs) hw (fun a' w' hw' k => ?_) ho (hstep l1 i l2 o a w ho hw hp hfree h)
    have hp1 := List.pairwise_append.1 hp
    have hp2 := List.pairwise_cons.1 hp1.2.1
    refine ih _ (l1 ++ l2) a' w' hw' (by simpa using hsz) (by simp at hlen ⊢; omega) (List.pairwise_append.2 ⟨hp1.1, hp2.2, fun x hx y hy => hp1.2.2 x hx y (by simp [hy])⟩) (fun j => ?_) ?_ k
    · by_cases hji : j = i
      · subst hji
        constructor
        · intro hm
          exfalso
          rcases List.mem_append.1 hm with h' | h'
          · have := hp1.2.2 j h' j (by simp); omega
          · have := hp2.1 j h'; omega
        · rintro ⟨_, h'⟩
          rw [Array.getD_eq_getD_getElem?, Array.getElem?_setIfInBounds_self_of_lt (by omega)] at h'
          cases h'
      · rw [getD_set_ne false (Ne.symm hji), ← hl j]
        simp [hji]
    · intro k' ok hok hlk e he hb
      refine getD_set_true ?_
      by_cases hki : k' = i
      · subst hki
        rw [ho] at hok
        injection hok with hok
        subst hok
        exact hall e he hb
      · rw [getD_set_ne false (Ne.symm hki)] at hlk
        exact hd k' ok hok hlk e he hb

theorem ss_apnd {full : Array Oper} {K : Act → World → Prop} : ∀ (l1 l2 : List Nat) (a : Act) (w : World), ss P isI isS hs H full K (l1 ++ l2) a w ↔ ss P isI isS hs H full (fun a w => ss P isI isS hs H full K l2 a w) l1 a w
  | [], l2, a, w => Iff.rfl
  | i :: l1, l2, a, w => by
    simp only [List.cons_append, ss]
    have : (ss P isI isS hs H full K (l1 ++ l2)) = ss P isI isS hs H full (fun a w => ss P isI isS hs H full K l2 a w) l1 := by
      funext a w; exact propext (ss_apnd l1 l2 a w)
    rw [this]
/-- An operation is brought to the front, whatever comes behind. -/
theorem ss_ahead {full : Array Oper} {K : Act → World → Prop} (hsel : Region.noSelect full = true) {i : Nat} {o : Oper} (ho : full[i]? = some o) : ∀ (l1 : List Nat) (a : Act) (w : World),
    (∀ j ∈ l1, free isI isS hs full j i = true) → H w → ss P isI isS hs H full (s1 P isI isS hs H full o K) l1 a w → s1 P isI isS hs H full o (ss P isI isS hs H full K l1) a w
  | [], a, w, _, _, h => h
  | j :: l1, a, w, hf, hw, h => by
    have hj := hf j (by simp)
    unfold free at hj
    cases hoj : full[j]? with
    | none => rw [hoj] at hj; cases hj
    | some x =>
      rw [hoj, ho] at hj
      simp only [Bool.and_eq_true] at hj
      simp only [ss, hoj] at h ⊢
      exact s1_swap hw hj.1 hj.2 (fun cs b => Region.noSelect_spec hsel j x cs b hoj) (fun cs b => Region.noSelect_spec hsel i o cs b ho)
        (s1_mono hw (fun a w hw' k => ss_ahead hsel ho l1 a w (fun j' hj' => hf j' (by simp [hj'])) hw' k) h)

/-- An operation that looks at temporaries alone: two ways behind it are one. -/
theorem s1_both {full : Array Oper} {o : Oper} {K K' : Act → World → Prop} {a : Act} {w : World} (hc : clsO isI isS hs o = .p) (h : s1 P isI isS hs H full o K a w) (h' : s1 P isI isS hs H full o K' a w) : s1 P isI isS hs H full o (fun a w => K a w ∧ K' a w) a w := by
  unfold s1 at *
  split
  · rename_i hw
    rw [if_pos hw] at h h'
    rw [hc] at h h' ⊢
    obtain ⟨v, hv, k⟩ := h
    obtain ⟨u, hu, k'⟩ := h'
    have : u = v := by
      have e := hv w
      rw [hu w] at e
      injection e with e
      injection e
    subst this
    exact ⟨u, hv, k, k'⟩
  · rename_i hw
    rw [if_neg hw] at h h'
    exact ⟨h, h'⟩

def clsAt (isI isS : TypeId → Bool) (hs : List Nat) (full : Array Oper) (k : Nat) : Bool := match full[k]? with
  | some o => match clsO isI isS hs o with
    | .p => true
    | _ => false
  | none => false

def seqOK3 (isI isS : TypeId → Bool) (hs : List Nat) (j0 i0 : Nat) (full : Array Oper) (A : Array Nat) : Bool :=
  Region.noSelect full && decide (j0 < i0) && decide (i0 < full.size) && (List.range full.size).all fun i =>
    match full[i]? with
    | none => false
    | some o =>
      (o.after.all fun e => !Region.binds .any e || decide (e.on < i)) &&
      ((List.range i).all fun j =>
        if (A.getD i 0).testBit j then o.after.any fun e => Region.binds .any e && (e.on == j || (decide (j < e.on) && (A.getD e.on 0).testBit j))
        else (Nat.beq j j0 && Nat.beq i i0) || free isI isS hs full j i) &&
      (if j0 < i then if i < i0 then free isI isS hs full i j0 && clsAt isI isS hs full i else if i0 < i then (A.getD i 0).testBit j0 || (A.getD i 0).testBit i0 else true else true)

structure SeqOK3 (isI isS : TypeId → Bool) (hs : List Nat) (j0 i0 : Nat) (full : Array Oper) (A : Array Nat) : Prop where
  d : Downs full A
  lt : j0 < i0
  sz : i0 < full.size
  fre : ∀ i o, full[i]? = some o → ∀ j, j < i → (A.getD i 0).testBit j = false → (j = j0 ∧ i = i0) ∨ free isI isS hs full j i = true
  mid : ∀ i o, full[i]? = some o → j0 < i → i < i0 → free isI isS hs full i j0 = true ∧ clsO isI isS hs o = .p
  post : ∀ i o, full[i]? = some o → i0 < i → (A.getD i 0).testBit j0 = true ∨ (A.getD i 0).testBit i0 = true

theorem seqOK3_spec {j0 i0 : Nat} {full : Array Oper} {A : Array Nat} (h : seqOK3 isI isS hs j0 i0 full A = true) : SeqOK3 isI isS hs j0 i0 full A := by
  unfold seqOK3 at h
  rw [Bool.and_eq_true, Bool.and_eq_true, Bool.and_eq_true] at h
  have hlt : j0 < i0 := by simpa using h.1.1.2
  have hall : ∀ i o, full[i]? = some o → ((o.after.all fun e => !Region.binds .any e || decide (e.on < i)) = true ∧
      ((List.range i).all fun j => if (A.getD i 0).testBit j then o.after.any fun e => Region.binds .any e && (e.on == j || (decide (j < e.on) && (A.getD e.on 0).testBit j))
        else (Nat.beq j j0 && Nat.beq i i0) || free isI isS hs full j i) = true) ∧
      (if j0 < i then if i < i0 then free isI isS hs full i j0 && clsAt isI isS hs full i else if i0 < i then (A.getD i 0).testBit j0 || (A.getD i 0).testBit i0 else true else true) = true := fun i o ho => by
    have hlt : i < full.size := (Array.getElem?_eq_some_iff.1 ho).1
    have hi := List.all_eq_true.1 h.2 i (List.mem_range.2 hlt)
    rw [ho] at hi
    simp only [Bool.and_eq_true] at hi
    exact hi
  refine ⟨⟨h.1.1.1, fun i o ho e he hb => ?_, fun i o ho j hj hA => ?_⟩, hlt, by simpa using h.1.2, fun i o ho j hj hA => ?_, fun i o ho h1 h2 => ?_, fun i o ho h1 => ?_⟩
  · have := Array.all_eq_true_iff_forall_mem.1 (hall i o ho).1.1 e he
    simpa [hb] using this
  · have := List.all_eq_true.1 (hall i o ho).1.2 j (List.mem_range.2 hj)
    rw [if_pos hA] at this
    obtain ⟨e, he, hh⟩ := Array.any_eq_true'.1 this
    simp only [Bool.and_eq_true, Bool.or_eq_true, beq_iff_eq, decide_eq_true_eq] at hh
    exact ⟨e, he, hh.1, hh.2⟩
  · have := List.all_eq_true.1 (hall i o ho).1.2 j (List.mem_range.2 hj)
    rw [if_neg (by rw [hA]; decide)] at this
    simp only [Bool.or_eq_true, Bool.and_eq_true] at this
    exact this.imp (fun hh => ⟨Nat.eq_of_beq_eq_true hh.1, Nat.eq_of_beq_eq_true hh.2⟩) id
  · have := (hall i o ho).2
    rw [if_pos h1, if_pos h2, Bool.and_eq_true] at this
    refine ⟨this.1, ?_⟩
    have h3 := this.2
    unfold clsAt at h3
    rw [ho] at h3
    cases hc : clsO isI isS hs o with
    | p => rfl
    | _ => simp only [hc] at h3; cases h3
  · have := (hall i o ho).2
    rw [if_pos (by omega), if_neg (by omega), if_pos h1, Bool.or_eq_true] at this
    exact this

/-- What holds of the places that are left: both orders, as long as neither of the pair is run. -/
def Inv3 (P : Program) (isI isS : TypeId → Bool) (hs : List Nat) (H : World → Prop) (full : Array Oper) (K : Act → World → Prop) (j0 i0 : Nat) (l : List Nat) (a : Act) (w : World) : Prop :=
  (¬ (j0 ∈ l ∧ i0 ∈ l) ∧ ss P isI isS hs H full K l a w) ∨
  ∃ pre mid post, l = pre ++ j0 :: (mid ++ i0 :: post) ∧ ss P isI isS hs H full (fun a w => ss P isI isS hs H full K (j0 :: (mid ++ i0 :: post)) a w ∧ ss P isI isS hs H full K (mid ++ i0 :: j0 :: post) a w) pre a w

theorem inv3_step {full : Array Oper} {A : Array Nat} {K : Act → World → Prop} {j0 i0 : Nat} (hq : SeqOK3 isI isS hs j0 i0 full A) (l1 : List Nat) (i : Nat) (l2 : List Nat) (o : Oper) (a : Act) (w : World) (ho : full[i]? = some o) (hw : H w) (hp : (l1 ++ i :: l2).Pairwise (· < ·))
    (hn : ∀ j ∈ l1, (A.getD i 0).testBit j = false) (h : Inv3 P isI isS hs H full K j0 i0 (l1 ++ i :: l2) a w) : s1 P isI isS hs H full o (Inv3 P isI isS hs H full K j0 i0 (l1 ++ l2)) a w := by
  have hlt : ∀ j ∈ l1, j < i := fun j hj => (List.pairwise_append.1 hp).2.2 j hj i (by simp)
  have hfr : ∀ j ∈ l1, ¬ (j = j0 ∧ i = i0) → free isI isS hs full j i = true := fun j hj hne => (hq.fre i o ho j (hlt j hj) (hn j hj)).resolve_left hne
  have hji := hq.lt
  rcases h with ⟨hnb, h⟩ | ⟨pre, mid, post, he, h⟩
  · refine s1_mono hw (fun a w _ k => .inl ⟨fun hc => hnb ?_, k⟩) (ss_front hq.d.sel ho l2 l1 a w (fun j hj => hfr j hj fun hc => hnb ?_) hw h)
    · exact ⟨by have := hc.1; simp at this ⊢; rcases this with h' | h' <;> simp [h'], by have := hc.2; simp at this ⊢; rcases this with h' | h' <;> simp [h']⟩
    · obtain ⟨rfl, rfl⟩ := hc
      exact ⟨by simp [hj], by simp⟩
  · rw [he] at hp
    have hmem : i ∈ pre ++ j0 :: (mid ++ i0 :: post) := by rw [← he]; simp
    have hpp := List.pairwise_append.1 hp
    have hpj := List.pairwise_cons.1 hpp.2.1
    have hpm := List.pairwise_append.1 hpj.2
    have hpi := List.pairwise_cons.1 hpm.2.1
    -- where the operation stands
    have split : ∀ x y, pre ++ j0 :: (mid ++ i0 :: post) = x ++ i :: y → l1 = x ∧ l2 = y := by
      intro x y hxy
      rw [hxy] at hp he
      have hpx := List.pairwise_append.1 hp
      have hp0 : (l1 ++ i :: l2).Pairwise (· < ·) := by rw [he]; exact hp
      have hp1 := List.pairwise_append.1 hp0
      have aux : ∀ (u v x y : List Nat), (∀ j ∈ u, j < i) → (∀ j ∈ x, j < i) → u ++ i :: v = x ++ i :: y → u = x ∧ v = y := by
        intro u
        induction u with
        | nil =>
          intro v x y _ hx e
          cases x with
          | nil => simp at e; exact ⟨rfl, e⟩
          | cons b r => simp at e; have := hx b (by simp); omega
        | cons b r ih =>
          intro v x y hu hx e
          cases x with
          | nil => simp at e; have := hu b (by simp); omega
          | cons c s =>
            simp at e
            obtain ⟨h1, h2⟩ := ih v s y (fun j hj => hu j (by simp [hj])) (fun j hj => hx j (by simp [hj])) e.2
            exact ⟨by rw [e.1, h1], h2⟩
      exact aux l1 l2 x y (fun j hj => hp1.2.2 j hj i (by simp)) (fun j hj => hpx.2.2 j hj i (by simp)) he
    rcases List.mem_append.1 hmem with hm | hm
    · -- ahead of the pair
      obtain ⟨x, y, rfl⟩ := List.append_of_mem hm
      obtain ⟨rfl, rfl⟩ := split x (y ++ j0 :: (mid ++ i0 :: post)) (by simp)
      have hij : i < j0 := hpp.2.2 i (by simp) j0 (by simp)
      refine s1_mono hw (fun a w _ k => .inr ⟨l1 ++ y, mid, post, by simp, k⟩) (ss_front hq.d.sel ho y l1 a w (fun j hj => hfr j hj (by omega)) hw h)
    · rcases List.mem_cons.1 hm with rfl | hm
      · -- the first of the pair
        obtain ⟨rfl, rfl⟩ := split pre (mid ++ i0 :: post) rfl
        have h1 := ss_app (H := H) l1 _ a w hw (fun a w _ k => k.1) h
        have h2 := (ss_apnd l1 (i :: (mid ++ i0 :: post)) a w).2 h1
        refine s1_mono hw (fun a w _ k => .inl ⟨fun hc => ?_, k⟩) (ss_front hq.d.sel ho _ l1 a w (fun j hj => hfr j hj (by omega)) hw h2)
        rcases List.mem_append.1 hc.1 with h' | h'
        · have := hpp.2.2 i h' i (by simp); omega
        · have := hpj.1 i h'; omega
      · rcases List.mem_append.1 hm with hm | hm
        · -- between
          obtain ⟨x, y, rfl⟩ := List.append_of_mem hm
          obtain ⟨rfl, rfl⟩ := split (pre ++ j0 :: x) (y ++ i0 :: post) (by simp)
          have h1 : j0 < i := hpj.1 i (by simp)
          have h2 : i < i0 := hpm.2.2 i (by simp) i0 (by simp)
          obtain ⟨_, hcp⟩ := hq.mid i o ho h1 h2
          have h3 := ss_app (H := H) pre (s1 P isI isS hs H full o (fun a w => ss P isI isS hs H full K (j0 :: ((x ++ y) ++ i0 :: post)) a w ∧ ss P isI isS hs H full K ((x ++ y) ++ i0 :: j0 :: post) a w)) a w hw (fun a w hw' k => by
            refine s1_both hcp ?_ ?_
            · have k1 := k.1
              rw [show j0 :: ((x ++ i :: y) ++ i0 :: post) = (j0 :: x) ++ i :: (y ++ i0 :: post) from by simp] at k1
              have := ss_front hq.d.sel ho _ (j0 :: x) a w (fun j hj => hfr j (by simp at hj ⊢; rcases hj with h' | h' <;> simp [h']) (by omega)) hw' k1
              rw [show j0 :: ((x ++ y) ++ i0 :: post) = (j0 :: x) ++ (y ++ i0 :: post) from by simp]
              exact this
            · have k1 := k.2
              rw [show (x ++ i :: y) ++ i0 :: j0 :: post = x ++ i :: (y ++ i0 :: j0 :: post) from by simp] at k1
              have := ss_front hq.d.sel ho _ x a w (fun j hj => hfr j (by simp [hj]) (by omega)) hw' k1
              rw [show (x ++ y) ++ i0 :: j0 :: post = x ++ (y ++ i0 :: j0 :: post) from by simp]
              exact this) h
          exact s1_mono hw (fun a w _ k => .inr ⟨pre, x ++ y, post, by simp, k⟩) (ss_ahead hq.d.sel ho pre a w (fun j hj => hfr j (by simp [hj]) (by omega)) hw h3)
        · rcases List.mem_cons.1 hm with rfl | hm
          · -- the second of the pair
            obtain ⟨rfl, rfl⟩ := split (pre ++ j0 :: mid) post (by simp)
            have hj0 : ∃ oj, full[j0]? = some oj := ⟨_, Array.getElem?_eq_getElem (by have := hq.sz; omega)⟩
            obtain ⟨oj, hoj⟩ := hj0
            have h1 := ss_app (H := H) pre _ a w hw (fun a w _ k => k.2) h
            have h2 := (ss_apnd pre (mid ++ i :: j0 :: l2) a w).2 h1
            rw [← List.append_assoc] at h2
            have h3 := ss_front hq.d.sel ho _ (pre ++ mid) a w (fun j hj => hfr j (by simp at hj ⊢; rcases hj with h' | h' <;> simp [h']) (fun hc => by
              obtain ⟨rfl, _⟩ := hc
              rcases List.mem_append.1 hj with h' | h'
              · have := hpp.2.2 j h' j (by simp); omega
              · have := hpj.1 j (by simp [h']); omega)) hw h2
            refine s1_mono hw (fun a w hw' k => .inl ⟨fun hc => ?_, ?_⟩) h3
            · have := hc.2
              simp at this
              rcases this with h' | h' | h' | h'
              · have := hpp.2.2 i h' i (by simp); omega
              · omega
              · have := hpm.2.2 i h' i (by simp); omega
              · have := hpi.1 i h'; omega
            · rw [List.append_assoc] at k
              have k1 := (ss_apnd pre (mid ++ j0 :: l2) a w).1 k
              have k2 := ss_app (H := H) pre (fun a w => ss P isI isS hs H full K (j0 :: (mid ++ l2)) a w) a w hw' (fun a w hw'' k => by
                have := ss_front hq.d.sel hoj _ mid a w (fun j hj => by
                  have hj1 : j0 < j := hpj.1 j (by simp [hj])
                  have hj2 : j < i := hpm.2.2 j hj i (by simp)
                  obtain ⟨oo, hoo⟩ : ∃ oo, full[j]? = some oo := ⟨_, Array.getElem?_eq_getElem (by have := hq.sz; omega)⟩
                  exact (hq.mid j oo hoo hj1 hj2).1) hw'' k
                simp only [ss, hoj]
                exact this) k1
              rw [show (pre ++ j0 :: mid) ++ l2 = pre ++ (j0 :: (mid ++ l2)) from by simp]
              exact (ss_apnd pre _ a w).2 k2
          · -- behind the pair
            exfalso
            obtain ⟨x, y, rfl⟩ := List.append_of_mem hm
            obtain ⟨rfl, rfl⟩ := split (pre ++ j0 :: (mid ++ i0 :: x)) y (by simp)
            have h1 : i0 < i := hpi.1 i (by simp)
            rcases hq.post i o ho h1 with h' | h'
            · rw [hn j0 (by simp)] at h'; cases h'
            · rw [hn i0 (by simp)] at h'; cases h'
theorem ss_of_xsM {N : Nat} {full : Array Oper} {K : Env → World → Prop} (hsel : Region.noSelect full = true) (hd : ∀ (i : Nat) (o : Oper), full[i]? = some o → ∀ t, o.dst = some t → t < N) :
    ∀ (l : List Oper) (ix : List Nat) (env : Env) (a : Act) (w : World), ix.map (full[·]?) = l.map some → H w → Fits N env a → xs P isI isS hs H full K l env w →
      ss P isI isS hs H full (fun a' w' => ∃ env', Fits N env' a' ∧ K env' w') ix a w
  | [], [], env, a, w, _, _, hf, h => ⟨env, hf, h⟩
  | [], _ :: _, _, _, _, e, _, _, _ => by simp at e
  | _ :: _, [], _, _, _, e, _, _, _ => by simp at e
  | o :: l, k :: ix, env, a, w, e, hw, hf, h => by
    rw [List.map_cons, List.map_cons, List.cons.injEq] at e
    have h0 : full[k]? = some o := e.1
    obtain ⟨g, hg, ht, hff⟩ := h
    have hwt := gv_wanted hf hg
    simp only [ss, h0]
    unfold s1
    rw [hwt]
    cases g with
    | true =>
      obtain ⟨ho, ha⟩ := ht rfl
      rw [if_pos rfl, ← exec_eq hf (fun cs b => Region.noSelect_spec hsel k o cs b h0) ho]
      exact acts_mono hw (fun v w' hw' hx => ss_of_xsM hsel hd l ix _ _ w' e.2 hw' (hf.put o.dst (hd k o h0) v) hx) ha
    | false =>
      rw [if_neg (by decide)]
      exact ss_of_xsM hsel hd l ix _ _ w e.2 hw (hf.put o.dst (hd k o h0) undef) (hff rfl)
end

theorem map_range'_get {l : List Oper} : ∀ (n s : Nat), s + n ≤ l.length → (List.range' s n).map (l.toArray[·]?) = ((l.drop s).take n).map some
  | 0, s, _ => by simp
  | n + 1, s, h => by
    have hlt : s < l.length := by omega
    rw [List.range'_succ, List.map_cons, map_range'_get n (s + 1) (by omega), List.drop_eq_getElem_cons hlt, List.take_succ_cons, List.map_cons]
    simp [hlt]

/-- A region that draws, in which one pair of operations does not commute: behind the operations ahead of it, both orders. -/
theorem tdrawL {fn : Func} {R : Value → World → Prop} {k : List It} {id : Nat} {l : List Oper} {env : Env} {w : World} (j0 i0 : Nat) (hs : List Nat) (H : World → Prop) (hd : dstOK fn.ntmps l.toArray = true) (hq : seqOK3 isI isS hs j0 i0 l.toArray (Region.before l.toArray) = true) (hw : H w.drew)
    (h : xs Tryz.prog isI isS hs H l.toArray (fun env' w' => xs Tryz.prog isI isS hs H l.toArray (T Tryz.prog fn R k) (l.drop j0) env' w' ∧
      xs Tryz.prog isI isS hs H l.toArray (T Tryz.prog fn R k) ((l.drop (j0 + 1)).take (i0 - j0) ++ (l[j0]?).toList ++ l.drop (i0 + 1)) env' w') (l.take j0) env w.drew) :
    T Tryz.prog fn R (.code (.region id l.toArray true) :: k) env w := fun a ha => by
  obtain ⟨hs', hd⟩ := dstOK_spec hd
  have hq' := seqOK3_spec hq
  have hlt := hq'.lt
  have hsz : i0 < l.length := by simpa using hq'.sz
  have h1 := ss_of_xsM (N := fn.ntmps) hs' hd (l.take j0) (List.range' 0 j0) env a w.drew (by rw [map_range'_get _ _ (by omega)]; rfl) hw ha h
  have e1 : (List.range' j0 (l.length - j0)) = j0 :: (List.range' (j0 + 1) (i0 - j0 - 1) ++ i0 :: List.range' (i0 + 1) (l.length - i0 - 1)) := by
    have a1 : List.range' j0 (l.length - j0) = j0 :: List.range' (j0 + 1) (l.length - j0 - 1) := by
      rw [show l.length - j0 = (l.length - j0 - 1) + 1 from by omega, List.range'_succ]; rfl
    have a2 : List.range' i0 (l.length - i0) = i0 :: List.range' (i0 + 1) (l.length - i0 - 1) := by
      rw [show l.length - i0 = (l.length - i0 - 1) + 1 from by omega, List.range'_succ]; rfl
    rw [a1, ← a2]
    have := List.range'_append_1 (s := j0 + 1) (m := i0 - j0 - 1) (n := l.length - i0)
    rw [show j0 + 1 + (i0 - j0 - 1) = i0 from by omega] at this
    rw [this]
    congr 2; omega
  have h2 : Inv3 Tryz.prog isI isS hs H l.toArray (fun a' w' => ∃ env', Fits fn.ntmps env' a' ∧ T Tryz.prog fn R k env' w') j0 i0 (List.range l.length) a w.drew := by
    refine .inr ⟨List.range' 0 j0, List.range' (j0 + 1) (i0 - j0 - 1), List.range' (i0 + 1) (l.length - i0 - 1), ?_, ss_app _ _ a _ hw (fun a' w' hw' ⟨env', hf, hx⟩ => ⟨?_, ?_⟩) h1⟩
    · rw [← e1]
      have := List.range'_append_1 (s := 0) (m := j0) (n := l.length - j0)
      rw [Nat.zero_add] at this
      rw [this, List.range_eq_range']
      congr 1; omega
    · rw [← e1]
      refine ss_of_xsM (N := fn.ntmps) hs' hd (l.drop j0) _ env' a' w' ?_ hw' hf hx.1
      rw [map_range'_get _ _ (by omega), List.take_of_length_le (by rw [List.length_drop]; omega)]
    · refine ss_of_xsM (N := fn.ntmps) hs' hd _ _ env' a' w' ?_ hw' hf hx.2
      have a2 : List.range' (j0 + 1) (i0 - j0) = List.range' (j0 + 1) (i0 - j0 - 1) ++ [i0] := by
        have := List.range'_append_1 (s := j0 + 1) (m := i0 - j0 - 1) (n := 1)
        rw [show j0 + 1 + (i0 - j0 - 1) = i0 from by omega, show i0 - j0 - 1 + 1 = i0 - j0 from by omega] at this
        exact this.symm
      rw [show List.range' (j0 + 1) (i0 - j0 - 1) ++ i0 :: j0 :: List.range' (i0 + 1) (l.length - i0 - 1) = (List.range' (j0 + 1) (i0 - j0) ++ [j0]) ++ List.range' (i0 + 1) (l.length - i0 - 1) from by rw [a2]; simp]
      rw [List.map_append, List.map_append, map_range'_get _ _ (by omega), map_range'_get _ _ (by omega), List.map_append, List.map_append, List.take_of_length_le (l := l.drop (i0 + 1)) (by rw [List.length_drop]; omega)]
      congr 2
      simp [show j0 < l.length from by omega]
  refine wp_region_any mixed (wpAny_inv (isI := isI) (isS := isS) (hs := hs) (H := H) hq'.d _ (fun a' w' hI => ?_) (fun l1 i l2 o a w => inv3_step hq' l1 i l2 o a w) l.toArray.size _ (List.range l.length) a _ hw (by simp) (by simp) List.pairwise_lt_range (fun i => ?_) (fun i o ho hl => ?_) h2)
  · rcases hI with ⟨_, env', hf, ht⟩ | ⟨pre, mid, post, e, _⟩
    · exact ht a' hf
    · exfalso
      have := congrArg List.length e
      simp at this
  · simp [Array.getD_eq_getD_getElem?]; intro h; simp [h]
  · exfalso
    rw [Array.getD_eq_getD_getElem?, Array.getElem?_replicate] at hl
    split at hl <;> simp at hl
end Eng
end Go.Proofs.YtalnkjpgnkfedaaGreatDoor
