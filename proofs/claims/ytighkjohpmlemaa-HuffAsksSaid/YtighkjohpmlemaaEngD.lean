/-
  A region in two parts: all operations of the first part are ordered ahead of all of the second; some reads of the first part are held while it runs.
-/
import Derived.Test.YtighkjohpmlemaaEngC
namespace Go.Proofs.Ytighkjohpmlemaa
open Go.RowKit
namespace Eng

def seqOK2 (isI isS : TypeId → Bool) (hs : List Nat) (cut : Nat) (full : Array Oper) (A : Array Nat) : Bool :=
  Region.noSelect full && decide (cut ≤ full.size) && (List.range full.size).all fun i =>
    match full[i]? with
    | none => false
    | some o =>
      (o.after.all fun e => !Region.binds .any e || decide (e.on < i)) &&
      (List.range i).all fun j =>
        if (A.getD i 0).testBit j then o.after.any fun e => Region.binds .any e && (e.on == j || (decide (j < e.on) && (A.getD e.on 0).testBit j))
        else if i < cut then free isI isS hs full j i else decide (cut ≤ j) && free isI isS [] full j i

structure SeqOK2 (isI isS : TypeId → Bool) (hs : List Nat) (cut : Nat) (full : Array Oper) (A : Array Nat) : Prop where
  sel : Region.noSelect full = true
  le : cut ≤ full.size
  down : ∀ i o, full[i]? = some o → ∀ e ∈ o.after, Region.binds .any e = true → e.on < i
  anc : ∀ i o, full[i]? = some o → ∀ j, j < i → (A.getD i 0).testBit j = true → ∃ e ∈ o.after, Region.binds .any e = true ∧ (e.on = j ∨ (j < e.on ∧ (A.getD e.on 0).testBit j = true))
  fre : ∀ i o, full[i]? = some o → ∀ j, j < i → (A.getD i 0).testBit j = false → i < cut → free isI isS hs full j i = true
  fre2 : ∀ i o, full[i]? = some o → ∀ j, j < i → (A.getD i 0).testBit j = false → cut ≤ i → cut ≤ j ∧ free isI isS [] full j i = true

section
variable {P : Program} {isI isS : TypeId → Bool} {hs : List Nat} {H : World → Prop} {cut : Nat}

theorem seqOK2_spec {full : Array Oper} {A : Array Nat} (h : seqOK2 isI isS hs cut full A = true) : SeqOK2 isI isS hs cut full A := by
  unfold seqOK2 at h
  rw [Bool.and_eq_true, Bool.and_eq_true] at h
  have hall : ∀ i o, full[i]? = some o → (o.after.all fun e => !Region.binds .any e || decide (e.on < i)) = true ∧
      ∀ j, j < i → (if (A.getD i 0).testBit j then o.after.any fun e => Region.binds .any e && (e.on == j || (decide (j < e.on) && (A.getD e.on 0).testBit j))
        else if i < cut then free isI isS hs full j i else decide (cut ≤ j) && free isI isS [] full j i) = true := fun i o ho => by
    have hlt : i < full.size := (Array.getElem?_eq_some_iff.1 ho).1
    have hi := List.all_eq_true.1 h.2 i (List.mem_range.2 hlt)
    rw [ho] at hi
    simp only [Bool.and_eq_true] at hi
    exact ⟨hi.1, fun j hj => List.all_eq_true.1 hi.2 j (List.mem_range.2 hj)⟩
  refine ⟨h.1.1, by simpa using h.1.2, fun i o ho e he hb => ?_, fun i o ho j hj hA => ?_, fun i o ho j hj hA hc => ?_, fun i o ho j hj hA hc => ?_⟩
  · have := Array.all_eq_true_iff_forall_mem.1 (hall i o ho).1 e he
    simpa [hb] using this
  · have := (hall i o ho).2 j hj
    rw [if_pos hA] at this
    obtain ⟨e, he, hh⟩ := Array.any_eq_true'.1 this
    simp only [Bool.and_eq_true, Bool.or_eq_true, beq_iff_eq, decide_eq_true_eq] at hh
    exact ⟨e, he, hh.1, hh.2⟩
  · have := (hall i o ho).2 j hj
    rw [if_neg (by rw [hA]; decide), if_pos hc] at this
    exact this
  · have := (hall i o ho).2 j hj
    rw [if_neg (by rw [hA]; decide), if_neg (by omega), Bool.and_eq_true] at this
    exact ⟨by simpa using this.1, this.2⟩

theorem listed_anc2 {full : Array Oper} {A : Array Nat} (hq : SeqOK2 isI isS hs cut full A) {listed : Array Bool} (hsz : listed.size = full.size)
    (down : ∀ i o, full[i]? = some o → listed.getD i false = true → ∀ e ∈ o.after, Region.binds .any e = true → listed.getD e.on false = true) {j : Nat} :
    ∀ (m k : Nat), k < m → listed.getD k false = true → (A.getD k 0).testBit j = true → j < k → listed.getD j false = true := by
  intro m
  induction m with
  | zero => intro k hk; omega
  | succ m ih =>
    intro k hk hlk hAk hjk
    have hks : k < full.size := by
      rcases Nat.lt_or_ge k full.size with h' | h'
      · exact h'
      · rw [Array.getD_eq_getD_getElem?, Array.getElem?_eq_none (by omega)] at hlk; cases hlk
    obtain ⟨ok, hok⟩ : ∃ ok, full[k]? = some ok := ⟨_, Array.getElem?_eq_getElem hks⟩
    obtain ⟨e, he, hb, hor⟩ := hq.anc k ok hok j hjk hAk
    have hle := down k ok hok hlk e he hb
    rcases hor with h' | ⟨hlt, hA'⟩
    · rw [← h']; exact hle
    · exact ih e.on (by have := hq.down k ok hok e he hb; omega) hle hA' hlt

/-- The two parts: l1 is left of the first, l2 of the second. -/
def ss2 (P : Program) (isI isS : TypeId → Bool) (hs : List Nat) (H : World → Prop) (full : Array Oper) (K : Act → World → Prop) (l1 l2 : List Nat) (a : Act) (w : World) : Prop :=
  ss P isI isS hs H full (fun a w => ss P isI isS [] noH full K l2 a w) l1 a w

theorem ready_unlisted {full : Array Oper} {listed : Array Bool} {i : Nat} (hsz : listed.size = full.size) (hi : i ∈ Region.ready .any full listed) : i < full.size ∧ listed.getD i false = false := by
  obtain ⟨h0, o, ho, _⟩ := mem_ready.1 hi
  have hlt : i < full.size := (Array.getElem?_eq_some_iff.1 ho).1
  refine ⟨hlt, ?_⟩
  rw [Array.getD_eq_getD_getElem?, Array.getElem?_eq_getElem (by omega)] at h0 ⊢
  simpa using h0

theorem wpAny_of_ss2 {full : Array Oper} {A : Array Nat} (hq : SeqOK2 isI isS hs cut full A) {K : Act → World → Prop} {Q : Exit → Act → World → Prop} (hQ : ∀ a w, K a w → Q .normal a w) :
    ∀ (fuel : Nat) (listed : Array Bool) (l1 l2 : List Nat) (a : Act) (w : World), (l1 ≠ [] → H w) → listed.size = full.size → (l1 ++ l2).length ≤ fuel → (l1 ++ l2).Pairwise (· < ·) → (∀ i ∈ l1, i < cut) → (∀ i ∈ l2, cut ≤ i) → (∀ i, i ∈ l1 ++ l2 ↔ i < full.size ∧ listed.getD i false = false) →
      (∀ i o, full[i]? = some o → listed.getD i false = true → ∀ e ∈ o.after, Region.binds .any e = true → listed.getD e.on false = true) →
      ss2 P isI isS hs H full K l1 l2 a w → wpAny P .any full Q fuel listed a w := by
  intro fuel
  have start : ∀ (listed : Array Bool) (l : List Nat), listed.size = full.size → l.Pairwise (· < ·) → (∀ i, i ∈ l ↔ i < full.size ∧ listed.getD i false = false) →
      Region.ready .any full listed = [] → l = [] := by
    intro listed l hsz hp hl hr
    cases l with
    | nil => rfl
    | cons i r =>
      exfalso
      have hi := (hl i).1 (by simp)
      obtain ⟨o, ho⟩ : ∃ o, full[i]? = some o := ⟨_, Array.getElem?_eq_getElem hi.1⟩
      have : i ∈ Region.ready .any full listed := by
        rw [mem_ready]
        refine ⟨?_, o, ho, fun e he hb => ?_⟩
        · have h2 := hi.2
          rw [Array.getD_eq_getD_getElem?, Array.getElem?_eq_getElem (by omega)] at h2 ⊢
          simpa using h2
        · have hlt := hq.down i o ho e he hb
          cases hle : listed.getD e.on false with
          | true => rfl
          | false =>
            have := (hl e.on).2 ⟨by omega, hle⟩
            rcases List.mem_cons.1 this with h' | h'
            · omega
            · have := List.rel_of_pairwise_cons hp h'; omega
      rw [hr] at this
      cases this
  induction fuel with
  | zero =>
    intro listed l1 l2 a w hw hsz hlen hp hb1 hb2 hl hd h
    have hnil : l1 ++ l2 = [] := List.eq_nil_of_length_eq_zero (by omega)
    obtain ⟨rfl, rfl⟩ := List.append_eq_nil_iff.1 hnil
    refine ⟨?_, hQ _ _ h⟩
    cases hr : Region.ready .any full listed with
    | nil => rfl
    | cons i r =>
      exfalso
      have hi : i ∈ Region.ready .any full listed := by rw [hr]; simp
      have := (hl i).2 (ready_unlisted hsz hi)
      cases this
  | succ fuel ih =>
    intro listed l1 l2 a w hw hsz hlen hp hb1 hb2 hl hd h
    refine ⟨fun hr => ?_, fun i hi => ?_⟩
    · obtain ⟨rfl, rfl⟩ := List.append_eq_nil_iff.1 (start listed _ hsz hp hl hr)
      exact hQ _ _ h
    obtain ⟨hlt, hun⟩ := ready_unlisted hsz hi
    obtain ⟨_, o, ho, hall⟩ := mem_ready.1 hi
    have notAnc : ∀ j, j < i → listed.getD j false = false → (A.getD i 0).testBit j = false := fun j hji hju => by
      cases hA : (A.getD i 0).testBit j with
      | false => rfl
      | true =>
        exfalso
        obtain ⟨e, he, hb, hor⟩ := hq.anc i o ho j hji hA
        have hle := hall e he hb
        have : listed.getD j false = true := by
          rcases hor with h' | ⟨hlt', hA'⟩
          · rw [← h']; exact hle
          · exact listed_anc2 hq hsz hd (e.on + 1) e.on (by omega) hle hA' hlt'
        rw [hju] at this
        cases this
    have unl : ∀ j, j ∈ l1 ++ l2 → listed.getD j false = false := fun j hj => ((hl j).1 hj).2
    have hd' : ∀ i' o', full[i']? = some o' → (listed.setIfInBounds i true).getD i' false = true → ∀ e ∈ o'.after, Region.binds .any e = true → (listed.setIfInBounds i true).getD e.on false = true := by
      intro k' ok hok hlk e he hb
      refine getD_set_true ?_
      by_cases hki : k' = i
      · subst hki
        rw [ho] at hok
        injection hok with hok
        subst hok
        exact hall e he hb
      · rw [getD_set_ne false (Ne.symm hki)] at hlk
        exact hd k' ok hok hlk e he hb
    have memb' : ∀ (x y : List Nat), l1 ++ l2 = x ++ i :: y → ∀ j, j ∈ x ++ y ↔ j < full.size ∧ (listed.setIfInBounds i true).getD j false = false := by
      intro x y hxy j
      rw [hxy] at hp hl
      have hp1 := List.pairwise_append.1 hp
      have hp2 := List.pairwise_cons.1 hp1.2.1
      by_cases hji : j = i
      · subst hji
        constructor
        · intro hm
          exfalso
          rcases List.mem_append.1 hm with h' | h'
          · have := hp1.2.2 j h' j (by simp); omega
          · have := hp2.1 j h'; omega
        · rintro ⟨_, h'⟩
          rw [Array.getD_eq_getD_getElem?, Array.getElem?_setIfInBounds_self_of_lt (by omega)] at h'
          cases h'
      · rw [getD_set_ne false (Ne.symm hji), ← hl j]
        simp [hji]
    rcases List.mem_append.1 ((hl i).2 ⟨hlt, hun⟩) with hm | hm
    · obtain ⟨x, y, rfl⟩ := List.append_of_mem hm
      have hic : i < cut := hb1 i (by simp)
      have hfree : ∀ j ∈ x, free isI isS hs full j i = true := fun j hj => by
        have hji : j < i := by
          rw [List.append_assoc] at hp
          exact (List.pairwise_append.1 hp).2.2 j hj i (by simp)
        exact hq.fre i o ho j hji (notAnc j hji (unl j (by simp [hj]))) hic
      refine wpOp_of_s1 (isI := isI) (isS := isS) (hs := hs) (hw (by simp)) (fun a' w' hw' k => ?_) ho (ss_front hq.sel ho y x a w hfree (hw (by simp)) h)
      have hxy : (x ++ i :: y) ++ l2 = x ++ i :: (y ++ l2) := by simp
      refine ih _ (x ++ y) l2 a' w' (fun _ => hw') (by simpa using hsz) (by simp at hlen ⊢; omega) ?_ (fun j hj => hb1 j (by rcases List.mem_append.1 hj with h' | h' <;> simp [h'])) hb2 (fun j => by have := memb' x (y ++ l2) hxy j; simpa using this) hd' k
      rw [hxy] at hp
      have hp1 := List.pairwise_append.1 hp
      have hp2 := List.pairwise_cons.1 hp1.2.1
      rw [List.append_assoc]
      exact List.pairwise_append.2 ⟨hp1.1, hp2.2, fun u hu v hv => hp1.2.2 u hu v (by simp [hv])⟩
    · have hic : cut ≤ i := hb2 i hm
      have hnil : l1 = [] := by
        cases l1 with
        | nil => rfl
        | cons j r =>
          exfalso
          have hjc := hb1 j (by simp)
          have hji : j < i := by omega
          have := hq.fre2 i o ho j hji (notAnc j hji (unl j (by simp))) hic
          omega
      subst hnil
      obtain ⟨x, y, rfl⟩ := List.append_of_mem hm
      rw [List.nil_append] at hp
      have hfree : ∀ j ∈ x, free isI isS [] full j i = true := fun j hj => by
        have hji : j < i := (List.pairwise_append.1 hp).2.2 j hj i (by simp)
        exact (hq.fre2 i o ho j hji (notAnc j hji (unl j (by simp [hj]))) hic).2
      refine wpOp_of_s1 (isI := isI) (isS := isS) (hs := []) (H := noH) trivial (fun a' w' _ k => ?_) ho (ss_front hq.sel ho y x a w hfree trivial h)
      have hp1 := List.pairwise_append.1 hp
      have hp2 := List.pairwise_cons.1 hp1.2.1
      exact ih _ [] (x ++ y) a' w' (fun e => absurd rfl e) (by simpa using hsz) (by simp at hlen ⊢; omega) (by simpa using List.pairwise_append.2 ⟨hp1.1, hp2.2, fun u hu v hv => hp1.2.2 u hu v (by simp [hv])⟩) (fun j hj => by cases hj)
        (fun j hj => hb2 j (by rcases List.mem_append.1 hj with h' | h' <;> simp [h'])) (fun j => by have := memb' x y (by simp) j; simpa using this) hd' k

theorem ss_app {full : Array Oper} {K : Act → World → Prop} : ∀ (l : List Nat) (K' : Act → World → Prop) (a : Act) (w : World), H w → (∀ a w, H w → K a w → K' a w) → ss P isI isS hs H full K l a w → ss P isI isS hs H full K' l a w
  | [], K', a, w, hw, hk, h => hk _ _ hw h
  | i :: l, K', a, w, hw, hk, h => by
    simp only [ss] at h ⊢
    split at h
    · exact h.elim
    · exact s1_mono hw (fun a w hw' k => ss_app l K' a w hw' hk k) h

theorem ss_of_xs2 {N : Nat} {full : Array Oper} {K : Env → World → Prop} (hsel : Region.noSelect full = true) (hd : ∀ (i : Nat) (o : Oper), full[i]? = some o → ∀ t, o.dst = some t → t < N) :
    ∀ (l : List Oper) (k : Nat) (env : Env) (a : Act) (w : World), (∀ j o, l[j]? = some o → full[k + j]? = some o) → H w → Fits N env a → xs P isI isS hs H full K l env w →
      ss P isI isS hs H full (fun a' w' => ∃ env', Fits N env' a' ∧ K env' w') (List.range' k l.length) a w
  | [], k, env, a, w, _, _, hf, h => ⟨env, hf, h⟩
  | o :: l, k, env, a, w, hl, hw, hf, h => by
    have h0 : full[k]? = some o := by simpa using (hl 0 o (by simp))
    have hl' : ∀ j o', l[j]? = some o' → full[k + 1 + j]? = some o' := fun j o' ho' => by have := hl (j + 1) o' (by simpa using ho'); simpa [Nat.add_assoc, Nat.add_comm 1 j] using this
    obtain ⟨g, hg, ht, hff⟩ := h
    simp only [List.length_cons, List.range'_succ, ss, h0]
    unfold s1
    rw [gv_wanted hf hg]
    cases g with
    | true =>
      obtain ⟨ho, ha⟩ := ht rfl
      rw [if_pos rfl, ← exec_eq hf (fun cs b => Region.noSelect_spec hsel k o cs b h0) ho]
      exact acts_mono hw (fun v w' hw' hx => ss_of_xs2 hsel hd l (k + 1) _ _ w' hl' hw' (hf.put o.dst (hd k o h0) v) hx) ha
    | false =>
      rw [if_neg (by decide)]
      exact ss_of_xs2 hsel hd l (k + 1) _ _ w hl' hw (hf.put o.dst (hd k o h0) undef) (hff rfl)

end

/-- A region that draws, in two parts. -/
theorem tdrawC {fn : Func} {R : Value → World → Prop} {k : List It} {id : Nat} {l : List Oper} {env : Env} {w : World} (cut : Nat) (hs : List Nat) (H : World → Prop) (hd : dstOK fn.ntmps l.toArray = true) (hq : seqOK2 isI isS hs cut l.toArray (Region.before l.toArray) = true) (hw : H w.drew)
    (h : xs Try.prog isI isS hs H l.toArray (fun env' w' => xs Try.prog isI isS [] noH l.toArray (T Try.prog fn R k) (l.drop cut) env' w') (l.take cut) env w.drew) :
    T Try.prog fn R (.code (.region id l.toArray true) :: k) env w := fun a ha => by
  obtain ⟨hs', hd⟩ := dstOK_spec hd
  have hq' := seqOK2_spec hq
  have hle : cut ≤ l.length := by simpa using hq'.le
  have h1 := ss_of_xs2 (N := fn.ntmps) hs' hd (l.take cut) 0 env a w.drew (fun j o ho => by
    rw [Nat.zero_add]
    have hj : j < cut := by
      have := (List.getElem?_eq_some_iff.1 ho).1
      rw [List.length_take] at this; omega
    rw [List.getElem?_take_of_lt hj] at ho
    simpa using ho) hw ha h
  rw [List.length_take, Nat.min_eq_left hle] at h1
  have h2 : ss2 Try.prog isI isS hs H l.toArray (fun a' w' => ∃ env', Fits fn.ntmps env' a' ∧ T Try.prog fn R k env' w') (List.range' 0 cut) (List.range' cut (l.length - cut)) a w.drew := by
    refine ss_app _ _ a _ hw (fun a' w' _ ⟨env', hf, hx⟩ => ?_) h1
    have := ss_of_xs2 (N := fn.ntmps) hs' hd (l.drop cut) cut env' a' w' (fun j o ho => by
      rw [List.getElem?_drop] at ho
      simpa using ho) trivial hf hx
    rwa [List.length_drop] at this
  refine wp_region_any mixed (wpAny_of_ss2 hq' (fun a' w' ⟨env', hf, ht⟩ => ht a' hf) l.toArray.size _ (List.range' 0 cut) (List.range' cut (l.length - cut)) a _ (fun _ => hw) (by simp) (by simp; omega) ?_ (fun i hi => by rw [List.mem_range'_1] at hi; omega) (fun i hi => by rw [List.mem_range'_1] at hi; omega) (fun i => ?_) (fun i o ho hl => ?_) h2)
  · have e : List.range' 0 cut ++ List.range' cut (l.length - cut) = List.range l.length := by
      have := List.range'_append_1 (s := 0) (m := cut) (n := l.length - cut)
      rw [Nat.zero_add] at this
      rw [this, List.range_eq_range']
      congr 1; omega
    rw [e]; exact List.pairwise_lt_range
  · rw [List.mem_append, List.mem_range'_1, List.mem_range'_1]
    simp [Array.getD_eq_getD_getElem?]
    constructor
    · intro hh
      have : i < l.length := by omega
      exact ⟨this, by simp [this]⟩
    · intro hh; omega
  · exfalso
    rw [Array.getD_eq_getD_getElem?, Array.getElem?_replicate] at hl
    split at hl <;> simp at hl

/-- Two labels. -/
def At2 {α β : Type} (l0 l1 : Nat) (E0 : α → Env) (I0 : α → World → Prop) (m0 : α → Nat) (E1 : β → Env) (I1 : β → World → Prop) (m1 : β → Nat) : Nat → Nat → Env → World → Prop :=
  fun l n env w => (l = l0 ∧ ∃ x, Sub (E0 x) env ∧ I0 x w ∧ m0 x = n) ∨ (l = l1 ∧ ∃ x, Sub (E1 x) env ∧ I1 x w ∧ m1 x = n)

theorem tscope2 {P : Program} {fn : Func} {R : Value → World → Prop} {k : List It} {env : Env} {w : World} {α β : Type} {c : Code} {ys0 ys1 : List It} (l0 l1 : Nat) (hne : l0 ≠ l1) (hf0 : after c l0 = some ys0) (hf1 : after c l1 = some ys1) (E0 : α → Env) (I0 : α → World → Prop) (m0 : α → Nat) (E1 : β → Env) (I1 : β → World → Prop) (m1 : β → Nat)
    (seg0 : ∀ x w, I0 x w → (∀ y w', I1 y w' → m1 y < m0 x → T P fn R (ys1 ++ .scp (Less (At2 l0 l1 E0 I0 m0 E1 I1 m1) (m0 x)) :: k) (E1 y) w') → T P fn R (ys0 ++ .scp (Less (At2 l0 l1 E0 I0 m0 E1 I1 m1) (m0 x)) :: k) (E0 x) w)
    (seg1 : ∀ x w, I1 x w → (∀ y w', I0 y w' → m0 y < m1 x → T P fn R (ys0 ++ .scp (Less (At2 l0 l1 E0 I0 m0 E1 I1 m1) (m1 x)) :: k) (E0 y) w') → T P fn R (ys1 ++ .scp (Less (At2 l0 l1 E0 I0 m0 E1 I1 m1) (m1 x)) :: k) (E1 x) w)
    (first : (∀ x w, I0 x w → T P fn R (ys0 ++ .scp (Some (At2 l0 l1 E0 I0 m0 E1 I1 m1)) :: k) (E0 x) w) → (∀ x w, I1 x w → T P fn R (ys1 ++ .scp (Some (At2 l0 l1 E0 I0 m0 E1 I1 m1)) :: k) (E1 x) w) → T P fn R (.code c :: .scp (Some (At2 l0 l1 E0 I0 m0 E1 I1 m1)) :: k) env w) :
    T P fn R (.code (.scope c) :: k) env w := by
  refine tscope (At2 l0 l1 E0 I0 m0 E1 I1 m1) ?_ ?_ ?_
  · rintro l n env w (⟨rfl, _⟩ | ⟨rfl, _⟩)
    · exact ⟨ys0, hf0⟩
    · exact ⟨ys1, hf1⟩
  · rintro n l ys' env w ha (⟨rfl, x, hs, hI, rfl⟩ | ⟨rfl, x, hs, hI, rfl⟩) hj
    · rw [hf0] at ha; injection ha with ha; subst ha
      exact tweak (seg0 x w hI fun y w' hy hlt => hj l1 ys1 (E1 y) w' hf1 ⟨m1 y, hlt, .inr ⟨rfl, y, fun _ _ h => h, hy, rfl⟩⟩) hs
    · rw [hf1] at ha; injection ha with ha; subst ha
      exact tweak (seg1 x w hI fun y w' hy hlt => hj l0 ys0 (E0 y) w' hf0 ⟨m0 y, hlt, .inl ⟨rfl, y, fun _ _ h => h, hy, rfl⟩⟩) hs
  · intro h
    exact first (fun x w hI => h l0 ys0 (E0 x) w hf0 ⟨m0 x, .inl ⟨rfl, x, fun _ _ h => h, hI, rfl⟩⟩) (fun x w hI => h l1 ys1 (E1 x) w hf1 ⟨m1 x, .inr ⟨rfl, x, fun _ _ h => h, hI, rfl⟩⟩)
end Eng
end Go.Proofs.Ytighkjohpmlemaa
