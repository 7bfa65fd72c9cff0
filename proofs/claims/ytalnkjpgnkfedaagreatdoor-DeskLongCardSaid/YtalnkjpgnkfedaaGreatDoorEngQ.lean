/-
  A region that draws its order, whatever operations touch the world: an operation that commutes with all that is left and does not wait for it may be run at once; where there is none, every operation that may come next is looked at.
-/
import Derived.Test.YtalnkjpgnkfedaaGreatDoorEngD
namespace Go.Proofs.YtalnkjpgnkfedaaGreatDoor
open Go.RowKit
namespace Eng

/-- Nothing on which i waits is left. -/
def rdyB (full : Array Oper) (l : List Nat) (i : Nat) : Bool := match full[i]? with
  | none => false
  | some o => o.after.all fun e => !Region.binds .any e || !(l.contains e.on)
theorem rdyB_spec {full : Array Oper} {l : List Nat} {i : Nat} {o : Oper} (ho : full[i]? = some o) : rdyB full l i = true ↔ ∀ e ∈ o.after, Region.binds .any e = true → e.on ∉ l := by
  unfold rdyB
  rw [ho]
  dsimp only
  rw [Array.all_eq_true_iff_forall_mem]
  constructor
  · intro h e he hb hm
    have := h e he
    rw [hb] at this
    simp [hm] at this
  · intro h e he
    cases hb : Region.binds .any e with
    | false => rfl
    | true => simp [h e he hb]

section
variable {P : Program} {isI isS : TypeId → Bool} {hs : List Nat} {H : World → Prop}

/-- All orders of what is left. -/
def sch (P : Program) (isI isS : TypeId → Bool) (hs : List Nat) (H : World → Prop) (full : Array Oper) (K : Act → World → Prop) : Nat → List Nat → Act → World → Prop
  | 0, l, a, w => l = [] ∧ K a w
  | f + 1, l, a, w => (l = [] → K a w) ∧ ∀ i o, i ∈ l → full[i]? = some o → rdyB full l i = true → s1 P isI isS hs H full o (sch P isI isS hs H full K f (l.erase i)) a w

/-- What is not left waited for nothing that is left. -/
def Clo (full : Array Oper) (l : List Nat) : Prop := ∀ i o, full[i]? = some o → i ∉ l → ∀ e ∈ o.after, Region.binds .any e = true → e.on ∉ l

/-- The ancestors that are claimed for each operation are ancestors. -/
def ancOK (full : Array Oper) (A : Array Nat) : Bool :=
  Region.noSelect full && (List.range full.size).all fun i =>
    match full[i]? with
    | none => false
    | some o =>
      (o.after.all fun e => !Region.binds .any e || decide (e.on < i)) &&
      (List.range i).all fun j => !(A.getD i 0).testBit j || o.after.any fun e => Region.binds .any e && (e.on == j || (decide (j < e.on) && (A.getD e.on 0).testBit j))
structure AncOK (full : Array Oper) (A : Array Nat) : Prop where
  sel : Region.noSelect full = true
  down : ∀ i o, full[i]? = some o → ∀ e ∈ o.after, Region.binds .any e = true → e.on < i
  anc : ∀ i o, full[i]? = some o → ∀ j, j < i → (A.getD i 0).testBit j = true → ∃ e ∈ o.after, Region.binds .any e = true ∧ (e.on = j ∨ (j < e.on ∧ (A.getD e.on 0).testBit j = true))
theorem ancOK_spec {full : Array Oper} {A : Array Nat} (h : ancOK full A = true) : AncOK full A := by
  unfold ancOK at h
  rw [Bool.and_eq_true] at h
  have hall : ∀ i o, full[i]? = some o → (o.after.all fun e => !Region.binds .any e || decide (e.on < i)) = true ∧
      ∀ j, j < i → (!(A.getD i 0).testBit j || o.after.any fun e => Region.binds .any e && (e.on == j || (decide (j < e.on) && (A.getD e.on 0).testBit j))) = true := fun i o ho => by
    have hlt : i < full.size := (Array.getElem?_eq_some_iff.1 ho).1
    have hi := List.all_eq_true.1 h.2 i (List.mem_range.2 hlt)
    rw [ho] at hi
    simp only [Bool.and_eq_true] at hi
    exact ⟨hi.1, fun j hj => List.all_eq_true.1 hi.2 j (List.mem_range.2 hj)⟩
  refine ⟨h.1, fun i o ho e he hb => ?_, fun i o ho j hj hA => ?_⟩
  · have := Array.all_eq_true_iff_forall_mem.1 (hall i o ho).1 e he
    simpa [hb] using this
  · have := (hall i o ho).2 j hj
    rw [hA, Bool.not_true, Bool.false_or] at this
    obtain ⟨e, he, hh⟩ := Array.any_eq_true'.1 this
    simp only [Bool.and_eq_true, Bool.or_eq_true, beq_iff_eq, decide_eq_true_eq] at hh
    exact ⟨e, he, hh.1, hh.2⟩

theorem clo_anc {full : Array Oper} {A : Array Nat} (hq : AncOK full A) {l : List Nat} (hc : Clo full l) {j : Nat} : ∀ (m k : Nat), k < m → k < full.size → k ∉ l → (A.getD k 0).testBit j = true → j < k → j ∉ l
  | 0, k, hk, _, _, _, _ => by omega
  | m + 1, k, hk, hks, hkl, hA, hjk => by
    obtain ⟨o, ho⟩ : ∃ o, full[k]? = some o := ⟨_, Array.getElem?_eq_getElem hks⟩
    obtain ⟨e, he, hb, hor⟩ := hq.anc k o ho j hjk hA
    have hle := hc k o ho hkl e he hb
    have hd := hq.down k o ho e he hb
    rcases hor with h' | ⟨hlt, hA'⟩
    · rw [← h']; exact hle
    · exact clo_anc hq hc m e.on (by omega) (by omega) hle hA' hlt
/-- What is ready has no ancestor that is left. -/
theorem rdy_anc {full : Array Oper} {A : Array Nat} (hq : AncOK full A) {l : List Nat} (hc : Clo full l) {i j : Nat} {o : Oper} (ho : full[j]? = some o) (hr : rdyB full l j = true) (hij : i < j) (hA : (A.getD j 0).testBit i = true) : i ∉ l := by
  obtain ⟨e, he, hb, hor⟩ := hq.anc j o ho i hij hA
  have hle := (rdyB_spec ho).1 hr e he hb
  have hd := hq.down j o ho e he hb
  have hjs : j < full.size := (Array.getElem?_eq_some_iff.1 ho).1
  rcases hor with h' | ⟨hlt, hA'⟩
  · rw [← h']; exact hle
  · exact clo_anc hq hc (e.on + 1) e.on (by omega) (by omega) hle hA' hlt
theorem Clo.erase {full : Array Oper} {l : List Nat} (hc : Clo full l) (hn : l.Nodup) {j : Nat} {o : Oper} (ho : full[j]? = some o) (hr : rdyB full l j = true) : Clo full (l.erase j) := fun i oi hoi hi e he hb hm => by
  have hm' := List.mem_of_mem_erase hm
  by_cases hij : i = j
  · subst hij
    rw [ho] at hoi
    injection hoi with hoi
    subst hoi
    exact (rdyB_spec ho).1 hr e he hb hm'
  · exact hc i oi hoi (fun h => hi ((hn.mem_erase_iff).2 ⟨hij, h⟩)) e he hb hm'
theorem rdy_erase {full : Array Oper} {l : List Nat} {i j : Nat} (hr : rdyB full l j = true) : rdyB full (l.erase i) j = true := by
  cases ho : full[j]? with
  | none => unfold rdyB at hr; rw [ho] at hr; cases hr
  | some o => rw [rdyB_spec ho] at hr ⊢; exact fun e he hb hm => hr e he hb (List.mem_of_mem_erase hm)

/-- i may be run at once. -/
def soloB (isI isS : TypeId → Bool) (hs : List Nat) (full : Array Oper) (A : Array Nat) (l : List Nat) (i : Nat) : Bool :=
  l.contains i && rdyB full l i && l.all fun j => j == i || free isI isS hs full i j || (decide (i < j) && (A.getD j 0).testBit i)
structure Solo (isI isS : TypeId → Bool) (hs : List Nat) (full : Array Oper) (A : Array Nat) (l : List Nat) (i : Nat) : Prop where
  mem : i ∈ l
  rdy : rdyB full l i = true
  all : ∀ j ∈ l, j ≠ i → free isI isS hs full i j = true ∨ (i < j ∧ (A.getD j 0).testBit i = true)
theorem soloB_spec {full : Array Oper} {A : Array Nat} {l : List Nat} {i : Nat} (h : soloB isI isS hs full A l i = true) : Solo isI isS hs full A l i := by
  unfold soloB at h
  simp only [Bool.and_eq_true, List.contains_iff_mem, List.all_eq_true, Bool.or_eq_true, beq_iff_eq, decide_eq_true_eq] at h
  refine ⟨h.1.1, h.1.2, fun j hj hne => ?_⟩
  rcases h.2 j hj with (h' | h') | h'
  · exact absurd h' hne
  · exact .inl h'
  · exact .inr h'

theorem sch_solo {full : Array Oper} {A : Array Nat} (hq : AncOK full A) {K : Act → World → Prop} : ∀ (f : Nat) (l : List Nat) (i : Nat) (o : Oper) (a : Act) (w : World), H w → l.length = f + 1 → l.Nodup → Clo full l → Solo isI isS hs full A l i → full[i]? = some o →
    s1 P isI isS hs H full o (sch P isI isS hs H full K f (l.erase i)) a w → sch P isI isS hs H full K (f + 1) l a w
  | f, l, i, o, a, w, hw, hlen, hn, hc, hS, ho, h => by
    refine ⟨(fun e => by rw [e] at hlen; cases hlen), fun j oj hj hoj hr => ?_⟩
    by_cases hij : j = i
    · subst hij
      rw [ho] at hoj
      injection hoj with hoj
      subst hoj
      exact h
    have hfree : free isI isS hs full i j = true := by
      rcases hS.all j hj hij with h' | ⟨h1, h2⟩
      · exact h'
      · exact absurd hS.mem (rdy_anc hq hc hoj hr h1 h2)
    have hjm : j ∈ l.erase i := (hn.mem_erase_iff).2 ⟨hij, hj⟩
    have hle : (l.erase i).length = f := by rw [List.length_erase_of_mem hS.mem, hlen]; rfl
    cases f with
    | zero =>
      have : l.erase i = [] := List.eq_nil_of_length_eq_zero hle
      rw [this] at hjm; cases hjm
    | succ f =>
      unfold free at hfree
      rw [ho, hoj] at hfree
      simp only [Bool.and_eq_true] at hfree
      have h2 : s1 P isI isS hs H full o (s1 P isI isS hs H full oj (sch P isI isS hs H full K f ((l.erase i).erase j))) a w :=
        s1_mono hw (fun a' w' _ k => k.2 j oj hjm hoj (rdy_erase hr)) h
      have h3 := s1_swap hw hfree.1 hfree.2 (fun cs b => Region.noSelect_spec hq.sel i o cs b ho) (fun cs b => Region.noSelect_spec hq.sel j oj cs b hoj) h2
      rw [List.erase_comm] at h3
      have him : i ∈ l.erase j := (hn.mem_erase_iff).2 ⟨fun e => hij e.symm, hS.mem⟩
      refine s1_mono hw (fun a' w' hw' k => ?_) h3
      exact sch_solo hq f (l.erase j) i o a' w' hw' (by rw [List.length_erase_of_mem hj, hlen]; rfl) (hn.erase j) (hc.erase hn hoj hr)
        ⟨him, rdy_erase hS.rdy, fun j' hj' hne => hS.all j' (List.mem_of_mem_erase hj') hne⟩ ho k

/-- Whatever order is drawn. -/
theorem wpAny_of_sch {full : Array Oper} {A : Array Nat} (hq : AncOK full A) {K : Act → World → Prop} {Q : Exit → Act → World → Prop} (hQ : ∀ a w, K a w → Q .normal a w) :
    ∀ (f : Nat) (listed : Array Bool) (l : List Nat) (a : Act) (w : World), H w → listed.size = full.size → l.length = f → l.Nodup → (∀ i, i ∈ l ↔ i < full.size ∧ listed.getD i false = false) →
      sch P isI isS hs H full K f l a w → wpAny P .any full Q f listed a w := by
  intro f
  have rdy : ∀ (listed : Array Bool) (l : List Nat), listed.size = full.size → (∀ i, i ∈ l ↔ i < full.size ∧ listed.getD i false = false) → ∀ i, i ∈ Region.ready .any full listed → i ∈ l ∧ ∃ o, full[i]? = some o ∧ rdyB full l i = true := fun listed l hsz hl i hi => by
    obtain ⟨h0, o, ho, hall⟩ := mem_ready.1 hi
    have hlt : i < full.size := (Array.getElem?_eq_some_iff.1 ho).1
    refine ⟨(hl i).2 ⟨hlt, ?_⟩, o, ho, (rdyB_spec ho).2 fun e he hb hm => ?_⟩
    · rw [Array.getD_eq_getD_getElem?, Array.getElem?_eq_getElem (by omega)] at h0 ⊢
      simpa using h0
    · have h1 := ((hl e.on).1 hm).2
      rw [hall e he hb] at h1
      cases h1
  have stuck : ∀ (listed : Array Bool) (l : List Nat), listed.size = full.size → (∀ i, i ∈ l ↔ i < full.size ∧ listed.getD i false = false) → Region.ready .any full listed = [] → ∀ i, i ∉ l := fun listed l hsz hl hr i => by
    induction i using Nat.strongRecOn with
    | _ i ih =>
      intro hi
      have h1 := (hl i).1 hi
      obtain ⟨o, ho⟩ : ∃ o, full[i]? = some o := ⟨_, Array.getElem?_eq_getElem h1.1⟩
      have : i ∈ Region.ready .any full listed := by
        rw [mem_ready]
        refine ⟨?_, o, ho, fun e he hb => ?_⟩
        · have h2 := h1.2
          rw [Array.getD_eq_getD_getElem?, Array.getElem?_eq_getElem (by omega)] at h2 ⊢
          simpa using h2
        · have hd := hq.down i o ho e he hb
          cases hle : listed.getD e.on false with
          | true => rfl
          | false => exact absurd ((hl e.on).2 ⟨by omega, hle⟩) (ih e.on hd)
      rw [hr] at this; cases this
  have empty : ∀ (l : List Nat), (∀ i, i ∉ l) → l = [] := fun l h => by
    cases l with
    | nil => rfl
    | cons i r => exact absurd (by simp) (h i)
  induction f with
  | zero =>
    intro listed l a w hw hsz hlen hn hl h
    obtain ⟨rfl, hk⟩ := h
    refine ⟨?_, hQ _ _ hk⟩
    cases hr : Region.ready .any full listed with
    | nil => rfl
    | cons i r =>
      have := (rdy listed [] hsz hl i (by rw [hr]; simp)).1
      cases this
  | succ f ih =>
    intro listed l a w hw hsz hlen hn hl h
    refine ⟨fun hr => hQ _ _ (h.1 (empty l (stuck listed l hsz hl hr))), fun i hi => ?_⟩
    obtain ⟨him, o, ho, hr⟩ := rdy listed l hsz hl i hi
    have hlt : i < full.size := (Array.getElem?_eq_some_iff.1 ho).1
    refine wpOp_of_s1 (isI := isI) (isS := isS) (hs := hs) hw (fun a' w' hw' k => ?_) ho (h.2 i o him ho hr)
    refine ih _ (l.erase i) a' w' hw' (by simpa using hsz) (by rw [List.length_erase_of_mem him, hlen]; rfl) (hn.erase i) (fun j => ?_) k
    rw [hn.mem_erase_iff]
    by_cases hji : j = i
    · subst hji
      constructor
      · intro h'; exact absurd rfl h'.1
      · rintro ⟨_, h'⟩
        rw [Array.getD_eq_getD_getElem?, Array.getElem?_setIfInBounds_self_of_lt (by omega)] at h'
        cases h'
    · rw [getD_set_ne false (Ne.symm hji), hl j]
      exact ⟨fun h' => h'.2, fun h' => ⟨hji, h'⟩⟩

/-- The same over named temporaries. -/
def xg (P : Program) (isI isS : TypeId → Bool) (hs : List Nat) (H : World → Prop) (full : Array Oper) (N : Nat) (K : Env → World → Prop) (l : List Nat) (env : Env) (w : World) : Prop :=
  l.Nodup → Clo full l → H w → ∀ a, Fits N env a → sch P isI isS hs H full (fun a' w' => ∃ env', Fits N env' a' ∧ K env' w') l.length l a w

structure RegOK (full : Array Oper) (N : Nat) (A : Array Nat) : Prop where
  a : AncOK full A
  d : ∀ (i : Nat) (o : Oper), full[i]? = some o → ∀ t, o.dst = some t → t < N

theorem xg_end {full : Array Oper} {N : Nat} {K : Env → World → Prop} {env : Env} {w : World} (h : K env w) : xg P isI isS hs H full N K [] env w := fun _ _ _ _ ha => ⟨rfl, env, ha, h⟩

theorem xg_step {full : Array Oper} {N : Nat} {A : Array Nat} (hR : RegOK full N A) {K : Env → World → Prop} {l : List Nat} {env : Env} {w : World} {i : Nat} {o : Oper} (hn : l.Nodup) (hc : Clo full l) (hw : H w) (ho : full[i]? = some o) (hr : rdyB full l i = true)
    (h : xs P isI isS hs H full (xg P isI isS hs H full N K (l.erase i)) [o] env w) (a : Act) (ha : Fits N env a) :
    s1 P isI isS hs H full o (sch P isI isS hs H full (fun a' w' => ∃ env', Fits N env' a' ∧ K env' w') (l.erase i).length (l.erase i)) a w := by
  have := ss_of_xsL (F := fun _ => 0) (fs := [0]) (is := [i]) (l := [o]) hR.a.sel hR.d (K := xg P isI isS hs H full N K (l.erase i)) (K' := sch P isI isS hs H full (fun a' w' => ∃ env', Fits N env' a' ∧ K env' w') (l.erase i).length (l.erase i))
    (fun env' a' w' hf' hw' k => k (hn.erase i) (hc.erase hn ho hr) hw' a' hf') (.cons ho rfl .nil) env a w hw ha h
  simpa [ss, ho] using this

theorem xg_solo {full : Array Oper} {N : Nat} {A : Array Nat} (hR : RegOK full N A) {K : Env → World → Prop} {l : List Nat} {env : Env} {w : World} {i : Nat} {o : Oper} (hS : soloB isI isS hs full A l i = true) (ho : full[i]? = some o)
    (h : xs P isI isS hs H full (xg P isI isS hs H full N K (l.erase i)) [o] env w) : xg P isI isS hs H full N K l env w := fun hn hc hw a ha => by
  have hS' := soloB_spec hS
  have hlen : (l.erase i).length = l.length - 1 := List.length_erase_of_mem hS'.mem
  have hpos : 0 < l.length := List.length_pos_of_mem hS'.mem
  have := sch_solo (P := P) (isI := isI) (isS := isS) (hs := hs) (H := H) (K := fun a' w' => ∃ env', Fits N env' a' ∧ K env' w') hR.a (l.length - 1) l i o a w hw (by omega) hn hc hS' ho (by rw [← hlen]; exact xg_step hR hn hc hw ho hS'.rdy h a ha)
  rwa [show l.length - 1 + 1 = l.length from by omega] at this

theorem xg_all {full : Array Oper} {N : Nat} {A : Array Nat} (hR : RegOK full N A) {K : Env → World → Prop} {l : List Nat} {env : Env} {w : World} (hl : 0 < l.length)
    (h : ∀ i o, i ∈ l.filter (rdyB full l) → full[i]? = some o → xs P isI isS hs H full (xg P isI isS hs H full N K (l.erase i)) [o] env w) : xg P isI isS hs H full N K l env w := fun hn hc hw a ha => by
  obtain ⟨f, hf⟩ : ∃ f, l.length = f + 1 := ⟨l.length - 1, by omega⟩
  rw [hf]
  refine ⟨(fun e => by rw [e] at hf; cases hf), fun i o him ho hr => ?_⟩
  have := xg_step hR hn hc hw ho hr (h i o (List.mem_filter.2 ⟨him, hr⟩) ho) a ha
  rwa [List.length_erase_of_mem him, hf] at this

/-- Some operations, one behind the other, each of which may be run at once. -/
def soloL (isI isS : TypeId → Bool) (hs : List Nat) (full : Array Oper) (A : Array Nat) : List Nat → List Nat → List Nat → Bool
  | l, [], l' => l == l'
  | l, i :: is, l' => soloB isI isS hs full A l i && soloL isI isS hs full A (l.erase i) is l'

theorem xg_run {full : Array Oper} {N : Nat} {A : Array Nat} (hR : RegOK full N A) {K : Env → World → Prop} {l' : List Nat} : ∀ {is l : List Nat} {ops : List Oper} {env : Env} {w : World}, soloL isI isS hs full A l is l' = true → is.map (full[·]?) = ops.map some →
    xs P isI isS hs H full (xg P isI isS hs H full N K l') ops env w → xg P isI isS hs H full N K l env w
  | [], l, [], env, w, h1, _, h => by
    have : l = l' := by simpa [soloL] using h1
    subst this; exact h
  | [], _, _ :: _, _, _, _, h2, _ => by simp at h2
  | _ :: _, _, [], _, _, _, h2, _ => by simp at h2
  | i :: is, l, o :: ops, env, w, h1, h2, h => by
    rw [soloL, Bool.and_eq_true] at h1
    rw [List.map_cons, List.map_cons, List.cons.injEq] at h2
    refine xg_solo hR h1.1 h2.1 ?_
    obtain ⟨g, hg, ht, hf⟩ := h
    refine ⟨g, hg, fun e => ⟨(ht e).1, ?_⟩, fun e => xg_run hR h1.2 h2.2 (hf e)⟩
    have ha := (ht e).2
    revert ha
    generalize clsO isI isS hs o = c
    intro ha
    cases c with
    | p => obtain ⟨v, q1, q2⟩ := ha; exact ⟨v, q1, xg_run hR h1.2 h2.2 q2⟩
    | r => obtain ⟨v, q1, q2⟩ := ha; exact ⟨v, q1, xg_run hR h1.2 h2.2 q2⟩
    | h => obtain ⟨v, q1, q2⟩ := ha; exact ⟨v, q1, xg_run hR h1.2 h2.2 q2⟩
    | w => exact out_mono (fun v w' k => ⟨k.1, xg_run hR h1.2 h2.2 k.2⟩) ha
end

section
variable {hs : List Nat} {H : World → Prop} {K : Env → World → Prop} {env : Env} {w : World} {l : List Oper} {N : Nat}
theorem regOK {A : Array Nat} (hd : dstOK N l.toArray = true) (hq : ancOK l.toArray A = true) : RegOK l.toArray N A := ⟨ancOK_spec hq, (dstOK_spec hd).2⟩

/-- A region that draws. -/
theorem tdrawQ {fn : Func} {R : Value → World → Prop} {k : List It} {id : Nat} (n : Nat) (hs : List Nat) (H : World → Prop) (hn : l.length = n) (hd : dstOK fn.ntmps l.toArray = true) (hq : ancOK l.toArray (Region.before l.toArray) = true) (hw : H w.drew)
    (h : RegOK l.toArray fn.ntmps (Region.before l.toArray) → xg Tryz.prog isI isS hs H l.toArray fn.ntmps (T Tryz.prog fn R k) (List.range n) env w.drew) :
    T Tryz.prog fn R (.code (.region id l.toArray true) :: k) env w := fun a ha => by
  have hR := regOK hd hq
  have h' := h hR List.nodup_range (fun i o ho hi => absurd (List.mem_range.2 (by have := (Array.getElem?_eq_some_iff.1 ho).1; simp at this; omega)) hi) hw a ha
  rw [List.length_range] at h'
  refine wp_region_any mixed ?_
  have hsz : l.toArray.size = n := by simpa using hn
  rw [hsz]
  refine wpAny_of_sch (P := Tryz.prog) (isI := isI) (isS := isS) (hs := hs) (H := H) hR.a (K := fun a' w' => ∃ env', Fits fn.ntmps env' a' ∧ T Tryz.prog fn R k env' w') (fun a' w' ⟨env', hf, ht⟩ => ht a' hf) n _ (List.range n) a _ hw (by simp [hsz]) (by simp) List.nodup_range (fun i => ?_) h'
  rw [List.mem_range, hsz]
  simp [Array.getD_eq_getD_getElem?, Array.getElem?_replicate]
  intro hi
  simp [hi]

/-- The operations at these places. -/
def opsOf (l : List Oper) : List Nat → List Oper
  | [] => []
  | i :: is => match l[i]? with
    | some o => o :: opsOf l is
    | none => []
theorem opsOf_map : ∀ {is : List Nat}, is.all (· < l.length) = true → is.map (l.toArray[·]?) = (opsOf l is).map some
  | [], _ => rfl
  | i :: is, h => by
    rw [List.all_cons, Bool.and_eq_true, decide_eq_true_eq] at h
    simp only [List.map_cons, opsOf, List.getElem?_toArray, List.getElem?_eq_getElem h.1]
    rw [← opsOf_map h.2]
    simp
/-- is: what is run now; l': what is left then. -/
theorem grun {A : Array Nat} {lf : List Nat} (is l' : List Nat) {ops : List Oper} (hR : RegOK l.toArray N A) (h1 : soloL isI isS hs l.toArray A lf is l' = true) (h2 : is.all (· < l.length) = true) (h3 : opsOf l is = ops)
    (h : xs Tryz.prog isI isS hs H l.toArray (xg Tryz.prog isI isS hs H l.toArray N K l') ops env w) : xg Tryz.prog isI isS hs H l.toArray N K lf env w :=
  xg_run hR h1 (opsOf_map h2) (by rw [h3]; exact h)
/-- Two may come next. -/
theorem gbr2 {A : Array Nat} {lf : List Nat} (a b : Nat) (la lb : List Nat) {oa ob : Oper} (hR : RegOK l.toArray N A) (hf : lf.filter (rdyB l.toArray lf) = [a, b]) (ha : l[a]? = some oa) (hb : l[b]? = some ob) (ea : lf.erase a = la) (eb : lf.erase b = lb)
    (h1 : xs Tryz.prog isI isS hs H l.toArray (xg Tryz.prog isI isS hs H l.toArray N K la) [oa] env w) (h2 : xs Tryz.prog isI isS hs H l.toArray (xg Tryz.prog isI isS hs H l.toArray N K lb) [ob] env w) : xg Tryz.prog isI isS hs H l.toArray N K lf env w := by
  subst ea; subst eb
  refine xg_all hR (by have : a ∈ lf.filter (rdyB l.toArray lf) := by rw [hf]; simp
                       exact List.length_pos_of_mem (List.mem_filter.1 this).1) fun i o hi ho => ?_
  rw [hf] at hi
  rw [List.getElem?_toArray] at ho
  rcases List.mem_cons.1 hi with rfl | hi
  · rw [ha] at ho; injection ho with ho; subst ho; exact h1
  · rw [List.mem_singleton] at hi
    subst hi
    rw [hb] at ho; injection ho with ho; subst ho; exact h2
theorem gbr3 {A : Array Nat} {lf : List Nat} (a b c : Nat) (la lb lc : List Nat) {oa ob oc : Oper} (hR : RegOK l.toArray N A) (hf : lf.filter (rdyB l.toArray lf) = [a, b, c]) (ha : l[a]? = some oa) (hb : l[b]? = some ob) (hc : l[c]? = some oc) (ea : lf.erase a = la) (eb : lf.erase b = lb) (ec : lf.erase c = lc)
    (h1 : xs Tryz.prog isI isS hs H l.toArray (xg Tryz.prog isI isS hs H l.toArray N K la) [oa] env w) (h2 : xs Tryz.prog isI isS hs H l.toArray (xg Tryz.prog isI isS hs H l.toArray N K lb) [ob] env w)
    (h3 : xs Tryz.prog isI isS hs H l.toArray (xg Tryz.prog isI isS hs H l.toArray N K lc) [oc] env w) : xg Tryz.prog isI isS hs H l.toArray N K lf env w := by
  subst ea; subst eb; subst ec
  refine xg_all hR (by have : a ∈ lf.filter (rdyB l.toArray lf) := by rw [hf]; simp
                       exact List.length_pos_of_mem (List.mem_filter.1 this).1) fun i o hi ho => ?_
  rw [hf] at hi
  rw [List.getElem?_toArray] at ho
  rcases List.mem_cons.1 hi with rfl | hi
  · rw [ha] at ho; injection ho with ho; subst ho; exact h1
  rcases List.mem_cons.1 hi with rfl | hi
  · rw [hb] at ho; injection ho with ho; subst ho; exact h2
  · rw [List.mem_singleton] at hi
    subst hi
    rw [hc] at ho; injection ho with ho; subst ho; exact h3
end
end Eng
end Go.Proofs.YtalnkjpgnkfedaaGreatDoor
