/-
  A region of operations, run strictly in the order of the text, gives the same in every order that its edges allow, if no two operations that are not ordered by edges touch the world in ways that do not commute.
-/
import Derived.WalkKit
import Derived.KernelRfl
namespace Go.Proofs.Ytighkjohpmlemaa
open Go.RowKit

namespace Eng

/-- p: looks at temporaries alone; r: reads the world; h: reads what holds throughout the region; w: anything else. -/
inductive Cls where
  | p | r | h | w
  deriving DecidableEq

/-- isI t: t is a type of integers; isS t: a type of strings. -/
def cls (isI isS : TypeId → Bool) : Op → Cls
  | .move _ | .assign _ | .pick .. | .build .. | .nilCheck _ | .binOp .. | .unOp .. | .fieldAddr .. | .field .. | .indexAddr .. | .index .. | .slice .. | .extract .. | .makeFunc .. => .p
  | .convert s d _ => if isI s && isI d then .p else if isS d then .r else .w
  | .call { callee := .builtin .len, .. } => .p
  | .call { callee := .builtin .min, .. } => .p
  | .call { callee := .builtin .max, .. } => .p
  | .load .. => .r
  | _ => .w

/-- What an operation that may change the world comes to: a value, or a call that returns one. -/
def out (P : Program) (r : Result Next) (S : Value → World → Prop) : Prop :=
  match r with
  | .ok (.value v) w' => S v w'
  | .ok .skip w' => S undef w'
  | .ok (.enter f args) w' => Calls P f args w' (fun e w'' => ∃ v, e = .returned v ∧ S v w'')
  | _ => False

def memb : List Nat → Option Nat → Bool
  | _, none => false
  | [], _ => false
  | k :: r, some t => match Nat.beq k t with
    | true => true
    | false => memb r (some t)

/-- The class of an operation; hs: the slots of reads that are held. -/
def clsO (isI isS : TypeId → Bool) (hs : List Nat) (o : Oper) : Cls := match cls isI isS o.op with
  | .r => match memb hs o.dst with
    | true => .h
    | false => .r
  | c => c

def acts (P : Program) (H : World → Prop) (c : Cls) (s : Sem Next) (w : World) (S : Value → World → Prop) : Prop :=
  match c with
  | .p => ∃ v, (∀ w', s.run P w' = .ok (.value v) w') ∧ S v w
  | .r => ∃ v, s.run P w = .ok (.value v) w ∧ S v w
  | .h => ∃ v, (∀ w', H w' → s.run P w' = .ok (.value v) w') ∧ S v w
  | .w => out P (s.run P w) (fun v w' => H w' ∧ S v w')

variable {P : Program} {isI isS : TypeId → Bool} {hs : List Nat} {H : World → Prop}

theorem out_mono {r : Result Next} {S S' : Value → World → Prop} (h : ∀ v w, S v w → S' v w) (hh : out P r S) : out P r S' := by
  cases r with
  | halt x w => exact hh
  | ok n w =>
    cases n with
    | value v => exact h _ _ hh
    | skip => exact h _ _ hh
    | enter f args => exact Calls.mono hh fun e w' ⟨v, he, k⟩ => ⟨v, he, h _ _ k⟩
    | _ => exact hh

theorem acts_mono {c : Cls} {s : Sem Next} {w : World} {S S' : Value → World → Prop} (hw : H w) (h : ∀ v w, H w → S v w → S' v w) (hh : acts P H c s w S) : acts P H c s w S' := by
  cases c with
  | p => obtain ⟨v, h1, h2⟩ := hh; exact ⟨v, h1, h _ _ hw h2⟩
  | r => obtain ⟨v, h1, h2⟩ := hh; exact ⟨v, h1, h _ _ hw h2⟩
  | h => obtain ⟨v, h1, h2⟩ := hh; exact ⟨v, h1, h _ _ hw h2⟩
  | w => exact out_mono (fun v w' hh => ⟨hh.1, h _ _ hh.1 hh.2⟩) hh

theorem out_some {r : Result Next} {S : Value → World → Prop} (h : out P r S) : ∃ v w, S v w := by
  unfold out at h
  split at h
  · exact ⟨_, _, h⟩
  · exact ⟨_, _, h⟩
  · obtain ⟨e, w', fr, ⟨v, _, k⟩, _⟩ := h []
    exact ⟨v, w', k⟩
  · exact h.elim

theorem acts_some {c : Cls} {s : Sem Next} {w : World} {S : Value → World → Prop} (hw : H w) (h : acts P H c s w S) : ∃ v w', H w' ∧ S v w' := by
  cases c with
  | p => obtain ⟨v, _, h2⟩ := h; exact ⟨v, _, hw, h2⟩
  | r => obtain ⟨v, _, h2⟩ := h; exact ⟨v, _, hw, h2⟩
  | h => obtain ⟨v, _, h2⟩ := h; exact ⟨v, _, hw, h2⟩
  | w => obtain ⟨v, w', h1, h2⟩ := out_some h; exact ⟨v, w', h1, h2⟩

def calmC : Cls → Cls → Bool
  | .p, _ | _, .p => true
  | .h, _ | _, .h => true
  | .r, .r => true
  | _, _ => false

/-- Two operations of calm classes change places. -/
theorem acts_swap {c d : Cls} {s t : Sem Next} {w : World} {S : Value → Value → World → Prop} (hc : calmC c d = true) (hw : H w)
    (h : acts P H c s w (fun v w' => acts P H d t w' (fun u w'' => S v u w''))) : acts P H d t w (fun u w' => acts P H c s w' (fun v w'' => S v u w'')) := by
  cases d with
  | p =>
    obtain ⟨v0, w0, _, u, hu, _⟩ := acts_some hw h
    refine ⟨u, hu, acts_mono hw (fun v w' _ ⟨u', hu', k⟩ => ?_) h⟩
    have : u' = u := by
      have e1 := hu w'
      rw [hu' w'] at e1
      injection e1 with e1
      injection e1
    subst this
    exact k
  | h =>
    obtain ⟨v0, w0, _, u, hu, _⟩ := acts_some hw h
    refine ⟨u, hu, acts_mono hw (fun v w' hw' ⟨u', hu', k⟩ => ?_) h⟩
    have : u' = u := by
      have e1 := hu w' hw'
      rw [hu' w' hw'] at e1
      injection e1 with e1
      injection e1
    subst this
    exact k
  | r =>
    cases c with
    | p => obtain ⟨v, hv, u, hu, k⟩ := h; exact ⟨u, hu, v, hv, k⟩
    | h => obtain ⟨v, hv, u, hu, k⟩ := h; exact ⟨u, hu, v, hv, k⟩
    | r => obtain ⟨v, hv, u, hu, k⟩ := h; exact ⟨u, hu, v, hv, k⟩
    | w => cases hc
  | w =>
    cases c with
    | p => obtain ⟨v, hv, k⟩ := h; exact acts_mono (c := .w) hw (fun u w' _ k => ⟨v, hv, k⟩) k
    | h => obtain ⟨v, hv, k⟩ := h; exact acts_mono (c := .w) hw (fun u w' _ k => ⟨v, hv, k⟩) k
    | r => cases hc
    | w => cases hc

/-- One operation, strictly: no panic, no way out. -/
def s1 (P : Program) (isI isS : TypeId → Bool) (hs : List Nat) (H : World → Prop) (full : Array Oper) (o : Oper) (K : Act → World → Prop) (a : Act) (w : World) : Prop :=
  if Region.wanted o (yielded full a.tmps) = true then acts P H (clsO isI isS hs o) (execOp a.eval o) w (fun v w' => K (a.put o.dst v) w')
  else K (a.put o.dst undef) w

theorem s1_mono {full : Array Oper} {o : Oper} {K K' : Act → World → Prop} {a : Act} {w : World} (hh0 : H w) (h : ∀ a w, H w → K a w → K' a w) (hh : s1 P isI isS hs H full o K a w) : s1 P isI isS hs H full o K' a w := by
  unfold s1 at *
  split
  · rename_i hw; rw [if_pos hw] at hh; exact acts_mono hh0 (fun v w hw k => h _ _ hw k) hh
  · rename_i hw; rw [if_neg hw] at hh; exact h _ _ hh0 hh

theorem s1_swap {full : Array Oper} {x y : Oper} {K : Act → World → Prop} {a : Act} {w : World} (hw : H w) (hap : x.apart full y = true) (hc : calmC (clsO isI isS hs x) (clsO isI isS hs y) = true)
    (hsx : ∀ cs b, x.op ≠ .select cs b) (hsy : ∀ cs b, y.op ≠ .select cs b)
    (h : s1 P isI isS hs H full x (s1 P isI isS hs H full y K) a w) : s1 P isI isS hs H full y (s1 P isI isS hs H full x K) a w := by
  obtain ⟨h1, h2, h3⟩ := Oper.apart_spec hap
  have wy : ∀ v, Region.wanted y (yielded full (a.put x.dst v).tmps) = Region.wanted y (yielded full a.tmps) := fun v => wanted_put y a x.dst v h1
  have wx : ∀ v, Region.wanted x (yielded full (a.put y.dst v).tmps) = Region.wanted x (yielded full a.tmps) := fun v => wanted_put x a y.dst v h3
  have ey : ∀ v, execOp (a.put x.dst v).eval y = execOp a.eval y := fun v => execOp_put y hsy a x.dst v h1
  have ex : ∀ v, execOp (a.put y.dst v).eval x = execOp a.eval x := fun v => execOp_put x hsx a y.dst v h3
  have pc : ∀ (v u : Value), (a.put x.dst v).put y.dst u = (a.put y.dst u).put x.dst v := fun v u => Act.put_comm a v u h2
  unfold s1 at *
  simp only [wy, wx, ey, ex, pc] at *
  by_cases hwx : Region.wanted x (yielded full a.tmps) = true <;> by_cases hwy : Region.wanted y (yielded full a.tmps) = true <;>
    simp only [hwx, hwy, if_true, if_false, Bool.false_eq_true] at h ⊢
  · exact acts_swap hc hw h
  · exact h
  · exact h
  · exact h

/-- From the strict form to the walk's own, whatever Q. -/
theorem wpOp_of_s1 {full : Array Oper} {i : Nat} {o : Oper} {K K' : Act → World → Prop} {Q : Exit → Act → World → Prop} {a : Act} {w : World} (hw0 : H w) (hK : ∀ a w, H w → K a w → K' a w) (hi : full[i]? = some o) (h : s1 P isI isS hs H full o K a w) : wpOp P full Q i K' a w := by
  unfold wpOp
  rw [hi]
  unfold s1 at h
  dsimp only
  split
  · rename_i hw
    rw [if_pos hw] at h
    refine .inl ?_
    generalize clsO isI isS hs o = c at h
    cases c with
    | p => obtain ⟨v, h1, h2⟩ := h; simp only [Oper.wp, h1 w, Oper.upon]; exact hK _ _ hw0 h2
    | r => obtain ⟨v, h1, h2⟩ := h; simp only [Oper.wp, h1, Oper.upon]; exact hK _ _ hw0 h2
    | h => obtain ⟨v, h1, h2⟩ := h; simp only [Oper.wp, h1 w hw0, Oper.upon]; exact hK _ _ hw0 h2
    | w =>
      unfold Oper.wp
      unfold acts out at h
      dsimp only at h
      split at h
      · rename_i e; rw [e]; exact hK _ _ h.1 h.2
      · rename_i e; rw [e]; exact hK _ _ h.1 h.2
      · rename_i e; rw [e]
        exact Calls.mono h fun e w'' ⟨v, he, k⟩ => by subst he; exact hK _ _ k.1 k.2
      · exact h.elim
  · rename_i hw; rw [if_neg hw] at h; exact hK _ _ hw0 h

/-- The operations at these places, one behind the other. -/
def ss (P : Program) (isI isS : TypeId → Bool) (hs : List Nat) (H : World → Prop) (full : Array Oper) (K : Act → World → Prop) : List Nat → Act → World → Prop
  | [], a, w => K a w
  | i :: rest, a, w => match full[i]? with
    | none => False
    | some o => s1 P isI isS hs H full o (ss P isI isS hs H full K rest) a w

/-- i may go ahead of j: nothing orders them, and they commute. -/
def free (isI isS : TypeId → Bool) (hs : List Nat) (full : Array Oper) (j i : Nat) : Bool :=
  match full[j]?, full[i]? with
  | some x, some y => x.apart full y && calmC (clsO isI isS hs x) (clsO isI isS hs y)
  | _, _ => false

/-- An operation is brought to the front. -/
theorem ss_front {full : Array Oper} {K : Act → World → Prop} (hsel : Region.noSelect full = true) {i : Nat} {o : Oper} (ho : full[i]? = some o) (l2 : List Nat) : ∀ (l1 : List Nat) (a : Act) (w : World),
    (∀ j ∈ l1, free isI isS hs full j i = true) → H w → ss P isI isS hs H full K (l1 ++ i :: l2) a w → s1 P isI isS hs H full o (ss P isI isS hs H full K (l1 ++ l2)) a w
  | [], a, w, _, _, h => by simpa [ss, ho] using h
  | j :: l1, a, w, hf, hw, h => by
    have hj := hf j (by simp)
    unfold free at hj
    cases hoj : full[j]? with
    | none => rw [hoj] at hj; cases hj
    | some x =>
      rw [hoj, ho] at hj
      simp only [Bool.and_eq_true] at hj
      simp only [List.cons_append, ss, hoj] at h ⊢
      exact s1_swap hw hj.1 hj.2 (fun cs b => Region.noSelect_spec hsel j x cs b hoj) (fun cs b => Region.noSelect_spec hsel i o cs b ho)
        (s1_mono hw (fun a w hw' k => ss_front hsel ho l2 l1 a w (fun j' hj' => hf j' (by simp [hj'])) hw' k) h)

/-- The ancestors that are claimed for each operation are ancestors; and what is not an ancestor is free. -/
def seqOK (isI isS : TypeId → Bool) (hs : List Nat) (full : Array Oper) (A : Array Nat) : Bool :=
  Region.noSelect full && (List.range full.size).all fun i =>
    match full[i]? with
    | none => false
    | some o =>
      (o.after.all fun e => !Region.binds .any e || decide (e.on < i)) &&
      (List.range i).all fun j =>
        if (A.getD i 0).testBit j then o.after.any fun e => Region.binds .any e && (e.on == j || (decide (j < e.on) && (A.getD e.on 0).testBit j))
        else free isI isS hs full j i

structure SeqOK (isI isS : TypeId → Bool) (hs : List Nat) (full : Array Oper) (A : Array Nat) : Prop where
  sel : Region.noSelect full = true
  down : ∀ i o, full[i]? = some o → ∀ e ∈ o.after, Region.binds .any e = true → e.on < i
  anc : ∀ i o, full[i]? = some o → ∀ j, j < i → (A.getD i 0).testBit j = true → ∃ e ∈ o.after, Region.binds .any e = true ∧ (e.on = j ∨ (j < e.on ∧ (A.getD e.on 0).testBit j = true))
  fre : ∀ i o, full[i]? = some o → ∀ j, j < i → (A.getD i 0).testBit j = false → free isI isS hs full j i = true

theorem seqOK_spec {full : Array Oper} {A : Array Nat} (h : seqOK isI isS hs full A = true) : SeqOK isI isS hs full A := by
  unfold seqOK at h
  rw [Bool.and_eq_true] at h
  have hall : ∀ i o, full[i]? = some o → (o.after.all fun e => !Region.binds .any e || decide (e.on < i)) = true ∧
      ∀ j, j < i → (if (A.getD i 0).testBit j then o.after.any fun e => Region.binds .any e && (e.on == j || (decide (j < e.on) && (A.getD e.on 0).testBit j))
        else free isI isS hs full j i) = true := fun i o ho => by
    have hlt : i < full.size := (Array.getElem?_eq_some_iff.1 ho).1
    have hi := List.all_eq_true.1 h.2 i (List.mem_range.2 hlt)
    rw [ho] at hi
    simp only [Bool.and_eq_true] at hi
    exact ⟨hi.1, fun j hj => List.all_eq_true.1 hi.2 j (List.mem_range.2 hj)⟩
  refine ⟨h.1, fun i o ho e he hb => ?_, fun i o ho j hj hA => ?_, fun i o ho j hj hA => ?_⟩
  · have := Array.all_eq_true_iff_forall_mem.1 (hall i o ho).1 e he
    simpa [hb] using this
  · have := (hall i o ho).2 j hj
    rw [if_pos hA] at this
    obtain ⟨e, he, hh⟩ := Array.any_eq_true'.1 this
    simp only [Bool.and_eq_true, Bool.or_eq_true, beq_iff_eq, decide_eq_true_eq] at hh
    exact ⟨e, he, hh.1, hh.2⟩
  · have := (hall i o ho).2 j hj
    rw [if_neg (by rw [hA]; decide)] at this
    exact this

/-- All that is an ancestor of what is listed is listed. -/
theorem listed_anc {full : Array Oper} {A : Array Nat} (hq : SeqOK isI isS hs full A) {listed : Array Bool} (hsz : listed.size = full.size)
    (down : ∀ i o, full[i]? = some o → listed.getD i false = true → ∀ e ∈ o.after, Region.binds .any e = true → listed.getD e.on false = true) {j : Nat} :
    ∀ (m k : Nat), k < m → listed.getD k false = true → (A.getD k 0).testBit j = true → j < k → listed.getD j false = true := by
  intro m
  induction m with
  | zero => intro k hk; omega
  | succ m ih =>
    intro k hk hlk hAk hjk
    have hks : k < full.size := by
      rcases Nat.lt_or_ge k full.size with h' | h'
      · exact h'
      · rw [Array.getD_eq_getD_getElem?, Array.getElem?_eq_none (by omega)] at hlk; cases hlk
    obtain ⟨ok, hok⟩ : ∃ ok, full[k]? = some ok := ⟨_, Array.getElem?_eq_getElem hks⟩
    obtain ⟨e, he, hb, hor⟩ := hq.anc k ok hok j hjk hAk
    have hle := down k ok hok hlk e he hb
    rcases hor with h' | ⟨hlt, hA'⟩
    · rw [← h']; exact hle
    · exact ih e.on (by have := hq.down k ok hok e he hb; omega) hle hA' hlt

/-- Whatever order is drawn. The places that are left: 'l', rising. -/
theorem wpAny_of_ss {full : Array Oper} {A : Array Nat} (hq : SeqOK isI isS hs full A) {K : Act → World → Prop} {Q : Exit → Act → World → Prop} (hQ : ∀ a w, K a w → Q .normal a w) :
    ∀ (fuel : Nat) (listed : Array Bool) (l : List Nat) (a : Act) (w : World), H w → listed.size = full.size → l.length ≤ fuel → l.Pairwise (· < ·) → (∀ i, i ∈ l ↔ i < full.size ∧ listed.getD i false = false) →
      (∀ i o, full[i]? = some o → listed.getD i false = true → ∀ e ∈ o.after, Region.binds .any e = true → listed.getD e.on false = true) →
      ss P isI isS hs H full K l a w → wpAny P .any full Q fuel listed a w := by
  intro fuel
  have start : ∀ (listed : Array Bool) (l : List Nat) (a : Act) (w : World), listed.size = full.size → l.Pairwise (· < ·) → (∀ i, i ∈ l ↔ i < full.size ∧ listed.getD i false = false) → ss P isI isS hs H full K l a w →
      Region.ready .any full listed = [] → Q .normal a w := by
    intro listed l a w hsz hp hl h hr
    cases l with
    | nil => exact hQ _ _ h
    | cons i r =>
      exfalso
      have hi := (hl i).1 (by simp)
      obtain ⟨o, ho⟩ : ∃ o, full[i]? = some o := ⟨_, Array.getElem?_eq_getElem hi.1⟩
      have : i ∈ Region.ready .any full listed := by
        rw [mem_ready]
        refine ⟨?_, o, ho, fun e he hb => ?_⟩
        · have h2 := hi.2
          rw [Array.getD_eq_getD_getElem?, Array.getElem?_eq_getElem (by omega)] at h2 ⊢
          simpa using h2
        · have hlt := hq.down i o ho e he hb
          cases hle : listed.getD e.on false with
          | true => rfl
          | false =>
            have := (hl e.on).2 ⟨by omega, hle⟩
            rcases List.mem_cons.1 this with h' | h'
            · omega
            · have := List.rel_of_pairwise_cons hp h'; omega
      rw [hr] at this
      cases this
  induction fuel with
  | zero =>
    intro listed l a w hw hsz hlen hp hl hd h
    have hnil : l = [] := List.eq_nil_of_length_eq_zero (by omega)
    subst hnil
    refine ⟨?_, hQ _ _ h⟩
    cases hr : Region.ready .any full listed with
    | nil => rfl
    | cons i r =>
      exfalso
      have hi : i ∈ Region.ready .any full listed := by rw [hr]; simp
      obtain ⟨h0, o, ho, _⟩ := mem_ready.1 hi
      have hlt : i < full.size := (Array.getElem?_eq_some_iff.1 ho).1
      have := (hl i).2 ⟨hlt, by
        rw [Array.getD_eq_getD_getElem?, Array.getElem?_eq_getElem (by omega)] at h0 ⊢
        simpa using h0⟩
      cases this
  | succ fuel ih =>
    intro listed l a w hw hsz hlen hp hl hd h
    refine ⟨start listed l a w hsz hp hl h, fun i hi => ?_⟩
    obtain ⟨h0, o, ho, hall⟩ := mem_ready.1 hi
    have hlt : i < full.size := (Array.getElem?_eq_some_iff.1 ho).1
    have hun : listed.getD i false = false := by
      rw [Array.getD_eq_getD_getElem?, Array.getElem?_eq_getElem (by omega)] at h0 ⊢
      simpa using h0
    obtain ⟨l1, l2, rfl⟩ := List.append_of_mem ((hl i).2 ⟨hlt, hun⟩)
    have hfree : ∀ j ∈ l1, free isI isS hs full j i = true := fun j hj => by
      have hji : j < i := (List.pairwise_append.1 hp).2.2 j hj i (by simp)
      have hju := ((hl j).1 (by simp [hj])).2
      cases hA : (A.getD i 0).testBit j with
      | false => exact hq.fre i o ho j hji hA
      | true =>
        exfalso
        obtain ⟨e, he, hb, hor⟩ := hq.anc i o ho j hji hA
        have hle := hall e he hb
        have : listed.getD j false = true := by
          rcases hor with h' | ⟨hlt', hA'⟩
          · rw [← h']; exact hle
          · exact listed_anc hq hsz hd (e.on + 1) e.on (by omega) hle hA' hlt'
        rw [hju] at this
        cases this
    refine wpOp_of_s1 (isI := isI) (isS := isS) (hs := hs) hw (fun a' w' hw' k => ?_) ho (ss_front hq.sel ho l2 l1 a w hfree hw h)
    have hp1 := List.pairwise_append.1 hp
    have hp2 := List.pairwise_cons.1 hp1.2.1
    refine ih _ (l1 ++ l2) a' w' hw' (by simpa using hsz) (by simp at hlen ⊢; omega) (List.pairwise_append.2 ⟨hp1.1, hp2.2, fun x hx y hy => hp1.2.2 x hx y (by simp [hy])⟩) (fun j => ?_) ?_ k
    · by_cases hji : j = i
      · subst hji
        constructor
        · intro hm
          exfalso
          rcases List.mem_append.1 hm with h' | h'
          · have := hp1.2.2 j h' j (by simp); omega
          · have := hp2.1 j h'; omega
        · rintro ⟨_, h'⟩
          rw [Array.getD_eq_getD_getElem?, Array.getElem?_setIfInBounds_self_of_lt (by omega)] at h'
          cases h'
      · rw [getD_set_ne false (Ne.symm hji), ← hl j]
        simp [hji]
    · intro k' ok hok hlk e he hb
      refine getD_set_true ?_
      by_cases hki : k' = i
      · subst hki
        rw [ho] at hok
        injection hok with hok
        subst hok
        exact hall e he hb
      · rw [getD_set_ne false (Ne.symm hki)] at hlk
        exact hd k' ok hok hlk e he hb

/-- A region that draws its order, by its operations in the order of the text. -/
theorem wp_region_ss {id : Nat} {full : Array Oper} {K : Act → World → Prop} {Q : Exit → Act → World → Prop} {a : Act} {w : World} (hm : P.follows .mixedOrders = true) (hw : H w.drew)
    (hq : seqOK isI isS hs full (Region.before full) = true) (hQ : ∀ a w, K a w → Q .normal a w)
    (h : ss P isI isS hs H full K (List.range full.size) a w.drew) : (Code.region id full true).wp P Q a w :=
  wp_region_any hm (wpAny_of_ss (seqOK_spec hq) hQ full.size _ (List.range full.size) a _ hw (by simp) (by simp) List.pairwise_lt_range
    (fun i => by simp [Array.getD_eq_getD_getElem?]; intro h; simp [h]) (fun i o ho hl => by
      exfalso
      rw [Array.getD_eq_getD_getElem?, Array.getElem?_replicate] at hl
      split at hl <;> simp at hl) h)

theorem wpOps_of_ss {full : Array Oper} {K : Act → World → Prop} {Q : Exit → Act → World → Prop} (hQ : ∀ a w, K a w → Q .normal a w) : ∀ (l : List Nat) (a : Act) (w : World), H w → ss P isI isS hs H full K l a w → wpOps P full Q l a w
  | [], a, w, _, h => hQ _ _ h
  | i :: l, a, w, hw, h => by
    rw [wpOps_cons]
    simp only [ss] at h
    split at h
    · exact h.elim
    · rename_i o ho
      exact wpOp_of_s1 hw (fun a w hw k => wpOps_of_ss hQ l a w hw k) ho h

/-- A region that draws no order. -/
theorem wp_region_ss' {id : Nat} {full : Array Oper} {K : Act → World → Prop} {Q : Exit → Act → World → Prop} {a : Act} {w : World} (hw : H w) (hQ : ∀ a w, K a w → Q .normal a w)
    (h : ss P isI isS hs H full K (List.range full.size) a w) : (Code.region id full false).wp P Q a w :=
  wp_region (wpOps_of_ss hQ _ a w hw h)

end Eng
end Go.Proofs.Ytighkjohpmlemaa
