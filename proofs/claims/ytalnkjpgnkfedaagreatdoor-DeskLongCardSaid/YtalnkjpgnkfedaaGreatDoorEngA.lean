/-
  A region of operations, run strictly in the order of the text, gives the same in every order that its edges allow, if no two operations that are not ordered by edges touch the world in ways that do not commute. A walk over named temporaries: the state is a list of slots with their values, the code to come a list of items. Rules for sequences, tests, blocks, loops, labels, regions, calls and returns.
-/
import Derived.WalkKit
import Derived.KernelRfl
import Derived.Test.YtalnkjpgnkfedaaGreatDoorGo
import Derived.Deep.LoopGhost
/-! A region of operations, run strictly in the order of the text, gives the same in every order that its edges allow, if no two operations that are not ordered by edges touch the world in ways that do not commute. -/
namespace Go.Proofs.YtalnkjpgnkfedaaGreatDoor
open Go.RowKit

namespace Eng

/-- p: looks at temporaries alone; r: reads the world; h: reads what holds throughout the region; w: anything else. -/
inductive Cls where
  | p | r | h | w
  deriving DecidableEq

/-- isI t: t is a type of integers; isS t: a type of strings. -/
def cls (isI isS : TypeId → Bool) : Op → Cls
  | .move _ | .assign _ | .pick .. | .build .. | .nilCheck _ | .binOp .. | .unOp .. | .fieldAddr .. | .field .. | .indexAddr .. | .index .. | .slice .. | .extract .. | .makeFunc .. => .p
  | .convert s d _ => if isI s && isI d then .p else if isS d then .r else .w
  | .call { callee := .builtin .len, .. } => .p
  | .call { callee := .builtin .min, .. } => .p
  | .call { callee := .builtin .max, .. } => .p
  | .load .. => .r
  | _ => .w

/-- What an operation that may change the world comes to: a value, or a call that returns one. -/
def out (P : Program) (r : Result Next) (S : Value → World → Prop) : Prop :=
  match r with
  | .ok (.value v) w' => S v w'
  | .ok .skip w' => S undef w'
  | .ok (.enter f args) w' => Calls P f args w' (fun e w'' => ∃ v, e = .returned v ∧ S v w'')
  | _ => False

def memb : List Nat → Option Nat → Bool
  | _, none => false
  | [], _ => false
  | k :: r, some t => match Nat.beq k t with
    | true => true
    | false => memb r (some t)

/-- The class of an operation; hs: the slots of reads that are held. -/
def clsO (isI isS : TypeId → Bool) (hs : List Nat) (o : Oper) : Cls := match cls isI isS o.op with
  | .r => match memb hs o.dst with
    | true => .h
    | false => .r
  | c => c

def acts (P : Program) (H : World → Prop) (c : Cls) (s : Sem Next) (w : World) (S : Value → World → Prop) : Prop :=
  match c with
  | .p => ∃ v, (∀ w', s.run P w' = .ok (.value v) w') ∧ S v w
  | .r => ∃ v, s.run P w = .ok (.value v) w ∧ S v w
  | .h => ∃ v, (∀ w', H w' → s.run P w' = .ok (.value v) w') ∧ S v w
  | .w => out P (s.run P w) (fun v w' => H w' ∧ S v w')

variable {P : Program} {isI isS : TypeId → Bool} {hs : List Nat} {H : World → Prop}

theorem out_mono {r : Result Next} {S S' : Value → World → Prop} (h : ∀ v w, S v w → S' v w) (hh : out P r S) : out P r S' := by
  cases r with
  | halt x w => exact hh
  | ok n w =>
    cases n with
    | value v => exact h _ _ hh
    | skip => exact h _ _ hh
    | enter f args => exact Calls.mono hh fun e w' ⟨v, he, k⟩ => ⟨v, he, h _ _ k⟩
    | _ => exact hh

theorem acts_mono {c : Cls} {s : Sem Next} {w : World} {S S' : Value → World → Prop} (hw : H w) (h : ∀ v w, H w → S v w → S' v w) (hh : acts P H c s w S) : acts P H c s w S' := by
  cases c with
  | p => obtain ⟨v, h1, h2⟩ := hh; exact ⟨v, h1, h _ _ hw h2⟩
  | r => obtain ⟨v, h1, h2⟩ := hh; exact ⟨v, h1, h _ _ hw h2⟩
  | h => obtain ⟨v, h1, h2⟩ := hh; exact ⟨v, h1, h _ _ hw h2⟩
  | w => exact out_mono (fun v w' hh => ⟨hh.1, h _ _ hh.1 hh.2⟩) hh

theorem out_some {r : Result Next} {S : Value → World → Prop} (h : out P r S) : ∃ v w, S v w := by
  unfold out at h
  split at h
  · exact ⟨_, _, h⟩
  · exact ⟨_, _, h⟩
  · obtain ⟨e, w', fr, ⟨v, _, k⟩, _⟩ := h []
    exact ⟨v, w', k⟩
  · exact h.elim

theorem acts_some {c : Cls} {s : Sem Next} {w : World} {S : Value → World → Prop} (hw : H w) (h : acts P H c s w S) : ∃ v w', H w' ∧ S v w' := by
  cases c with
  | p => obtain ⟨v, _, h2⟩ := h; exact ⟨v, _, hw, h2⟩
  | r => obtain ⟨v, _, h2⟩ := h; exact ⟨v, _, hw, h2⟩
  | h => obtain ⟨v, _, h2⟩ := h; exact ⟨v, _, hw, h2⟩
  | w => obtain ⟨v, w', h1, h2⟩ := out_some h; exact ⟨v, w', h1, h2⟩

def calmC : Cls → Cls → Bool
  | .p, _ | _, .p => true
  | .h, _ | _, .h => true
  | .r, .r => true
  | _, _ => false

/-- Two operations of calm classes change places. -/
theorem acts_swap {c d : Cls} {s t : Sem Next} {w : World} {S : Value → Value → World → Prop} (hc : calmC c d = true) (hw : H w)
    (h : acts P H c s w (fun v w' => acts P H d t w' (fun u w'' => S v u w''))) : acts P H d t w (fun u w' => acts P H c s w' (fun v w'' => S v u w'')) := by
  cases d with
  | p =>
    obtain ⟨v0, w0, _, u, hu, _⟩ := acts_some hw h
    refine ⟨u, hu, acts_mono hw (fun v w' _ ⟨u', hu', k⟩ => ?_) h⟩
    have : u' = u := by
      have e1 := hu w'
      rw [hu' w'] at e1
      injection e1 with e1
      injection e1
    subst this
    exact k
  | h =>
    obtain ⟨v0, w0, _, u, hu, _⟩ := acts_some hw h
    refine ⟨u, hu, acts_mono hw (fun v w' hw' ⟨u', hu', k⟩ => ?_) h⟩
    have : u' = u := by
      have e1 := hu w' hw'
      rw [hu' w' hw'] at e1
      injection e1 with e1
      injection e1
    subst this
    exact k
  | r =>
    cases c with
    | p => obtain ⟨v, hv, u, hu, k⟩ := h; exact ⟨u, hu, v, hv, k⟩
    | h => obtain ⟨v, hv, u, hu, k⟩ := h; exact ⟨u, hu, v, hv, k⟩
    | r => obtain ⟨v, hv, u, hu, k⟩ := h; exact ⟨u, hu, v, hv, k⟩
    | w => cases hc
  | w =>
    cases c with
    | p => obtain ⟨v, hv, k⟩ := h; exact acts_mono (c := .w) hw (fun u w' _ k => ⟨v, hv, k⟩) k
    | h => obtain ⟨v, hv, k⟩ := h; exact acts_mono (c := .w) hw (fun u w' _ k => ⟨v, hv, k⟩) k
    | r => cases hc
    | w => cases hc

/-- One operation, strictly: no panic, no way out. -/
def s1 (P : Program) (isI isS : TypeId → Bool) (hs : List Nat) (H : World → Prop) (full : Array Oper) (o : Oper) (K : Act → World → Prop) (a : Act) (w : World) : Prop :=
  if Region.wanted o (yielded full a.tmps) = true then acts P H (clsO isI isS hs o) (execOp a.eval o) w (fun v w' => K (a.put o.dst v) w')
  else K (a.put o.dst undef) w

theorem s1_mono {full : Array Oper} {o : Oper} {K K' : Act → World → Prop} {a : Act} {w : World} (hh0 : H w) (h : ∀ a w, H w → K a w → K' a w) (hh : s1 P isI isS hs H full o K a w) : s1 P isI isS hs H full o K' a w := by
  unfold s1 at *
  split
  · rename_i hw; rw [if_pos hw] at hh; exact acts_mono hh0 (fun v w hw k => h _ _ hw k) hh
  · rename_i hw; rw [if_neg hw] at hh; exact h _ _ hh0 hh

theorem s1_swap {full : Array Oper} {x y : Oper} {K : Act → World → Prop} {a : Act} {w : World} (hw : H w) (hap : x.apart full y = true) (hc : calmC (clsO isI isS hs x) (clsO isI isS hs y) = true)
    (hsx : ∀ cs b, x.op ≠ .select cs b) (hsy : ∀ cs b, y.op ≠ .select cs b)
    (h : s1 P isI isS hs H full x (s1 P isI isS hs H full y K) a w) : s1 P isI isS hs H full y (s1 P isI isS hs H full x K) a w := by
  obtain ⟨h1, h2, h3⟩ := Oper.apart_spec hap
  have wy : ∀ v, Region.wanted y (yielded full (a.put x.dst v).tmps) = Region.wanted y (yielded full a.tmps) := fun v => wanted_put y a x.dst v h1
  have wx : ∀ v, Region.wanted x (yielded full (a.put y.dst v).tmps) = Region.wanted x (yielded full a.tmps) := fun v => wanted_put x a y.dst v h3
  have ey : ∀ v, execOp (a.put x.dst v).eval y = execOp a.eval y := fun v => execOp_put y hsy a x.dst v h1
  have ex : ∀ v, execOp (a.put y.dst v).eval x = execOp a.eval x := fun v => execOp_put x hsx a y.dst v h3
  have pc : ∀ (v u : Value), (a.put x.dst v).put y.dst u = (a.put y.dst u).put x.dst v := fun v u => Act.put_comm a v u h2
  unfold s1 at *
  simp only [wy, wx, ey, ex, pc] at *
  by_cases hwx : Region.wanted x (yielded full a.tmps) = true <;> by_cases hwy : Region.wanted y (yielded full a.tmps) = true <;>
    simp only [hwx, hwy, if_true, if_false, Bool.false_eq_true] at h ⊢
  · exact acts_swap hc hw h
  · exact h
  · exact h
  · exact h

/-- From the strict form to the walk's own, whatever Q. -/
theorem wpOp_of_s1 {full : Array Oper} {i : Nat} {o : Oper} {K K' : Act → World → Prop} {Q : Exit → Act → World → Prop} {a : Act} {w : World} (hw0 : H w) (hK : ∀ a w, H w → K a w → K' a w) (hi : full[i]? = some o) (h : s1 P isI isS hs H full o K a w) : wpOp P full Q i K' a w := by
  unfold wpOp
  rw [hi]
  unfold s1 at h
  dsimp only
  split
  · rename_i hw
    rw [if_pos hw] at h
    refine .inl ?_
    generalize clsO isI isS hs o = c at h
    cases c with
    | p => obtain ⟨v, h1, h2⟩ := h; simp only [Oper.wp, h1 w, Oper.upon]; exact hK _ _ hw0 h2
    | r => obtain ⟨v, h1, h2⟩ := h; simp only [Oper.wp, h1, Oper.upon]; exact hK _ _ hw0 h2
    | h => obtain ⟨v, h1, h2⟩ := h; simp only [Oper.wp, h1 w hw0, Oper.upon]; exact hK _ _ hw0 h2
    | w =>
      unfold Oper.wp
      unfold acts out at h
      dsimp only at h
      split at h
      · rename_i e; rw [e]; exact hK _ _ h.1 h.2
      · rename_i e; rw [e]; exact hK _ _ h.1 h.2
      · rename_i e; rw [e]
        exact Calls.mono h fun e w'' ⟨v, he, k⟩ => by subst he; exact hK _ _ k.1 k.2
      · exact h.elim
  · rename_i hw; rw [if_neg hw] at h; exact hK _ _ hw0 h

/-- The operations at these places, one behind the other. -/
def ss (P : Program) (isI isS : TypeId → Bool) (hs : List Nat) (H : World → Prop) (full : Array Oper) (K : Act → World → Prop) : List Nat → Act → World → Prop
  | [], a, w => K a w
  | i :: rest, a, w => match full[i]? with
    | none => False
    | some o => s1 P isI isS hs H full o (ss P isI isS hs H full K rest) a w

/-- i may go ahead of j: nothing orders them, and they commute. -/
def free (isI isS : TypeId → Bool) (hs : List Nat) (full : Array Oper) (j i : Nat) : Bool :=
  match full[j]?, full[i]? with
  | some x, some y => x.apart full y && calmC (clsO isI isS hs x) (clsO isI isS hs y)
  | _, _ => false

/-- An operation is brought to the front. -/
theorem ss_front {full : Array Oper} {K : Act → World → Prop} (hsel : Region.noSelect full = true) {i : Nat} {o : Oper} (ho : full[i]? = some o) (l2 : List Nat) : ∀ (l1 : List Nat) (a : Act) (w : World),
    (∀ j ∈ l1, free isI isS hs full j i = true) → H w → ss P isI isS hs H full K (l1 ++ i :: l2) a w → s1 P isI isS hs H full o (ss P isI isS hs H full K (l1 ++ l2)) a w
  | [], a, w, _, _, h => by simpa [ss, ho] using h
  | j :: l1, a, w, hf, hw, h => by
    have hj := hf j (by simp)
    unfold free at hj
    cases hoj : full[j]? with
    | none => rw [hoj] at hj; cases hj
    | some x =>
      rw [hoj, ho] at hj
      simp only [Bool.and_eq_true] at hj
      simp only [List.cons_append, ss, hoj] at h ⊢
      exact s1_swap hw hj.1 hj.2 (fun cs b => Region.noSelect_spec hsel j x cs b hoj) (fun cs b => Region.noSelect_spec hsel i o cs b ho)
        (s1_mono hw (fun a w hw' k => ss_front hsel ho l2 l1 a w (fun j' hj' => hf j' (by simp [hj'])) hw' k) h)

/-- The ancestors that are claimed for each operation are ancestors; and what is not an ancestor is free. -/
def seqOK (isI isS : TypeId → Bool) (hs : List Nat) (full : Array Oper) (A : Array Nat) : Bool :=
  Region.noSelect full && (List.range full.size).all fun i =>
    match full[i]? with
    | none => false
    | some o =>
      (o.after.all fun e => !Region.binds .any e || decide (e.on < i)) &&
      (List.range i).all fun j =>
        if (A.getD i 0).testBit j then o.after.any fun e => Region.binds .any e && (e.on == j || (decide (j < e.on) && (A.getD e.on 0).testBit j))
        else free isI isS hs full j i

structure SeqOK (isI isS : TypeId → Bool) (hs : List Nat) (full : Array Oper) (A : Array Nat) : Prop where
  sel : Region.noSelect full = true
  down : ∀ i o, full[i]? = some o → ∀ e ∈ o.after, Region.binds .any e = true → e.on < i
  anc : ∀ i o, full[i]? = some o → ∀ j, j < i → (A.getD i 0).testBit j = true → ∃ e ∈ o.after, Region.binds .any e = true ∧ (e.on = j ∨ (j < e.on ∧ (A.getD e.on 0).testBit j = true))
  fre : ∀ i o, full[i]? = some o → ∀ j, j < i → (A.getD i 0).testBit j = false → free isI isS hs full j i = true

theorem seqOK_spec {full : Array Oper} {A : Array Nat} (h : seqOK isI isS hs full A = true) : SeqOK isI isS hs full A := by
  unfold seqOK at h
  rw [Bool.and_eq_true] at h
  have hall : ∀ i o, full[i]? = some o → (o.after.all fun e => !Region.binds .any e || decide (e.on < i)) = true ∧
      ∀ j, j < i → (if (A.getD i 0).testBit j then o.after.any fun e => Region.binds .any e && (e.on == j || (decide (j < e.on) && (A.getD e.on 0).testBit j))
        else free isI isS hs full j i) = true := fun i o ho => by
    have hlt : i < full.size := (Array.getElem?_eq_some_iff.1 ho).1
    have hi := List.all_eq_true.1 h.2 i (List.mem_range.2 hlt)
    rw [ho] at hi
    simp only [Bool.and_eq_true] at hi
    exact ⟨hi.1, fun j hj => List.all_eq_true.1 hi.2 j (List.mem_range.2 hj)⟩
  refine ⟨h.1, fun i o ho e he hb => ?_, fun i o ho j hj hA => ?_, fun i o ho j hj hA => ?_⟩
  · have := Array.all_eq_true_iff_forall_mem.1 (hall i o ho).1 e he
    simpa [hb] using this
  · have := (hall i o ho).2 j hj
    rw [if_pos hA] at this
    obtain ⟨e, he, hh⟩ := Array.any_eq_true'.1 this
    simp only [Bool.and_eq_true, Bool.or_eq_true, beq_iff_eq, decide_eq_true_eq] at hh
    exact ⟨e, he, hh.1, hh.2⟩
  · have := (hall i o ho).2 j hj
    rw [if_neg (by rw [hA]; decide)] at this
    exact this

/-- All that is an ancestor of what is listed is listed. -/
theorem listed_anc {full : Array Oper} {A : Array Nat} (hq : SeqOK isI isS hs full A) {listed : Array Bool} (hsz : listed.size = full.size)
    (down : ∀ i o, full[i]? = some o → listed.getD i false = true → ∀ e ∈ o.after, Region.binds .any e = true → listed.getD e.on false = true) {j : Nat} :
    ∀ (m k : Nat), k < m → listed.getD k false = true → (A.getD k 0).testBit j = true → j < k → listed.getD j false = true := by
  intro m
  induction m with
  | zero => intro k hk; omega
  | succ m ih =>
    intro k hk hlk hAk hjk
    have hks : k < full.size := by
      rcases Nat.lt_or_ge k full.size with h' | h'
      · exact h'
      · rw [Array.getD_eq_getD_getElem?, Array.getElem?_eq_none (by omega)] at hlk; cases hlk
    obtain ⟨ok, hok⟩ : ∃ ok, full[k]? = some ok := ⟨_, Array.getElem?_eq_getElem hks⟩
    obtain ⟨e, he, hb, hor⟩ := hq.anc k ok hok j hjk hAk
    have hle := down k ok hok hlk e he hb
    rcases hor with h' | ⟨hlt, hA'⟩
    · rw [← h']; exact hle
    · exact ih e.on (by have := hq.down k ok hok e he hb; omega) hle hA' hlt

/-- Whatever order is drawn. The places that are left: 'l', rising. -/
theorem wpAny_of_ss {full : Array Oper} {A : Array Nat} (hq : SeqOK isI isS hs full A) {K : Act → World → Prop} {Q : Exit → Act → World → Prop} (hQ : ∀ a w, K a w → Q .normal a w) :
    ∀ (fuel : Nat) (listed : Array Bool) (l : List Nat) (a : Act) (w : World), H w → listed.size = full.size → l.length ≤ fuel → l.Pairwise (· < ·) → (∀ i, i ∈ l ↔ i < full.size ∧ listed.getD i false = false) →
      (∀ i o, full[i]? = some o → listed.getD i false = true → ∀ e ∈ o.after, Region.binds .any e = true → listed.getD e.on false = true) →
      ss P isI isS hs H full K l a w → wpAny P .any full Q fuel listed a w := by
  intro fuel
  have start : ∀ (listed : Array Bool) (l : List Nat) (a : Act) (w : World), listed.size = full.size → l.Pairwise (· < ·) → (∀ i, i ∈ l ↔ i < full.size ∧ listed.getD i false = false) → ss P isI isS hs H full K l a w →
      Region.ready .any full listed = [] → Q .normal a w := by
    intro listed l a w hsz hp hl h hr
    cases l with
    | nil => exact hQ _ _ h
    | cons i r =>
      exfalso
      have hi := (hl i).1 (by simp)
      obtain ⟨o, ho⟩ : ∃ o, full[i]? = some o := ⟨_, Array.getElem?_eq_getElem hi.1⟩
      have : i ∈ Region.ready .any full listed := by
        rw [mem_ready]
        refine ⟨?_, o, ho, fun e he hb => ?_⟩
        · have h2 := hi.2
          rw [Array.getD_eq_getD_getElem?, Array.getElem?_eq_getElem (by omega)] at h2 ⊢
          simpa using h2
        · have hlt := hq.down i o ho e he hb
          cases hle : listed.getD e.on false with
          | true => rfl
          | false =>
            have := (hl e.on).2 ⟨by omega, hle⟩
            rcases List.mem_cons.1 this with h' | h'
            · omega
            · have := List.rel_of_pairwise_cons hp h'; omega
      rw [hr] at this
      cases this
  induction fuel with
  | zero =>
    intro listed l a w hw hsz hlen hp hl hd h
    have hnil : l = [] := List.eq_nil_of_length_eq_zero (by omega)
    subst hnil
    refine ⟨?_, hQ _ _ h⟩
    cases hr : Region.ready .any full listed with
    | nil => rfl
    | cons i r =>
      exfalso
      have hi : i ∈ Region.ready .any full listed := by rw [hr]; simp
      obtain ⟨h0, o, ho, _⟩ := mem_ready.1 hi
      have hlt : i < full.size := (Array.getElem?_eq_some_iff.1 ho).1
      have := (hl i).2 ⟨hlt, by
        rw [Array.getD_eq_getD_getElem?, Array.getElem?_eq_getElem (by omega)] at h0 ⊢
        simpa using h0⟩
      cases this
  | succ fuel ih =>
    intro listed l a w hw hsz hlen hp hl hd h
    refine ⟨start listed l a w hsz hp hl h, fun i hi => ?_⟩
    obtain ⟨h0, o, ho, hall⟩ := mem_ready.1 hi
    have hlt : i < full.size := (Array.getElem?_eq_some_iff.1 ho).1
    have hun : listed.getD i false = false := by
      rw [Array.getD_eq_getD_getElem?, Array.getElem?_eq_getElem (by omega)] at h0 ⊢
      simpa using h0
    obtain ⟨l1, l2, rfl⟩ := List.append_of_mem ((hl i).2 ⟨hlt, hun⟩)
    have hfree : ∀ j ∈ l1, free isI isS hs full j i = true := fun j hj => by
      have hji : j < i := (List.pairwise_append.1 hp).2.2 j hj i (by simp)
      have hju := ((hl j).1 (by simp [hj])).2
      cases hA : (A.getD i 0).testBit j with
      | false => exact hq.fre i o ho j hji hA
      | true =>
        exfalso
        obtain ⟨e, he, hb, hor⟩ := hq.anc i o ho j hji hA
        have hle := hall e he hb
        have : listed.getD j false = true := by
          rcases hor with h' | ⟨hlt', hA'⟩
          · rw [← h']; exact hle
          · exact listed_anc hq hsz hd (e.on + 1) e.on (by omega) hle hA' hlt'
        rw [hju] at this
        cases this
    refine wpOp_of_s1 (isI := isI) (isS := isS) (hs := hs) hw (fun a' w' hw' k => ?_) ho (ss_front hq.sel ho l2 l1 a w hfree hw h)
    have hp1 := List.pairwise_append.1 hp
    have hp2 := List.pairwise_cons.1 hp1.2.1
    refine ih _ (l1 ++ l2) a' w' hw' (by simpa using hsz) (by simp at hlen ⊢; omega) (List.pairwise_append.2 ⟨hp1.1, hp2.2, fun x hx y hy => hp1.2.2 x hx y (by simp [hy])⟩) (fun j => ?_) ?_ k
    · by_cases hji : j = i
      · subst hji
        constructor
        · intro hm
          exfalso
          rcases List.mem_append.1 hm with h' | h'
          · have := hp1.2.2 j h' j (by simp); omega
          · have := hp2.1 j h'; omega
        · rintro ⟨_, h'⟩
          rw [Array.getD_eq_getD_getElem?, Array.getElem?_setIfInBounds_self_of_lt (by omega)] at h'
          cases h'
      · rw [getD_set_ne false (Ne.symm hji), ← hl j]
        simp [hji]
    · intro k' ok hok hlk e he hb
      refine getD_set_true ?_
      by_cases hki : k' = i
      · subst hki
        rw [ho] at hok
        injection hok with hok
        subst hok
        exact hall e he hb
      · rw [getD_set_ne false (Ne.symm hki)] at hlk
        exact hd k' ok hok hlk e he hb

/-- A region that draws its order, by its operations in the order of the text. -/
theorem wp_region_ss {id : Nat} {full : Array Oper} {K : Act → World → Prop} {Q : Exit → Act → World → Prop} {a : Act} {w : World} (hm : P.follows .mixedOrders = true) (hw : H w.drew)
    (hq : seqOK isI isS hs full (Region.before full) = true) (hQ : ∀ a w, K a w → Q .normal a w)
    (h : ss P isI isS hs H full K (List.range full.size) a w.drew) : (Code.region id full true).wp P Q a w :=
  wp_region_any hm (wpAny_of_ss (seqOK_spec hq) hQ full.size _ (List.range full.size) a _ hw (by simp) (by simp) List.pairwise_lt_range
    (fun i => by simp [Array.getD_eq_getD_getElem?]; intro h; simp [h]) (fun i o ho hl => by
      exfalso
      rw [Array.getD_eq_getD_getElem?, Array.getElem?_replicate] at hl
      split at hl <;> simp at hl) h)

theorem wpOps_of_ss {full : Array Oper} {K : Act → World → Prop} {Q : Exit → Act → World → Prop} (hQ : ∀ a w, K a w → Q .normal a w) : ∀ (l : List Nat) (a : Act) (w : World), H w → ss P isI isS hs H full K l a w → wpOps P full Q l a w
  | [], a, w, _, h => hQ _ _ h
  | i :: l, a, w, hw, h => by
    rw [wpOps_cons]
    simp only [ss] at h
    split at h
    · exact h.elim
    · rename_i o ho
      exact wpOp_of_s1 hw (fun a w hw k => wpOps_of_ss hQ l a w hw k) ho h

/-- A region that draws no order. -/
theorem wp_region_ss' {id : Nat} {full : Array Oper} {K : Act → World → Prop} {Q : Exit → Act → World → Prop} {a : Act} {w : World} (hw : H w) (hQ : ∀ a w, K a w → Q .normal a w)
    (h : ss P isI isS hs H full K (List.range full.size) a w) : (Code.region id full false).wp P Q a w :=
  wp_region (wpOps_of_ss hQ _ a w hw h)

end Eng
end Go.Proofs.YtalnkjpgnkfedaaGreatDoor

/-! A walk over named temporaries: the state is a list of slots with their values, the code to come a list of items. Rules for sequences, tests, blocks, loops, labels, regions, calls and returns. -/
namespace Go.Proofs.YtalnkjpgnkfedaaGreatDoor
open Go.RowKit

namespace Eng

abbrev Env := List (Nat × Value)

def look : Env → Nat → Option Value
  | [], _ => none
  | (k, v) :: r, t => match Nat.beq k t with
    | true => some v
    | false => look r t

def evo (env : Env) : Operand → Option Value
  | .tmp t => look env t
  | .const v => some v
  | .global g => some (.pointer (some ⟨g, 0, none⟩))
  | .func f => some (.func (.func f) #[] #[])

def ev (env : Env) (x : Operand) : Value := (evo env x).getD undef

def Fits (N : Nat) (env : Env) (a : Act) : Prop := a.defers = [] ∧ a.tmps.size = N ∧ ∀ t v, look env t = some v → a.tmps[t]? = some v

def put (env : Env) : Option Tmp → Value → Env
  | some d, v => (d, v) :: env
  | none, _ => env

theorem look_cons (k : Nat) (v : Value) (r : Env) (t : Nat) : look ((k, v) :: r) t = if k = t then some v else look r t := by
  simp only [look]
  by_cases h : k = t
  · subst h; simp
  · rw [if_neg h]
    have : Nat.beq k t = false := by
      cases hb : Nat.beq k t with
      | false => rfl
      | true => exact absurd (Nat.eq_of_beq_eq_true hb) h
    rw [this]

theorem Fits.eval {N : Nat} {env : Env} {a : Act} (h : Fits N env a) {x : Operand} {v : Value} (hx : evo env x = some v) : a.eval x = v := by
  cases x with
  | tmp t => simp only [Act.eval]; rw [Array.getD_eq_getD_getElem?, h.2.2 t v hx]; rfl
  | const u => injection hx
  | global g => injection hx
  | func f => injection hx

theorem Fits.put {N : Nat} {env : Env} {a : Act} (h : Fits N env a) (d : Option Tmp) (hd : ∀ t, d = some t → t < N) (v : Value) : Fits N (put env d v) (a.put d v) := by
  obtain ⟨h1, h2, h3⟩ := h
  cases d with
  | none => exact ⟨h1, h2, h3⟩
  | some d =>
    refine ⟨h1, by simpa [Act.put] using h2, fun t u hu => ?_⟩
    simp only [Eng.put, look_cons] at hu
    simp only [Act.put]
    split at hu
    · rename_i e; subst e; injection hu with hu; subst hu
      rw [Array.getElem?_setIfInBounds_self_of_lt (by rw [h2]; exact hd _ rfl)]
    · rename_i e
      rw [Array.getElem?_setIfInBounds_ne e]; exact h3 t u hu

def opsOK (env : Env) (o : Oper) : Bool := o.op.operands.toList.all fun x => (evo env x).isSome

theorem exec_eq {N : Nat} {env : Env} {a : Act} (h : Fits N env a) {o : Oper} (hs : ∀ cs b, o.op ≠ .select cs b) (ho : opsOK env o = true) : execOp (ev env) o = execOp a.eval o :=
  execOp_congr o hs fun x hx => by
    have := List.all_eq_true.1 ho x (by simpa using hx)
    obtain ⟨v, hv⟩ := Option.isSome_iff_exists.1 this
    rw [h.eval hv]
    simp [ev, hv]

/-- What the guard of an operation says. -/
def gv (full : Array Oper) (env : Env) (g : Option (Nat × Bool)) : Option Bool :=
  match g with
  | none => some true
  | some (j, want) => match (full[j]?).bind (·.dst) with
    | none => some false
    | some d => match look env d with
      | some (.bool true) => some want
      | some (.bool false) => some (!want)
      | some _ => some false
      | none => none

theorem gv_wanted {N : Nat} {full : Array Oper} {env : Env} {a : Act} (h : Fits N env a) {o : Oper} {b : Bool} (hg : gv full env o.guard = some b) : Region.wanted o (yielded full a.tmps) = b := by
  unfold gv at hg
  unfold Region.wanted
  cases hgd : o.guard with
  | none => rw [hgd] at hg; injection hg
  | some jw =>
    obtain ⟨j, want⟩ := jw
    rw [hgd] at hg
    dsimp only at hg ⊢
    unfold yielded
    cases hd : (full[j]?).bind (·.dst) with
    | none => rw [hd] at hg; injection hg
    | some d =>
      rw [hd] at hg
      dsimp only at hg
      cases hl : look env d with
      | none => rw [hl] at hg; cases hg
      | some v =>
        rw [hl] at hg
        simp only [Option.bind_some, h.2.2 d v hl]
        cases v with
        | bool c => cases c <;> injection hg with hg <;> subst hg <;> cases want <;> rfl
        | _ => injection hg

variable {P : Program} {isI isS : TypeId → Bool} {hs : List Nat} {H : World → Prop}

/-- Operations one behind the other, over named temporaries. -/
def xs (P : Program) (isI isS : TypeId → Bool) (hs : List Nat) (H : World → Prop) (full : Array Oper) (K : Env → World → Prop) : List Oper → Env → World → Prop
  | [], env, w => K env w
  | o :: rest, env, w => ∃ g, gv full env o.guard = some g ∧
      (g = true → opsOK env o = true ∧ acts P H (clsO isI isS hs o) (execOp (ev env) o) w (fun v w' => xs P isI isS hs H full K rest (put env o.dst v) w')) ∧
      (g = false → xs P isI isS hs H full K rest (put env o.dst undef) w)

theorem ss_of_xs {N : Nat} {full : Array Oper} {K : Env → World → Prop} (hsel : Region.noSelect full = true) (hd : ∀ (i : Nat) (o : Oper), full[i]? = some o → ∀ t, o.dst = some t → t < N) :
    ∀ (l : List Oper) (k : Nat) (env : Env) (a : Act) (w : World), (∀ j, l[j]? = full[k + j]?) → H w → Fits N env a → xs P isI isS hs H full K l env w →
      ss P isI isS hs H full (fun a' w' => ∃ env', Fits N env' a' ∧ K env' w') (List.range' k l.length) a w
  | [], k, env, a, w, _, _, hf, h => ⟨env, hf, h⟩
  | o :: l, k, env, a, w, hl, hw, hf, h => by
    have h0 : full[k]? = some o := by simpa using (hl 0).symm
    have hl' : ∀ j, l[j]? = full[k + 1 + j]? := fun j => by have := hl (j + 1); simpa [Nat.add_assoc, Nat.add_comm 1 j] using this
    obtain ⟨g, hg, ht, hff⟩ := h
    simp only [List.length_cons, List.range'_succ, ss, h0]
    unfold s1
    rw [gv_wanted hf hg]
    cases g with
    | true =>
      obtain ⟨ho, ha⟩ := ht rfl
      rw [if_pos rfl, ← exec_eq hf (fun cs b => Region.noSelect_spec hsel k o cs b h0) ho]
      exact acts_mono hw (fun v w' hw' hx => ss_of_xs hsel hd l (k + 1) _ _ w' hl' hw' (hf.put o.dst (hd k o h0) v) hx) ha
    | false =>
      rw [if_neg (by decide)]
      exact ss_of_xs hsel hd l (k + 1) _ _ w hl' hw (hf.put o.dst (hd k o h0) undef) (hff rfl)

/-- What is still to do. -/
inductive It where
  | code (c : Code)
  | blk (id : Nat)
  | fin (J : Env → World → Prop)
  | scp (J : Nat → Env → World → Prop)

def sem (P : Program) (N : Nat) (Q : Exit → Act → World → Prop) : List It → Exit → Act → World → Prop
  | [] => Q
  | .code c :: k => Exit.then (fun a w => c.wp P (sem P N Q k) a w) (sem P N Q k)
  | .blk id :: k => Exit.inBlock id (sem P N Q k)
  | .fin J :: k => Exit.then (fun a w => ∃ env, Fits N env a ∧ J env w) (sem P N Q k)
  | .scp J :: k => fun e a w => match e with
    | .goto l => ∃ env, Fits N env a ∧ J l env w
    | e => sem P N Q k e a w

def Ret (R : Value → World → Prop) : Ending → World → Prop := fun e w => ∃ v, e = .returned v ∧ R v w

/-- The function f returns, and R holds of its result and the world. -/
def Does (P : Program) (f : FuncId) (args : Array Value) (w : World) (R : Value → World → Prop) : Prop := Calls P f args w (Ret R)

theorem Does.mono {f : FuncId} {args : Array Value} {w : World} {R R' : Value → World → Prop} (h : Does P f args w R) (hr : ∀ v w', R v w' → R' v w') : Does P f args w R' :=
  Calls.mono h fun _ _ ⟨v, he, k⟩ => ⟨v, he, hr _ _ k⟩

def T (P : Program) (fn : Func) (R : Value → World → Prop) (k : List It) (env : Env) (w : World) : Prop :=
  ∀ a, Fits fn.ntmps env a → sem P fn.ntmps (bodyPost P fn (Ret R)) k .normal a w

variable {fn : Func} {R : Value → World → Prop} {k : List It} {env : Env} {w : World}

theorem tseq {x y : Code} (h : T P fn R (.code x :: .code y :: k) env w) : T P fn R (.code (.seq x y) :: k) env w := fun a ha => wp_seq (h a ha)
theorem tskip (h : T P fn R k env w) : T P fn R (.code .skip :: k) env w := fun a ha => wp_skip (h a ha)
theorem tlabel {l : Nat} (h : T P fn R k env w) : T P fn R (.code (.label l) :: k) env w := fun a ha => wp_label (h a ha)
theorem tblock {id : Nat} {c : Code} (h : T P fn R (.code c :: .blk id :: k) env w) : T P fn R (.code (.block id c) :: k) env w := fun a ha => wp_block (h a ha)
theorem tblk {id : Nat} (h : T P fn R k env w) : T P fn R (.blk id :: k) env w := fun a ha => h a ha
theorem tfin {J : Env → World → Prop} (h : J env w) : T P fn R (.fin J :: k) env w := fun _ ha => ⟨env, ha, h⟩
theorem tct {c : Operand} {x y : Code} (hc : evo env c = some (.bool true)) (h : T P fn R (.code x :: k) env w) : T P fn R (.code (.cond c x y) :: k) env w := fun a ha => wp_cond_true (ha.eval hc) (h a ha)
theorem tcf {c : Operand} {x y : Code} (hc : evo env c = some (.bool false)) (h : T P fn R (.code y :: k) env w) : T P fn R (.code (.cond c x y) :: k) env w := fun a ha => wp_cond_false (ha.eval hc) (h a ha)
theorem tcs {c : Operand} {x y : Code} {b : Bool} (hc : evo env c = some (.bool b)) (h1 : b = true → T P fn R (.code x :: k) env w) (h2 : b = false → T P fn R (.code y :: k) env w) : T P fn R (.code (.cond c x y) :: k) env w := by
  cases b
  · exact tcf hc (h2 rfl)
  · exact tct hc (h1 rfl)

def exitK (id : Nat) : List It → Option (List It)
  | [] => none
  | .blk i :: k => match Nat.beq i id with
    | true => some k
    | false => exitK id k
  | _ :: k => exitK id k

theorem sem_exit {N : Nat} {Q : Exit → Act → World → Prop} {id : Nat} {a : Act} {w : World} : ∀ {k k' : List It}, exitK id k = some k' → sem P N Q k' .normal a w → sem P N Q k (.exit id) a w
  | [], _, h, _ => by cases h
  | .blk i :: k, k', h, hs => by
    simp only [exitK] at h
    show Exit.inBlock i (sem P N Q k) (.exit id) a w
    simp only [Exit.inBlock]
    split at h
    · rename_i hb
      have := Nat.eq_of_beq_eq_true hb
      rw [if_pos this.symm]; injection h with h; subst h; exact hs
    · rename_i hb
      rw [if_neg (fun e => by rw [e, Nat.beq_refl] at hb; cases hb)]
      exact sem_exit h hs
  | .code c :: k, k', h, hs => sem_exit (k := k) h hs
  | .fin J :: k, k', h, hs => sem_exit (k := k) h hs
  | .scp J :: k, k', h, hs => sem_exit (k := k) h hs

theorem texit {id : Nat} {k' : List It} (he : exitK id k = some k') (h : T P fn R k' env w) : T P fn R (.code (.exit id) :: k) env w := fun a ha => wp_exit (sem_exit he (h a ha))

def gotoK : List It → Option (Nat → Env → World → Prop)
  | [] => none
  | .scp J :: _ => some J
  | _ :: k => gotoK k

theorem sem_goto {N : Nat} {Q : Exit → Act → World → Prop} {l : Nat} {J : Nat → Env → World → Prop} {a : Act} {env : Env} {w : World} (ha : Fits N env a) (hJ : J l env w) : ∀ {k : List It}, gotoK k = some J → sem P N Q k (.goto l) a w
  | [], h => by cases h
  | .scp J' :: k, h => by injection h with h; subst h; exact ⟨env, ha, hJ⟩
  | .code c :: k, h => sem_goto ha hJ (k := k) h
  | .blk i :: k, h => sem_goto ha hJ (k := k) h
  | .fin J' :: k, h => sem_goto ha hJ (k := k) h

theorem tgoto {l : Nat} {J : Nat → Env → World → Prop} (hk : gotoK k = some J) (h : J l env w) : T P fn R (.code (.goto l) :: k) env w := fun _ ha => wp_goto (sem_goto ha h hk)

theorem sem_ret {N : Nat} {Q : Exit → Act → World → Prop} {a : Act} {w : World} (h : Q .ret a w) : ∀ k : List It, sem P N Q k .ret a w
  | [] => h
  | .code _ :: k => sem_ret h k
  | .blk _ :: k => sem_ret h k
  | .fin _ :: k => sem_ret h k
  | .scp _ :: k => sem_ret h k

theorem tret1 {t : Tmp} {v : Value} (hr : fn.results = #[.tmp t]) (hv : look env t = some v) (h : R v w) : T P fn R (.code .ret :: k) env w := fun a ha =>
  wp_ret (sem_ret (show bodyPost P fn (Ret R) .ret a w from ⟨ha.1, v, by rw [results_tmp hr, Array.getD_eq_getD_getElem?, ha.2.2 t v hv]; rfl, v, rfl, h⟩) k)
theorem tret2 {t u : Tmp} {v v' : Value} (hr : fn.results = #[.tmp t, .tmp u]) (hv : look env t = some v) (hv' : look env u = some v') (h : R (.tuple #[v, v']) w) : T P fn R (.code .ret :: k) env w := fun a ha =>
  wp_ret (sem_ret (show bodyPost P fn (Ret R) .ret a w from ⟨ha.1, _, by rw [results_tmp2 hr, Array.getD_eq_getD_getElem?, Array.getD_eq_getD_getElem?, ha.2.2 t v hv, ha.2.2 u v' hv']; rfl, _, rfl, h⟩) k)
theorem results3 {t u s : Tmp} (h : fn.results = #[.tmp t, .tmp u, .tmp s]) (tmps : Array Value) (P : Program) (w : World) :
    (results fn tmps).run P w = .ok (.tuple #[tmps.getD t undef, tmps.getD u undef, tmps.getD s undef]) w := by simp [results, h]
theorem tret3 {t u s : Tmp} {v v' v'' : Value} (hr : fn.results = #[.tmp t, .tmp u, .tmp s]) (hv : look env t = some v) (hv' : look env u = some v') (hv'' : look env s = some v'') (h : R (.tuple #[v, v', v'']) w) : T P fn R (.code .ret :: k) env w := fun a ha =>
  wp_ret (sem_ret (show bodyPost P fn (Ret R) .ret a w from ⟨ha.1, _, by rw [results3 hr, Array.getD_eq_getD_getElem?, Array.getD_eq_getD_getElem?, Array.getD_eq_getD_getElem?, ha.2.2 t v hv, ha.2.2 u v' hv', ha.2.2 s v'' hv'']; rfl, _, rfl, h⟩) k)
theorem tret0 (hr : fn.results = #[]) (h : R (.tuple #[]) w) : T P fn R (.code .ret :: k) env w := fun a ha =>
  wp_ret (sem_ret (show bodyPost P fn (Ret R) .ret a w from ⟨ha.1, _, results_none hr _ _ _, _, rfl, h⟩) k)
theorem tend0 (hr : fn.results = #[]) (h : R (.tuple #[]) w) : T P fn R [] env w := fun a ha =>
  show bodyPost P fn (Ret R) .normal a w from ⟨ha.1, _, results_none hr _ _ _, _, rfl, h⟩

/-- All that the first list says the second says, too. -/
def Sub (e env : Env) : Prop := ∀ t v, look e t = some v → look env t = some v

def SubL : Env → Env → Prop
  | [], _ => True
  | [(t, v)], env => look env t = some v
  | (t, v) :: r, env => look env t = some v ∧ SubL r env

theorem sub : ∀ {e env : Env}, SubL e env → Sub e env
  | [], _, _ => fun t v h => by cases h
  | [(t', v')], env, hs => fun t v h => by
    rw [look_cons] at h
    split at h
    · rename_i e; subst e; injection h with h; subst h; exact hs
    · cases h
  | (t', v') :: x :: r, env, hs => fun t v h => by
    rw [look_cons] at h
    split at h
    · rename_i e; subst e; injection h with h; subst h; exact hs.1
    · exact sub hs.2 t v h

theorem Fits.sub {N : Nat} {e env : Env} {a : Act} (h : Fits N env a) (hs : Sub e env) : Fits N e a := ⟨h.1, h.2.1, fun t v hl => h.2.2 t v (hs t v hl)⟩
theorem tweak {e : Env} (h : T P fn R k e w) (hs : Sub e env) : T P fn R k env w := fun a ha => h a (ha.sub hs)

/-- Regions. -/
def dstOK (N : Nat) (full : Array Oper) : Bool := Region.noSelect full && full.all fun o => match o.dst with
  | some d => decide (d < N)
  | none => true

theorem dstOK_spec {N : Nat} {full : Array Oper} (h : dstOK N full = true) : Region.noSelect full = true ∧ ∀ (i : Nat) (o : Oper), full[i]? = some o → ∀ t, o.dst = some t → t < N := by
  unfold dstOK at h
  rw [Bool.and_eq_true] at h
  refine ⟨h.1, fun i o ho t ht => ?_⟩
  have := Array.all_eq_true_iff_forall_mem.1 h.2 o (Array.mem_of_getElem? ho)
  rw [ht] at this
  simpa using this

/-- Nothing is held. -/
def noH : World → Prop := fun _ => True

theorem treg' (isI isS : TypeId → Bool) {id : Nat} {full : Array Oper} (hd : dstOK fn.ntmps full = true) (h : xs P isI isS [] noH full (T P fn R k) full.toList env w) : T P fn R (.code (.region id full false) :: k) env w := fun a ha => by
  obtain ⟨hs, hd⟩ := dstOK_spec hd
  refine wp_region_ss' (isI := isI) (isS := isS) (hs := []) (H := noH) trivial (K := fun a' w' => ∃ env', Fits fn.ntmps env' a' ∧ T P fn R k env' w') (fun a' w' ⟨env', hf, ht⟩ => ht a' hf) ?_
  have := ss_of_xs (N := fn.ntmps) hs hd full.toList 0 env a w (by simp) trivial ha h
  simpa [List.range_eq_range'] using this

theorem tdraw' (isI isS : TypeId → Bool) (hs : List Nat) (H : World → Prop) {id : Nat} {full : Array Oper} (hm : P.follows .mixedOrders = true) (hd : dstOK fn.ntmps full = true) (hq : seqOK isI isS hs full (Region.before full) = true) (hw : H w.drew)
    (h : xs P isI isS hs H full (T P fn R k) full.toList env w.drew) :
    T P fn R (.code (.region id full true) :: k) env w := fun a ha => by
  obtain ⟨hs', hd⟩ := dstOK_spec hd
  refine wp_region_ss (isI := isI) (isS := isS) (hs := hs) (H := H) hm hw hq (K := fun a' w' => ∃ env', Fits fn.ntmps env' a' ∧ T P fn R k env' w') (fun a' w' ⟨env', hf, ht⟩ => ht a' hf) ?_
  have := ss_of_xs (N := fn.ntmps) hs' hd full.toList 0 env a w.drew (by simp) hw ha h
  simpa [List.range_eq_range'] using this

/-- A loop: E x: the slots at its head, I x: what holds of the world, μ x: how much is still to come. -/
def Again {α : Type} (E : α → Env) (I : α → World → Prop) (μ : α → Nat) (n : Nat) : Env → World → Prop := fun env w => ∃ y, Sub (E y) env ∧ I y w ∧ μ y < n

theorem tloop {α : Type} (E : α → Env) (I : α → World → Prop) (μ : α → Nat) {c : Code} (x0 : α) (h0 : Sub (E x0) env) (hI : I x0 w)
    (round : ∀ x w, I x w → T P fn R (.code c :: .fin (Again E I μ (μ x)) :: k) (E x) w) : T P fn R (.code (.loop c) :: k) env w := fun a ha => by
  refine wp_loop_ghost (fun n a w => ∃ x, μ x = n ∧ Fits fn.ntmps (E x) a ∧ I x w) (μ x0) ⟨x0, rfl, ha.sub h0, hI⟩ ?_
  rintro n a w ⟨x, rfl, hf, hI⟩
  refine wp_mono (round x w hI a hf) ?_
  intro e a' w' hq
  cases e with
  | normal => obtain ⟨env', hf', y, hs, hy, hlt⟩ := hq; exact ⟨μ y, hlt, y, rfl, hf'.sub hs, hy⟩
  | exit id => exact hq
  | goto l => exact hq
  | ret => exact hq
  | panic ch => exact hq
  | outgrown => exact hq

/-- What stands behind a label. -/
def unroll : Code → List It
  | .seq x y => unroll x ++ [.code y]
  | .skip => []
  | c => [.code c]

def after (c : Code) (l : Nat) : Option (List It) := match findLabel c l with
  | some r => some (unroll r)
  | none => none

theorem sem_unroll {N : Nat} {Q : Exit → Act → World → Prop} {a : Act} {w : World} : ∀ (c : Code) (k : List It), sem P N Q (unroll c ++ k) .normal a w → c.wp P (sem P N Q k) a w
  | .seq x y, k, h => by
    refine wp_seq ?_
    rw [unroll, List.append_assoc] at h
    exact sem_unroll x (.code y :: k) h
  | .skip, k, h => wp_skip h
  | .region .., k, h => h
  | .cond .., k, h => h
  | .block .., k, h => h
  | .loop .., k, h => h
  | .rangeFunc .., k, h => h
  | .exit .., k, h => h
  | .scope .., k, h => h
  | .label .., k, h => h
  | .goto .., k, h => h
  | .ret, k, h => h
  | .refuse .., k, h => h

theorem wp_scope_labels {c : Code} {Q : Exit → Act → World → Prop} {a : Act} {w : World} (J : Nat → Nat → Act → World → Prop) (hJ : ∀ l n a w, J l n a w → ∃ rest, findLabel c l = some rest)
    (first : c.wp P (fun e a w => match e with
      | .goto l => ∃ n, J l n a w
      | e => Q e a w) a w)
    (pass : ∀ n l rest a w, findLabel c l = some rest → J l n a w → rest.wp P (fun e a w => match e with
      | .goto l => ∃ m, m < n ∧ J l m a w
      | e => Q e a w) a w) : (Code.scope c).wp P Q a w := by
  intro b k cs
  have hg : ∀ l rest, findLabel c l = some rest → gotoIn l (.inScope c :: k) = some (.code rest :: .inScope c :: k) := fun l rest hf => by simp [gotoIn, hf]
  have key : ∀ n l rest a w, findLabel c l = some rest → J l n a w → ∃ e a' w', Q e a' w' ∧ Arrives P (lone (b.at a (.code rest :: .inScope c :: k)) cs w) b k cs e a' w' := by
    intro n
    induction n using Nat.strongRecOn with
    | _ n ih =>
      intro l rest a w hf hJn
      obtain ⟨e, a₁, w₁, hq, harr⟩ := pass n l rest a w hf hJn b (.inScope c :: k) cs
      cases e with
      | normal => exact ⟨.normal, a₁, w₁, hq, Steps.trans harr (.one step_inScope)⟩
      | exit id => exact ⟨.exit id, a₁, w₁, hq, fun k' hk => harr k' (by simp [exitTo, hk])⟩
      | goto l' =>
        obtain ⟨m, hm, hJ'⟩ := hq
        obtain ⟨rest', hf'⟩ := hJ _ _ _ _ hJ'
        obtain ⟨e₂, a₂, w₂, hq₂, harr₂⟩ := ih m hm l' rest' a₁ w₁ hf' hJ'
        exact ⟨e₂, a₂, w₂, hq₂, .of_steps (harr _ (hg l' rest' hf')) harr₂⟩
      | ret => exact ⟨_, a₁, w₁, hq, harr⟩
      | panic ch => exact ⟨_, a₁, w₁, hq, harr⟩
      | outgrown => exact ⟨_, a₁, w₁, hq, harr⟩
  obtain ⟨e, a₁, w₁, hq, harr⟩ := first b (.inScope c :: k) cs
  cases e with
  | normal => exact ⟨.normal, a₁, w₁, hq, .head step_scope (Steps.trans harr (.one step_inScope))⟩
  | exit id => exact ⟨.exit id, a₁, w₁, hq, fun k' hk => .head step_scope (harr k' (by simp [exitTo, hk]))⟩
  | goto l' =>
    obtain ⟨n, hJ'⟩ := hq
    obtain ⟨rest', hf'⟩ := hJ _ _ _ _ hJ'
    obtain ⟨e₂, a₂, w₂, hq₂, harr₂⟩ := key n l' rest' a₁ w₁ hf' hJ'
    exact ⟨e₂, a₂, w₂, hq₂, .of_steps (.head step_scope (harr _ (hg l' rest' hf'))) harr₂⟩
  | ret => exact ⟨_, a₁, w₁, hq, .of_steps (.one step_scope) harr⟩
  | panic ch => exact ⟨_, a₁, w₁, hq, .of_steps (.one step_scope) harr⟩
  | outgrown => exact ⟨_, a₁, w₁, hq, .of_steps (.one step_scope) harr⟩

theorem sem_mono_scp {N : Nat} {Q : Exit → Act → World → Prop} {J J' : Nat → Env → World → Prop} (hJ : ∀ l env w, J l env w → J' l env w) : ∀ (k1 k : List It) (e : Exit) (a : Act) (w : World), sem P N Q (k1 ++ .scp J :: k) e a w → sem P N Q (k1 ++ .scp J' :: k) e a w
  | [], k, e, a, w, h => by
    cases e with
    | goto l => obtain ⟨env, hf, hj⟩ := h; exact ⟨env, hf, hJ _ _ _ hj⟩
    | normal => exact h
    | exit id => exact h
    | ret => exact h
    | panic ch => exact h
    | outgrown => exact h
  | .code c :: k1, k, e, a, w, h => by
    have ih := sem_mono_scp (N := N) (Q := Q) hJ k1 k
    cases e with
    | normal => exact wp_mono (c := c) h ih
    | goto l => exact ih _ a w h
    | exit id => exact ih _ a w h
    | ret => exact ih _ a w h
    | panic ch => exact ih _ a w h
    | outgrown => exact ih _ a w h
  | .blk i :: k1, k, e, a, w, h => by
    have ih := sem_mono_scp (N := N) (Q := Q) hJ k1 k
    cases e with
    | exit id =>
      have h' : Exit.inBlock i (sem P N Q (k1 ++ .scp J :: k)) (.exit id) a w := h
      show Exit.inBlock i (sem P N Q (k1 ++ .scp J' :: k)) (.exit id) a w
      simp only [Exit.inBlock] at h' ⊢
      split
      · rename_i he; rw [if_pos he] at h'; exact ih _ _ _ h'
      · rename_i he; rw [if_neg he] at h'; exact ih _ _ _ h'
    | normal => exact ih _ a w h
    | goto l => exact ih _ a w h
    | ret => exact ih _ a w h
    | panic ch => exact ih _ a w h
    | outgrown => exact ih _ a w h
  | .fin J0 :: k1, k, e, a, w, h => by
    have ih := sem_mono_scp (N := N) (Q := Q) hJ k1 k
    cases e with
    | normal => exact h
    | exit id => exact ih _ a w h
    | goto l => exact ih _ a w h
    | ret => exact ih _ a w h
    | panic ch => exact ih _ a w h
    | outgrown => exact ih _ a w h
  | .scp J0 :: k1, k, e, a, w, h => by
    have ih := sem_mono_scp (N := N) (Q := Q) hJ k1 k
    cases e with
    | goto l => exact h
    | normal => exact ih _ a w h
    | exit id => exact ih _ a w h
    | ret => exact ih _ a w h
    | panic ch => exact ih _ a w h
    | outgrown => exact ih _ a w h

def Less (L : Nat → Nat → Env → World → Prop) (n : Nat) : Nat → Env → World → Prop := fun l env w => ∃ m, m < n ∧ L l m env w
def Some (L : Nat → Nat → Env → World → Prop) : Nat → Env → World → Prop := fun l env w => ∃ m, L l m env w

/-- A scope with labels: L l n: what holds at label l, where n bounds what is still to come. -/
theorem tscope {c : Code} (L : Nat → Nat → Env → World → Prop) (hL : ∀ l n env w, L l n env w → ∃ ys, after c l = some ys)
    (seg : ∀ n l ys env w, after c l = some ys → L l n env w →
      (∀ l' ys' env' w', after c l' = some ys' → Less L n l' env' w' → T P fn R (ys' ++ .scp (Less L n) :: k) env' w') → T P fn R (ys ++ .scp (Less L n) :: k) env w)
    (first : (∀ l ys env w, after c l = some ys → Some L l env w → T P fn R (ys ++ .scp (Some L) :: k) env w) → T P fn R (.code c :: .scp (Some L) :: k) env w) :
    T P fn R (.code (.scope c) :: k) env w := by
  have key : ∀ n l ys env w, after c l = some ys → L l n env w → T P fn R (ys ++ .scp (Less L n) :: k) env w := by
    intro n
    induction n using Nat.strongRecOn with
    | _ n ih =>
      intro l ys env w ha hl
      refine seg n l ys env w ha hl ?_
      rintro l' ys' env' w' ha' ⟨m, hm, hl'⟩ a hf
      exact sem_mono_scp (fun l'' env'' w'' ⟨m', hm', h''⟩ => ⟨m', by omega, h''⟩) ys' k _ a w' (ih m hm l' ys' env' w' ha' hl' a hf)
  have hfirst := first (fun l ys env w ha ⟨m, hl⟩ a hf => sem_mono_scp (fun l'' env'' w'' ⟨m', _, h''⟩ => ⟨m', h''⟩) ys k _ a w (key m l ys env w ha hl a hf))
  intro a ha
  refine wp_scope_labels (fun l n a w => ∃ env, Fits fn.ntmps env a ∧ L l n env w) ?_ ?_ ?_
  · rintro l n a w ⟨env, _, hl⟩
    obtain ⟨ys, hys⟩ := hL l n env w hl
    unfold after at hys
    split at hys
    · rename_i r hr; exact ⟨r, hr⟩
    · cases hys
  · refine wp_mono (hfirst a ha) ?_
    intro e a' w' hq
    cases e with
    | goto l => obtain ⟨env', hf, m, hl⟩ := hq; exact ⟨m, env', hf, hl⟩
    | normal => exact hq
    | exit id => exact hq
    | ret => exact hq
    | panic ch => exact hq
    | outgrown => exact hq
  · rintro n l rest a w hf ⟨env, hfit, hl⟩
    have ha' : after c l = some (unroll rest) := by unfold after; rw [hf]
    refine wp_mono (sem_unroll rest (.scp (Less L n) :: k) (key n l _ env w ha' hl a hfit)) ?_
    intro e a' w' hq
    cases e with
    | goto l => obtain ⟨env', hf, m, hm, hl⟩ := hq; exact ⟨m, hm, env', hf, hl⟩
    | normal => exact hq
    | exit id => exact hq
    | ret => exact hq
    | panic ch => exact hq
    | outgrown => exact hq

/-- One label alone. -/
def At {α : Type} (l0 : Nat) (E : α → Env) (I : α → World → Prop) (μ : α → Nat) : Nat → Nat → Env → World → Prop := fun l n env w => l = l0 ∧ ∃ x, Sub (E x) env ∧ I x w ∧ μ x = n

theorem tscope1 {α : Type} {c : Code} {ys : List It} (l0 : Nat) (hf : after c l0 = some ys) (E : α → Env) (I : α → World → Prop) (μ : α → Nat)
    (seg : ∀ x w, I x w → T P fn R (ys ++ .scp (Less (At l0 E I μ) (μ x)) :: k) (E x) w)
    (first : (∀ x w, I x w → T P fn R (ys ++ .scp (Some (At l0 E I μ)) :: k) (E x) w) → T P fn R (.code c :: .scp (Some (At l0 E I μ)) :: k) env w) :
    T P fn R (.code (.scope c) :: k) env w := by
  refine tscope (At l0 E I μ) (fun l n env w ⟨he, _⟩ => ⟨ys, he ▸ hf⟩) ?_ ?_
  · rintro n l ys' env w ha ⟨rfl, x, hs, hI, rfl⟩ _
    rw [hf] at ha; injection ha with ha; subst ha
    exact tweak (seg x w hI) hs
  · intro h
    refine first fun x w hI => ?_
    exact h l0 ys (E x) w hf ⟨μ x, rfl, x, fun _ _ h => h, hI, rfl⟩

/-- Entering a function. -/
theorem fits_args {args : Array Value} {N : Nat} (hn : args.size ≤ N) {e : Env} (he : ∀ t v, look e t = some v → args[t]? = some v) : Fits N e { tmps := args ++ Array.replicate (N - args.size) undef, defers := [] } :=
  ⟨rfl, by simp; omega, fun t v hl => by
    have := he t v hl
    have hlt : t < args.size := (Array.getElem?_eq_some_iff.1 this).1
    rw [Array.getElem?_append_left hlt]; exact this⟩

def argEnv : Nat → List Value → Env
  | _, [] => []
  | n, v :: r => (n, v) :: argEnv (n + 1) r

theorem look_argEnv : ∀ (l : List Value) (n t : Nat) (v : Value), look (argEnv n l) t = some v → n ≤ t ∧ l[t - n]? = some v
  | [], n, t, v, h => by cases h
  | u :: r, n, t, v, h => by
    rw [argEnv, look_cons] at h
    split at h
    · rename_i e; subst e; injection h with h; subst h; simp
    · rename_i e
      have := look_argEnv r (n + 1) t v h
      refine ⟨by omega, ?_⟩
      have e2 : t - n = (t - (n + 1)) + 1 := by omega
      rw [e2]; simpa using this.2

theorem does_of {f : FuncId} {c : Code} {l : List Value} {w : World} (hf : P.funcs[f]? = some fn) (hb : fn.body = some c) (hn : (decide (l.length ≤ fn.ntmps)) = true) (h : T P fn R [.code c] (argEnv 0 l) w) : Does P f l.toArray w R :=
  calls_of_wp hf hb (h _ (fits_args (by simpa using hn) fun t v hl => by simpa using (look_argEnv l 0 t v hl).2))

theorem does0 {f : FuncId} {c : Code} {w : World} (hf : P.funcs[f]? = some fn) (hb : fn.body = some c) (h : T P fn R [.code c] [] w) : Does P f #[] w R := does_of (l := []) hf hb (by simp) h
theorem does1 {f : FuncId} {c : Code} {v0 : Value} {w : World} (hf : P.funcs[f]? = some fn) (hb : fn.body = some c) (hn : decide (1 ≤ fn.ntmps) = true) (h : T P fn R [.code c] [(0, v0)] w) : Does P f #[v0] w R := does_of (l := [v0]) hf hb hn h
theorem does2 {f : FuncId} {c : Code} {v0 v1 : Value} {w : World} (hf : P.funcs[f]? = some fn) (hb : fn.body = some c) (hn : decide (2 ≤ fn.ntmps) = true) (h : T P fn R [.code c] [(0, v0), (1, v1)] w) : Does P f #[v0, v1] w R := does_of (l := [v0, v1]) hf hb hn h
theorem does3 {f : FuncId} {c : Code} {v0 v1 v2 : Value} {w : World} (hf : P.funcs[f]? = some fn) (hb : fn.body = some c) (hn : decide (3 ≤ fn.ntmps) = true) (h : T P fn R [.code c] [(0, v0), (1, v1), (2, v2)] w) : Does P f #[v0, v1, v2] w R := does_of (l := [v0, v1, v2]) hf hb hn h
theorem does4 {f : FuncId} {c : Code} {v0 v1 v2 v3 : Value} {w : World} (hf : P.funcs[f]? = some fn) (hb : fn.body = some c) (hn : decide (4 ≤ fn.ntmps) = true) (h : T P fn R [.code c] [(0, v0), (1, v1), (2, v2), (3, v3)] w) : Does P f #[v0, v1, v2, v3] w R := does_of (l := [v0, v1, v2, v3]) hf hb hn h
theorem does5 {f : FuncId} {c : Code} {v0 v1 v2 v3 v4 : Value} {w : World} (hf : P.funcs[f]? = some fn) (hb : fn.body = some c) (hn : decide (5 ≤ fn.ntmps) = true) (h : T P fn R [.code c] [(0, v0), (1, v1), (2, v2), (3, v3), (4, v4)] w) : Does P f #[v0, v1, v2, v3, v4] w R := does_of (l := [v0, v1, v2, v3, v4]) hf hb hn h

end Eng
end Go.Proofs.YtalnkjpgnkfedaaGreatDoor
