/-
  How the executor's values, slots and memory stand for a world's.
-/
import Derived.Test.YtalnkjpgnkfedaaGreatDoorEs
import Derived.Test.YtalnkjpgnkfedaaGreatDoorEngM
import Derived.Lib.ItoaNum
import Derived.Lib.LaidTab
namespace Go.Proofs.YtalnkjpgnkfedaaGreatDoor
open Go.RowKit
namespace Eng
namespace Rn
/-- Where a block lies: its place in the heap, how many elements it holds, how many cells each has. -/
structure At where
  b : Nat
  c : Nat
  z : Nat
abbrev Pl := List At
def uOf (l : List Nat) : Str := l.map UInt8.ofNat
/-- What a value of one cell stands for. -/
def SR (ρ : Pl) : SV → Value → Prop
  | .n k a, v => v = .int k (Int.ofNat a) ∧ a ≤ maxK k
  | .m k a, v => v = .int k (Int.negSucc a) ∧ a ≤ maxK k ∧ k.signed = true
  | .b x, v => v = .bool x
  | .s l, v => v = .string (su (uOf l)) ∧ (∀ c ∈ l, c < 256) ∧ l.length ≤ maxLen
  | .p0, v => v = .pointer none
  | .p id o, v => ∃ p, ρ[id]? = some p ∧ v = .pointer (some ⟨p.b, o, none⟩)
  | .l0, v => v = .slice none 0 0
  | .l id z j n, v => ∃ p, ρ[id]? = some p ∧ p.z = z ∧ j + n ≤ p.c ∧ p.c ≤ maxLen ∧ v = .slice (some ⟨p.b, j * z, none⟩) n (p.c - j)
  | .lx id z j n c, v => ∃ p, ρ[id]? = some p ∧ n ≤ c ∧ c ≤ maxLen ∧ v = .slice (some ⟨p.b, j * z, none⟩) n c
  | .le id z j a, v => ∃ p, ρ[id]? = some p ∧ p.c ≤ maxLen ∧ v = .slice (if p.c - j = a then some ⟨p.b, j * z, none⟩ else some ⟨p.b, j * z + a * z, none⟩) 0 (p.c - j - a)
  | .u, v => v = undef
  | .fl n, v => v = .float .f64 (fw n) ∧ n ≤ 1099511627776
  | .mp id, v => ∃ p, ρ[id]? = some p ∧ v = .map (some p.b)
  | .i0, v => v = .nilIface
  | .cx a b, v => v = .complex .f64 (fw a) (fw b) ∧ a ≤ 1099511627776 ∧ b ≤ 1099511627776
theorem SR.le_inv {ρ : Pl} {id z j a : Nat} {v : Value} (h : SR ρ (.le id z j a) v) : ∃ A c, v = .slice A 0 c ∧ c ≤ maxLen := by
  obtain ⟨p, _, h1, h2⟩ := h
  exact ⟨_, _, h2, by omega⟩
theorem SR.one {ρ : Pl} {x : SV} {u v : Value} (h : SR ρ x u) (h' : SR ρ x v) : u = v := by
  cases x with
  | n k a => exact h.1.trans h'.1.symm
  | m k a => exact h.1.trans h'.1.symm
  | b q => exact h.trans h'.symm
  | s l => exact h.1.trans h'.1.symm
  | p0 => exact h.trans h'.symm
  | p id o =>
    obtain ⟨p, h1, rfl⟩ := h
    obtain ⟨q, h2, rfl⟩ := h'
    rw [h1] at h2; injection h2 with h2; subst h2; rfl
  | l0 => exact h.trans h'.symm
  | l id z j n =>
    obtain ⟨p, h1, _, _, _, rfl⟩ := h
    obtain ⟨q, h2, _, _, _, rfl⟩ := h'
    rw [h1] at h2; injection h2 with h2; subst h2; rfl
  | lx id z j n c =>
    obtain ⟨p, h1, _, _, rfl⟩ := h
    obtain ⟨q, h2, _, _, rfl⟩ := h'
    rw [h1] at h2; injection h2 with h2; subst h2; rfl
  | le id z j a =>
    obtain ⟨p, h1, _, rfl⟩ := h
    obtain ⟨q, h2, _, rfl⟩ := h'
    rw [h1] at h2; injection h2 with h2; subst h2; rfl
  | u => exact h.trans h'.symm
  | fl n => exact h.1.trans h'.1.symm
  | cx a b => exact h.1.trans h'.1.symm
  | mp id =>
    obtain ⟨p, h1, rfl⟩ := h
    obtain ⟨q, h2, rfl⟩ := h'
    rw [h1] at h2; injection h2 with h2; subst h2; rfl
  | i0 => exact h.trans h'.symm
/-- More places. -/
def Up (ρ ρ' : Pl) : Prop := ∀ (id : Nat) p, ρ[id]? = some p → ρ'[id]? = some p
theorem Up.refl (ρ : Pl) : Up ρ ρ := fun _ _ h => h
theorem Up.trans {a b c : Pl} (h : Up a b) (k : Up b c) : Up a c := fun id p e => k id p (h id p e)
theorem Up.snoc (ρ : Pl) (p : At) : Up ρ (ρ ++ [p]) := fun id q h => by
  have hlt : id < ρ.length := (List.getElem?_eq_some_iff.1 h).1
  rw [List.getElem?_append_left hlt]; exact h
theorem SR.up {ρ ρ' : Pl} (hu : Up ρ ρ') {x : SV} {v : Value} (h : SR ρ x v) : SR ρ' x v := by
  cases x with
  | p id o => obtain ⟨p, h1, h2⟩ := h; exact ⟨p, hu _ _ h1, h2⟩
  | l id z j n => obtain ⟨p, h1, h2⟩ := h; exact ⟨p, hu _ _ h1, h2⟩
  | lx id z j n c => obtain ⟨p, h1, h2⟩ := h; exact ⟨p, hu _ _ h1, h2⟩
  | le id z j a => obtain ⟨p, h1, h2⟩ := h; exact ⟨p, hu _ _ h1, h2⟩
  | mp id => obtain ⟨p, h1, h2⟩ := h; exact ⟨p, hu _ _ h1, h2⟩
  | _ => exact h
/-- What a cell holds: a value of one cell. -/
def CR (ρ : Pl) (x : SV) (v : Value) : Prop := nu x = true ∧ SR ρ x v
theorem CR.up {ρ ρ' : Pl} (hu : Up ρ ρ') {x : SV} {v : Value} (h : CR ρ x v) : CR ρ' x v := ⟨h.1, h.2.up hu⟩
theorem CR.cell {ρ : Pl} {x : SV} {v : Value} (h : CR ρ x v) : v.oneCell' = true := by
  obtain ⟨h0, h⟩ := h
  cases x with
  | n k a => rw [h.1]; rfl
  | m k a => rw [h.1]; rfl
  | b q => rw [show v = _ from h]; rfl
  | s l => rw [h.1]; rfl
  | p0 => rw [show v = _ from h]; rfl
  | p id o => obtain ⟨p, _, rfl⟩ := h; rfl
  | l0 => rw [show v = _ from h]; rfl
  | l id z j n => obtain ⟨p, _, _, _, _, rfl⟩ := h; rfl
  | lx id z j n c => obtain ⟨p, _, _, _, rfl⟩ := h; rfl
  | le id z j a => obtain ⟨p, _, _, rfl⟩ := h; rfl
  | u => cases h0
  | fl n => rw [h.1]; rfl
  | cx a b => rw [h.1]; rfl
  | mp id => obtain ⟨p, _, rfl⟩ := h; rfl
  | i0 => rw [show v = _ from h]; rfl
theorem SR.cells {ρ : Pl} {x : SV} {v : Value} (h : SR ρ x v) : v.cells = #[v] := by
  cases x with
  | n k a => rw [h.1]; rfl
  | m k a => rw [h.1]; rfl
  | b q => rw [show v = _ from h]; rfl
  | s l => rw [h.1]; rfl
  | p0 => rw [show v = _ from h]; rfl
  | p id o => obtain ⟨p, _, rfl⟩ := h; rfl
  | l0 => rw [show v = _ from h]; rfl
  | l id z j n => obtain ⟨p, _, _, _, _, rfl⟩ := h; rfl
  | lx id z j n c => obtain ⟨p, _, _, _, rfl⟩ := h; rfl
  | le id z j a => obtain ⟨p, _, _, rfl⟩ := h; rfl
  | u => rw [show v = _ from h]; rfl
  | fl n => rw [h.1]; rfl
  | cx a b => rw [h.1]; rfl
  | mp id => obtain ⟨p, _, rfl⟩ := h; rfl
  | i0 => rw [show v = _ from h]; rfl
inductive SRs (ρ : Pl) : List SV → List Value → Prop where
  | nil : SRs ρ [] []
  | cons {x v l vs} : CR ρ x v → SRs ρ l vs → SRs ρ (x :: l) (v :: vs)
theorem SRs.cells {ρ : Pl} {l : List SV} {vs : List Value} (h : SRs ρ l vs) : ∀ u ∈ vs, u.oneCell' = true := by
  induction h with
  | nil => intro u hu; cases hu
  | cons h1 _ ih =>
    intro u hu
    rcases List.mem_cons.1 hu with rfl | hu
    · exact h1.cell
    · exact ih u hu
theorem SRs.up {ρ ρ' : Pl} (hu : Up ρ ρ') {l : List SV} {vs : List Value} (h : SRs ρ l vs) : SRs ρ' l vs := by
  induction h with
  | nil => exact .nil
  | cons h1 _ ih => exact .cons (h1.up hu) ih
theorem SRs.len {ρ : Pl} {l : List SV} {vs : List Value} (h : SRs ρ l vs) : vs.length = l.length := by
  induction h with
  | nil => rfl
  | cons _ _ ih => simp [ih]
theorem SRs.get {ρ : Pl} {l : List SV} {vs : List Value} (h : SRs ρ l vs) : ∀ (i : Nat) x, l[i]? = some x → ∃ v, vs[i]? = some v ∧ CR ρ x v := by
  induction h with
  | nil => intro i x hx; cases hx
  | cons h1 _ ih =>
    intro i x hx
    cases i with
    | zero => injection hx with hx; subst hx; exact ⟨_, rfl, h1⟩
    | succ i => exact ih i x hx
theorem SRs.app {ρ : Pl} {l l' : List SV} {vs vs' : List Value} (h : SRs ρ l vs) (h' : SRs ρ l' vs') : SRs ρ (l ++ l') (vs ++ vs') := by
  induction h with
  | nil => exact h'
  | cons h1 _ ih => exact .cons h1 ih
theorem SRs.take {ρ : Pl} {l : List SV} {vs : List Value} (h : SRs ρ l vs) (n : Nat) : SRs ρ (l.take n) (vs.take n) := by
  induction h generalizing n with
  | nil => simp; exact .nil
  | cons h1 _ ih =>
    cases n with
    | zero => exact .nil
    | succ n => exact .cons h1 (ih n)
theorem SRs.drop {ρ : Pl} {l : List SV} {vs : List Value} (h : SRs ρ l vs) (n : Nat) : SRs ρ (l.drop n) (vs.drop n) := by
  induction h generalizing n with
  | nil => simp; exact .nil
  | cons h1 h2 ih =>
    cases n with
    | zero => exact .cons h1 h2
    | succ n => exact ih n
theorem SRs.of {ρ : Pl} : ∀ {l : List SV} {vs : List Value}, vs.length = l.length → (∀ (i : Nat) x, l[i]? = some x → ∃ v, vs[i]? = some v ∧ CR ρ x v) → SRs ρ l vs
  | [], [], _, _ => .nil
  | [], _ :: _, h, _ => by cases h
  | _ :: _, [], h, _ => by cases h
  | x :: l, v :: vs, hl, h => by
    obtain ⟨v', e, h1⟩ := h 0 x rfl
    injection e with e; subst e
    exact .cons h1 (SRs.of (by simpa using hl) fun i y hy => h (i + 1) y hy)
/-- What a part of a tuple stands for. -/
def TR (ρ : Pl) : TV → Value → Prop
  | .v x, v => SR ρ x v
  | .g l, v => ∃ vs, SRs ρ l vs ∧ v = .agg vs.toArray
inductive TRs (ρ : Pl) : List TV → List Value → Prop where
  | nil : TRs ρ [] []
  | cons {x v l vs} : TR ρ x v → TRs ρ l vs → TRs ρ (x :: l) (v :: vs)
def AR (ρ : Pl) : AV → Value → Prop
  | .v x, v => SR ρ x v
  | .g l, v => ∃ vs, SRs ρ l vs ∧ v = .agg vs.toArray
  | .t l, v => ∃ vs, TRs ρ l vs ∧ v = .tuple vs.toArray
  | .f fn l, v => ∃ vs, SRs ρ l vs ∧ v = .func (.func fn) #[] vs.toArray
theorem TR.up {ρ ρ' : Pl} (hu : Up ρ ρ') {x : TV} {v : Value} (h : TR ρ x v) : TR ρ' x v := by
  cases x with
  | v x => exact SR.up hu h
  | g l => obtain ⟨vs, h1, h2⟩ := h; exact ⟨vs, h1.up hu, h2⟩
theorem TRs.up {ρ ρ' : Pl} (hu : Up ρ ρ') {l : List TV} {vs : List Value} (h : TRs ρ l vs) : TRs ρ' l vs := by
  induction h with
  | nil => exact .nil
  | cons h1 _ ih => exact .cons (h1.up hu) ih
theorem AR.up {ρ ρ' : Pl} (hu : Up ρ ρ') {x : AV} {v : Value} (h : AR ρ x v) : AR ρ' x v := by
  cases x with
  | v x => exact SR.up hu h
  | g l => obtain ⟨vs, h1, h2⟩ := h; exact ⟨vs, h1.up hu, h2⟩
  | t l => obtain ⟨vs, h1, h2⟩ := h; exact ⟨vs, h1.up hu, h2⟩
  | f fn l => obtain ⟨vs, h1, h2⟩ := h; exact ⟨vs, h1.up hu, h2⟩
inductive ARs (ρ : Pl) : List AV → List Value → Prop where
  | nil : ARs ρ [] []
  | cons {x v l vs} : AR ρ x v → ARs ρ l vs → ARs ρ (x :: l) (v :: vs)
theorem ARs.up {ρ ρ' : Pl} (hu : Up ρ ρ') {l : List AV} {vs : List Value} (h : ARs ρ l vs) : ARs ρ' l vs := by
  induction h with
  | nil => exact .nil
  | cons h1 _ ih => exact .cons (h1.up hu) ih
/-- A block of cells none of which is frozen. -/
def Bk (w : World) (g : Nat) (t : TypeId) (cs : Array Value) : Prop := ∃ f : Nat × Nat, w.heap[g]? = some (.cells cs t f) ∧ (cs.size ≤ f.1 ∨ f = (0, 0))
theorem Blk.bk {w : World} {g : Nat} {t : TypeId} {cs : Array Value} (h : Blk w g t cs) : Bk w g t cs := ⟨(0, 0), h, .inr rfl⟩
section
variable {w w' : World} {g : Nat} {t : TypeId} {cs : Array Value}
theorem Bk.lt (h : Bk w g t cs) : g < w.heap.size := by
  obtain ⟨f, h, _⟩ := h
  exact (Array.getElem?_eq_some_iff.1 h).1
theorem Bk.cell (h : Bk w g t cs) (i : Nat) : w.cell? ⟨g, i, none⟩ = cs[i]? := by
  obtain ⟨f, h, _⟩ := h
  simp [World.cell?, h]
theorem Bk.frozen (h : Bk w g t cs) {i : Nat} (hi : i < cs.size) : w.frozen? ⟨g, i, none⟩ = false := by
  obtain ⟨f, h, hf⟩ := h
  unfold World.frozen?
  simp only [h]
  rcases hf with hf | hf
  · have : ¬ f.1 ≤ i := by omega
    simp [this]
  · simp [hf]
theorem Bk.one {t' : TypeId} {cs' : Array Value} (h : Bk w g t cs) (h' : Bk w g t' cs') : cs = cs' := by
  obtain ⟨f, h, _⟩ := h
  obtain ⟨f', h', _⟩ := h'
  rw [h] at h'
  injection h' with h'
  injection h'
theorem Bk.fr {S : Nat → Prop} (h : Bk w g t cs) (hf : Fr S w w') (hS : ¬ S g) : Bk w' g t cs := by
  have hl := h.lt
  obtain ⟨f, h, h2⟩ := h
  exact ⟨f, (hf.block g hl hS).trans h, h2⟩
theorem Bk.ext (h : Bk w g t cs) (hf : Ext w w') : Bk w' g t cs := h.fr hf fun hh => hh
end
/-- The library's table of powers of ten is there, and out of reach. -/
def TabI (S : Nat → Prop) (w : World) : Prop := ∀ g, Tryz.prog.globalNamed "internal/strconv.uint64pow10" = some g → g < w.heap.size ∧ ¬ S g ∧ Lib.TabIs Tryz.prog w "internal/strconv.uint64pow10" .u64 Lib.pow10Tab
theorem TabI.of {S S' : Nat → Prop} {w w' : World} (h : TabI S w) (hF : Fr S w w') (hs : ∀ b, S' b → w.heap.size ≤ b ∨ S b) : TabI S' w' := fun g hg => by
  obtain ⟨h1, h2, h3⟩ := h g hg
  refine ⟨Nat.lt_of_lt_of_le h1 hF.size, fun hh => (hs g hh).elim (fun hk => absurd hk (Nat.not_le.2 h1)) h2, ?_⟩
  unfold Lib.TabIs at h3 ⊢
  rw [← h3]
  unfold World.var?
  rw [hg]
  simp only [Option.bind_some, hF.block g h1 h2]
theorem TabI.none {S : Nat → Prop} {w : World} (h : Tryz.prog.globalNamed "internal/strconv.uint64pow10" = .none) : TabI S w := fun g hg => by rw [h] at hg; cases hg
theorem TabI.init {w : World} (h : Lib.TabIs Tryz.prog w "internal/strconv.uint64pow10" .u64 Lib.pow10Tab) : TabI noneB w := fun g hg => by
  refine ⟨?_, fun hh => hh, h⟩
  rcases Nat.lt_or_ge g w.heap.size with hh | hh
  · exact hh
  · unfold Lib.TabIs World.var? at h
    rw [hg] at h
    simp only [Option.bind_some, Array.getElem?_eq_none hh] at h
    cases h
/-- What was there before: a world, and which of its blocks may be touched. -/
structure Fm where
  S : Nat → Prop
  w : World
  ok : TabI S w
def Fm.may (F : Fm) (b : Nat) : Prop := F.w.heap.size ≤ b ∨ F.S b
theorem asL_cons {α : Type} {k i : Nat} {x : α} {l : List (Nat × α)} : asL k ((i, x) :: l) = if i = k then some x else asL k l := by
  show Bool.rec (motive := fun _ => Option α) (asL k l) (some x) (Nat.beq i k) = _
  rcases beq_cases i k with ⟨h1, h2⟩ | ⟨h1, h2⟩
  · rw [h2, if_pos h1]
  · rw [h2, if_neg h1]
def ints (l : List (Nat × Nat)) : List (Int × Int) := l.map fun q => ((q.1 : Int), (q.2 : Int))
/-- The maps that are known. -/
def Mps (w0 : Fm) (ρ : Pl) (mp : List (Nat × List (Nat × Nat))) (w : World) : Prop := (∀ id l, asL id mp = some l → ∃ p, ρ[id]? = some p ∧ MpB w p.b (ints l) ∧ w0.may p.b) ∧ ∀ id id' l l' p p', id ≠ id' → asL id mp = some l → asL id' mp = some l' → ρ[id]? = some p → ρ[id']? = some p' → p.b ≠ p'.b
theorem Mps.nil (w0 : Fm) (ρ : Pl) (w : World) : Mps w0 ρ [] w := ⟨fun id l h => (by cases h), fun id id' l l' p p' _ h => (by cases h)⟩
theorem Mps.to {w0 w0' : Fm} {ρ ρ' : Pl} {mp : List (Nat × List (Nat × Nat))} {w w' : World} (h : Mps w0 ρ mp w) (hu : Up ρ ρ') (hm : ∀ b l, MpB w b l → MpB w' b l) (hw : ∀ b l, MpB w b l → w0.may b → w0'.may b) : Mps w0' ρ' mp w' := by
  have old : ∀ id l p, asL id mp = some l → ρ'[id]? = some p → ρ[id]? = some p := fun id l p h1 h2 => by
    obtain ⟨q, h3, _⟩ := h.1 id l h1
    have := hu _ _ h3
    rw [h2] at this
    rw [h3, Option.some.inj this]
  refine ⟨fun id l h1 => ?_, fun id id' l l' p p' hne h1 h2 h3 h4 => h.2 id id' l l' p p' hne h1 h2 (old _ _ _ h1 h3) (old _ _ _ h2 h4)⟩
  obtain ⟨p, h2, h3, h4⟩ := h.1 id l h1
  exact ⟨p, hu _ _ h2, hm _ _ h3, hw _ _ h3 h4⟩
theorem Bk.no_map {w : World} {g : Nat} {t : TypeId} {cs : Array Value} {l : List (Int × Int)} (h : Bk w g t cs) (h' : MpB w g l) : False := by
  obtain ⟨f, h1, _⟩ := h
  obtain ⟨es, clock, h2, _⟩ := h'
  rw [h1] at h2
  cases h2
/-- The memory: every cell that is known lies in its block and stands for what is there; blocks with such cells lie apart. -/
structure MR (w0 : Fm) (ρ : Pl) (σ : Mem) (w : World) : Prop where
  len : ρ.length = σ.n
  blk : ∀ id ob, oget σ id = some ob → (∃ o, (tget ob.d o ob.m).isSome = true) → ∃ p cs, ρ[id]? = some p ∧ Bk w p.b ob.e cs ∧ p.c * p.z ≤ cs.size ∧ (∀ o x, tget ob.d o ob.m = some x → ∃ v, cs[o]? = some v ∧ CR ρ x v)
  old : Fr w0.S w0.w w
  far : ∀ id o p, (cget σ id o).isSome = true → ρ[id]? = some p → w0.may p.b
  pre : ∀ id ob, oget σ id = some ob → ∀ o, ob.n ≤ o → tget ob.d o ob.m = none
  apart : ∀ id id' o o' p p', id ≠ id' → (cget σ id o).isSome = true → (cget σ id' o').isSome = true → ρ[id]? = some p → ρ[id']? = some p' → p.b ≠ p'.b
  mps : Mps w0 ρ σ.mp w
/-- The slots. m: those that are kept. -/
noncomputable def elk (m : Nat) (e : En) (t : Nat) : Option AV := match kept m t with
  | true => alook t e.vs
  | false => alook t e.ts
def ER (m : Nat) (ρ : Pl) (e : En) (env : Env) : Prop := ∀ t a, elk m e t = some a → ∃ v, look env t = some v ∧ AR ρ a v
theorem ER.up {m : Nat} {ρ ρ' : Pl} {e : En} {env : Env} (hu : Up ρ ρ') (h : ER m ρ e env) : ER m ρ' e env := fun t a ha => by
  obtain ⟨v, h1, h2⟩ := h t a ha
  exact ⟨v, h1, h2.up hu⟩
end Rn
end Eng
end Go.Proofs.YtalnkjpgnkfedaaGreatDoor
