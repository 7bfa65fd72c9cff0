/-
  Rows of plain things: entries, nodes, their parts, as cells; trees as values.
-/
import Derived.Test.YtleaanenpimanaaGreatDoorEngG
import Derived.Test.YtleaanenpimanaaGreatDoorXc
namespace Go.Proofs.YtleaanenpimanaaGreatDoor
open Go.RowKit
namespace Eng

/-- A row whose elements are these, z cells each. -/
def Rw {α : Type} (cf : α → List Value) (w : World) (v : Value) (l : List α) : Prop := Row w v l.length (l.flatMap cf)
def RwC {α : Type} (cf : α → List Value) (z : Nat) (w : World) (A : Option Addr) (l : List α) : Prop :=
  0 < l.length → ∃ b o, A = some ⟨b, o, none⟩ ∧ b < w.heap.size ∧ ∀ i x, l[i]? = some x → ∀ j u, (cf x)[j]? = some u → w.cell? ⟨b, o + i * z + j, none⟩ = some u

theorem flat_get {α : Type} {cf : α → List Value} {z : Nat} (hz : ∀ x, (cf x).length = z) : ∀ {l : List α} {i : Nat} {x : α}, l[i]? = some x → ∀ {j : Nat} {u : Value}, (cf x)[j]? = some u → (l.flatMap cf)[i * z + j]? = some u
  | [], i, x, h, _, _, _ => by simp at h
  | y :: l, 0, x, h, j, u, hu => by
    simp only [List.getElem?_cons_zero] at h
    injection h with h
    subst h
    rw [Nat.zero_mul, Nat.zero_add, List.flatMap_cons, List.getElem?_append_left (List.getElem?_eq_some_iff.1 hu).1]
    exact hu
  | y :: l, i + 1, x, h, j, u, hu => by
    rw [List.getElem?_cons_succ] at h
    have := flat_get hz h hu
    rw [List.flatMap_cons, List.getElem?_append_right (by rw [hz, Nat.succ_mul]; omega), hz, Nat.succ_mul, show i * z + z + j - z = i * z + j from by omega]
    exact this
theorem flat_len {α : Type} {cf : α → List Value} {z : Nat} (hz : ∀ x, (cf x).length = z) : ∀ l : List α, (l.flatMap cf).length = l.length * z
  | [] => by simp
  | y :: l => by rw [List.flatMap_cons, List.length_append, hz, flat_len hz l, List.length_cons, Nat.succ_mul]; omega

section
variable {α : Type} {cf : α → List Value} {w w' : World} {v : Value} {l : List α}
theorem Rw.fr {S : Nat → Prop} (h : Rw cf w v l) (hf : Fr S w w') (hS : ∀ b, v.ownBlock = some b → ¬ S b) : Rw cf w' v l := Row.fr h hf hS
theorem Rw.ext (h : Rw cf w v l) (hf : Ext w w') : Rw cf w' v l := Row.ext h hf
theorem Rw.op {z : Nat} (hz : ∀ x, (cf x).length = z) (h : Rw cf w v l) : ∃ A c, v = .slice A l.length c ∧ l.length ≤ c ∧ c ≤ 9223372036854775807 ∧ RwC cf z w A l := by
  obtain ⟨A, c, h1, h2, h3, h4⟩ := h
  refine ⟨A, c, h1, h2, h3, fun h0 => ?_⟩
  obtain ⟨b, o, h5, h6, h7⟩ := h4 h0
  exact ⟨b, o, h5, h6, fun i x hx j u hu => by rw [Nat.add_assoc]; exact h7 _ u (flat_get hz hx hu)⟩
theorem RwC.at_ {z : Nat} {A : Option Addr} (h : RwC cf z w A l) {i : Nat} (hi : i < l.length) : ∃ b o x, A = some ⟨b, o, none⟩ ∧ b < w.heap.size ∧ l[i]? = some x ∧ l.drop i = x :: l.drop (i + 1) ∧ ∀ j u, (cf x)[j]? = some u → w.cell? ⟨b, o + i * z + j, none⟩ = some u := by
  obtain ⟨b, o, h1, h2, h3⟩ := h (by omega)
  have hx := List.getElem?_eq_getElem hi
  exact ⟨b, o, l[i], h1, h2, hx, List.drop_eq_getElem_cons hi, h3 i _ hx⟩
theorem RwC.ext {z : Nat} {A : Option Addr} (h : RwC cf z w A l) (hf : Ext w w') : RwC cf z w' A l := fun h0 => by
  obtain ⟨b, o, h1, h2, h3⟩ := h h0
  exact ⟨b, o, h1, Nat.lt_of_lt_of_le h2 hf.size, fun i x hx j u hu => hf.cell (h3 i x hx j u hu)⟩
theorem Rw.nil (w : World) (c : Nat) (hc : c ≤ maxLen) : Rw cf w (.slice none 0 c) ([] : List α) := ⟨none, c, rfl, Nat.zero_le _, hc, fun h => absurd h (by simp)⟩
end

/-- A row of the call's own, of these elements. -/
def Ow {α : Type} (cf : α → List Value) (z : Nat) (w : World) (B : Nat) (e : TypeId) (v : Value) (l : List α) : Prop := OwnZ w B e z v l.length (l.flatMap cf)
section
variable {α : Type} {cf : α → List Value} {z : Nat} {w w' : World} {B : Nat} {e : TypeId} {v : Value} {l : List α}
theorem Ow.rw (h : Ow cf z w B e v l) : Rw cf w v l := OwnZ.row h
theorem Ow.nil (w : World) (B : Nat) (e : TypeId) : Ow cf z w B e (.slice none 0 0) [] := OwnZ.nil w B e z
theorem Ow.fr {S : Nat → Prop} (h : Ow cf z w B e v l) (hf : Fr S w w') (hS : ∀ b, v.ownBlock = some b → ¬ S b) : Ow cf z w' B e v l := OwnZ.fr h hf hS
theorem Ow.ext (h : Ow cf z w B e v l) (hf : Ext w w') : Ow cf z w' B e v l := OwnZ.ext h hf
theorem Ow.blk (h : Ow cf z w B e v l) {b : Nat} (hb : v.ownBlock = some b) : B ≤ b ∧ b < w.heap.size := OwnZ.blk h hb
theorem Ow.mono {B' : Nat} (h : Ow cf z w B e v l) (hB : B' ≤ B) : Ow cf z w B' e v l := OwnZ.mono h hB
theorem Ow.form (h : Ow cf z w B e v l) : ∃ A c, v = .slice A l.length c ∧ l.length ≤ c ∧ c ≤ 9223372036854775807 := OwnZ.form h
theorem Ow.ext1 {l' : List α} (h : OwnZ w B e z v (l.length + l'.length) (l.flatMap cf ++ l'.flatMap cf)) : Ow cf z w B e v (l ++ l') := by
  unfold Ow
  rw [List.length_append, List.flatMap_append]
  exact h
theorem Ow.of_blk {b n : Nat} {cs : Array Value} (hz : ∀ x, (cf x).length = z) (h : Blk w b e cs) (hc : cs = (l.flatMap cf).toArray) (hB : B ≤ b) (hn : n = l.length) (hm : n ≤ maxLen) : Ow cf z w B e (.slice (some ⟨b, 0, none⟩) n n) l := by
  subst hn; subst hc
  have hl := flat_len hz l
  refine ⟨hl, .inr ⟨b, l.length, (l.flatMap cf).toArray, rfl, hB, h, Nat.le_refl _, hm, ?_, ?_⟩⟩
  · simp only [List.size_toArray]; exact hl
  · rw [← hl, List.take_of_length_le (Nat.le_of_eq (by simp))]
end

/-- A row of a block of its own, as a row. -/
theorem blk_row {w : World} {b n : Nat} {t : TypeId} {cs : Array Value} {l : List Value} (h : Blk w b t cs) (hn : n ≤ maxLen) (hl : l = cs.toList) : Row w (.slice (some ⟨b, 0, none⟩) n n) n l :=
  ⟨_, _, rfl, Nat.le_refl _, hn, fun _ => ⟨b, 0, rfl, Blk.lt h, fun j u hu => by rw [Nat.zero_add, Blk.cell h]; rw [hl] at hu; simpa using hu⟩⟩

theorem ieq {k : IntKind} {a b : Int} (h : a = b) : some (Value.int k a) = some (Value.int k b) := by rw [h]
def stC (s : Str) : List Value := [.string (su s)]
def enC (e : En) : List Value := [.string (su e.path), .int .i64 e.node]
def attC (a : Att) : List Value := [.string (su a.name), .string (su a.value)]
def acC (a : Ac) : List Value := [.int .i64 a.kind, .int .i64 a.id, .int .i64 a.perm]
def pcC (p : Pce) : List Value := [.int .i64 p.pos, .string (su p.data)]
theorem stC_len (s : Str) : (stC s).length = 1 := rfl
theorem enC_len (e : En) : (enC e).length = 2 := rfl
theorem attC_len (e : Att) : (attC e).length = 2 := rfl
theorem acC_len (e : Ac) : (acC e).length = 3 := rfl
theorem pcC_len (e : Pce) : (pcC e).length = 2 := rfl
theorem stC_map (l : List Str) : l.flatMap stC = l.map fun s => Value.string (su s) := by
  induction l with
  | nil => rfl
  | cons x l ih => rw [List.flatMap_cons, ih]; rfl

/-- A node as it stands: its fields, and the slices in it. -/
structure NdV where
  n : Nd
  va : Value
  vc : Value
  vd : Value
def ndC (x : NdV) : List Value := [.int .i64 x.n.kind, .int .i64 x.n.mode, .int .i64 x.n.uid, .int .i64 x.n.gid, .int .i64 x.n.time, x.va, x.vc, .int .i64 x.n.size, x.vd, .string (su x.n.target), .int .i64 x.n.major, .int .i64 x.n.minor]
theorem ndC_len (x : NdV) : (ndC x).length = 12 := rfl
structure NdIn (w : World) (x : NdV) : Prop where
  a : Rw attC w x.va x.n.attrs
  c : Rw acC w x.vc x.n.acl
  d : Rw pcC w x.vd x.n.data
theorem NdIn.ext {w w' : World} {x : NdV} (h : NdIn w x) (hf : Ext w w') : NdIn w' x := ⟨h.a.ext hf, h.c.ext hf, h.d.ext hf⟩
/-- The value of a node. -/
def NdVal (w : World) (v : Value) (n : Nd) : Prop := ∃ x : NdV, v = .agg (ndC x).toArray ∧ NdIn w x ∧ x.n = n
theorem NdVal.ext {w w' : World} {v : Value} {n : Nd} (h : NdVal w v n) (hf : Ext w w') : NdVal w' v n := by
  obtain ⟨x, h1, h2, h3⟩ := h
  exact ⟨x, h1, h2.ext hf, h3⟩

/-- The value of a tree. -/
structure TrV (w : World) (ve vn : Value) (nvs : List NdV) (t : Tre) : Prop where
  e : Rw enC w ve t.es
  n : Rw ndC w vn nvs
  i : ∀ x ∈ nvs, NdIn w x
  m : nvs.map (·.n) = t.ns
theorem TrV.ext {w w' : World} {ve vn : Value} {nvs : List NdV} {t : Tre} (h : TrV w ve vn nvs t) (hf : Ext w w') : TrV w' ve vn nvs t := ⟨h.e.ext hf, h.n.ext hf, fun x hx => (h.i x hx).ext hf, h.m⟩
theorem TrV.len {w : World} {ve vn : Value} {nvs : List NdV} {t : Tre} (h : TrV w ve vn nvs t) : nvs.length = t.ns.length := by rw [← h.m]; simp
theorem TrV.get {w : World} {ve vn : Value} {nvs : List NdV} {t : Tre} (h : TrV w ve vn nvs t) {i : Nat} {x : NdV} (hx : nvs[i]? = some x) : t.ns[i]? = some x.n := by rw [← h.m]; simp [hx]
theorem TrV.getD {w : World} {ve vn : Value} {nvs : List NdV} {t : Tre} (h : TrV w ve vn nvs t) {i : Nat} {x : NdV} (hx : nvs[i]? = some x) : t.ns.getD i default = x.n := by
  rw [List.getD_eq_getElem?_getD, h.get hx]; rfl
theorem one_cells {l : List Value} (h : l.all (·.oneCell') = true) : (l.toArray).all (·.oneCell') = true := by simpa using h
end Eng
end Go.Proofs.YtleaanenpimanaaGreatDoor
