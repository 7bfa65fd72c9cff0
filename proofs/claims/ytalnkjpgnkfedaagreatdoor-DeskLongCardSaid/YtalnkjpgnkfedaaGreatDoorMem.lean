/-
  Words for memory: what a call leaves alone; blocks that are known whole; slices that read as lists; more rules for operations. Rules for operations that make memory: make, append, literals, boxes; slices of slices. Rules for arrays inside blocks and for structs that are loaded, stored and returned whole. Bits as lists of 0 and 1: their value, the bits of a number, bytes filled up. Plain facts.
-/
import Derived.Test.YtalnkjpgnkfedaaGreatDoorEngC
import Derived.Laws.OwnMore
import Derived.Laws.MakeOwn
import Derived.Deep.Draws
import Derived.Deep.AppendLies
import Derived.Maps.AppendAt
import Derived.Great.BuildSlice
import Derived.Laws.Tables
/-! Words for memory: what a call leaves alone; blocks that are known whole; slices that read as lists; more rules for operations. -/
namespace Go.Proofs.YtalnkjpgnkfedaaGreatDoor
open Go.RowKit
namespace Eng

/-- All blocks that were there, but for those in S, are as they were. -/
structure Fr (S : Nat → Prop) (w w' : World) : Prop where
  os : w'.os = w.os
  tape : w'.tape = w.tape
  output : w'.output = w.output
  size : w.heap.size ≤ w'.heap.size
  block : ∀ k, k < w.heap.size → ¬ S k → w'.heap[k]? = w.heap[k]?

def noneB : Nat → Prop := fun _ => False
/-- Nothing that was there has changed. -/
abbrev Ext := Fr noneB

theorem Fr.refl (S : Nat → Prop) (w : World) : Fr S w w := ⟨rfl, rfl, rfl, Nat.le_refl _, fun _ _ _ => rfl⟩
theorem Fr.mono {S S' : Nat → Prop} {w w' : World} (h : Fr S w w') (hs : ∀ k, k < w.heap.size → S k → S' k) : Fr S' w w' := ⟨h.os, h.tape, h.output, h.size, fun k hk hn => h.block k hk fun hS => hn (hs k hk hS)⟩
theorem Fr.trans {S S' : Nat → Prop} {a b c : World} (h : Fr S a b) (k : Fr S' b c) (hs : ∀ j, j < a.heap.size → S' j → S j) : Fr S a c :=
  ⟨k.os.trans h.os, k.tape.trans h.tape, k.output.trans h.output, Nat.le_trans h.size k.size, fun i hi hn => (k.block i (Nat.lt_of_lt_of_le hi h.size) (fun hS => hn (hs i hi hS))).trans (h.block i hi hn)⟩
theorem Fr.t {S : Nat → Prop} {a b c : World} (h : Fr S a b) (k : Fr S b c) : Fr S a c := h.trans k fun _ _ hh => hh
/-- Behind a call that changes nothing. -/
theorem Fr.te {S : Nat → Prop} {a b c : World} (h : Fr S a b) (k : Ext b c) : Fr S a c := h.trans k fun _ _ hh => hh.elim
theorem Ext.te {S : Nat → Prop} {a b c : World} (h : Ext a b) (k : Fr S b c) (hs : ∀ j, j < a.heap.size → ¬ S j) : Ext a c := h.trans k fun j hj hS => absurd hS (hs j hj)
theorem Ext.fr {S : Nat → Prop} {a b : World} (h : Ext a b) : Fr S a b := h.mono fun _ _ hh => hh.elim
theorem Fr.drew (S : Nat → Prop) (w : World) : Fr S w w.drew := ⟨rfl, rfl, rfl, Nat.le_refl _, fun _ _ _ => rfl⟩
theorem Fr.d {S : Nat → Prop} {a b : World} (h : Fr S a b) : Fr S a b.drew := h.t (Fr.drew S b)
theorem Fr.alloc (S : Nat → Prop) (w : World) (o : Obj) : Fr S w (w.alloc o) := ⟨rfl, rfl, rfl, by simp, fun k hk _ => Below.heap_alloc w o k hk⟩
theorem Fr.setCell (S : Nat → Prop) (w : World) (p : Addr) (u : Value) (h : p.block < w.heap.size → S p.block) : Fr S w (w.setCell p u) :=
  ⟨rfl, rfl, rfl, by simp, fun k hk hn => Below.heap_setCell w p u k fun e => hn (by subst e; exact h hk)⟩
theorem Fr.grown {S : Nat → Prop} {w w' : World} {row : Option Nat} (h : w.grownBy w' row) (hr : ∀ k, row = some k → k < w.heap.size → S k) : Fr S w w' :=
  ⟨h.os, h.tape, h.output, h.size, fun k hk hn => h.block k hk fun e => hn (hr k e.symm hk)⟩
theorem Ext.below {w w' : World} (h : Ext w w') : Below w.heap.size w w' := ⟨h.os, h.tape, h.output, h.size, fun k hk => h.block k hk fun hh => hh⟩

theorem Fr.cell {S : Nat → Prop} {w w' : World} (h : Fr S w w') {p : Addr} {v : Value} (hc : w.cell? p = some v) (hS : ¬ S p.block) : w'.cell? p = some v :=
  (World.cell?_of_block (w := w) (h.block p.block (World.block_lt_of_cell? w p hc) hS)).trans hc
theorem Ext.cell {w w' : World} (h : Ext w w') {p : Addr} {v : Value} (hc : w.cell? p = some v) : w'.cell? p = some v := Fr.cell h hc fun hh => hh

/-- A block that is known whole. -/
def Blk (w : World) (g : Nat) (t : TypeId) (cs : Array Value) : Prop := w.heap[g]? = some (.cells cs t (0, 0))

section
variable {w w' : World} {g : Nat} {t : TypeId} {cs : Array Value}
theorem Blk.lt (h : Blk w g t cs) : g < w.heap.size := by
  rcases Nat.lt_or_ge g w.heap.size with hlt | hge
  · exact hlt
  · unfold Blk at h; rw [Array.getElem?_eq_none hge] at h; cases h
theorem Blk.cell (h : Blk w g t cs) (i : Nat) : w.cell? ⟨g, i, none⟩ = cs[i]? := by
  unfold Blk at h
  simp [World.cell?, h]
theorem Blk.frozen (h : Blk w g t cs) (i : Nat) : w.frozen? ⟨g, i, none⟩ = false := by
  unfold Blk at h
  simp [World.frozen?, h]
theorem Blk.new (w : World) (t : TypeId) (cs : Array Value) : Blk (w.alloc (.cells cs t)) w.heap.size t cs := by
  show (w.heap.push _)[w.heap.size]? = _
  simp
theorem Blk.drew (h : Blk w g t cs) : Blk w.drew g t cs := h
theorem Blk.set_ (h : Blk w g t cs) (i : Nat) (u : Value) : Blk (w.setCell ⟨g, i, none⟩ u) g t (cs.setIfInBounds i u) := by
  unfold Blk at h ⊢
  simp [World.setCell, Array.getElem?_modify, h]
theorem Blk.fr {S : Nat → Prop} (h : Blk w g t cs) (hf : Fr S w w') (hS : ¬ S g) : Blk w' g t cs := (hf.block g h.lt hS).trans h
theorem Blk.ext (h : Blk w g t cs) (hf : Ext w w') : Blk w' g t cs := h.fr hf fun hh => hh
theorem Blk.ne_ {g' : Nat} {t' : TypeId} {cs' : Array Value} (h : Blk w g t cs) (h' : Blk w g' t' cs') (hne : t ≠ t') : g ≠ g' := by
  rintro rfl
  unfold Blk at h h'
  rw [h] at h'
  injection h' with h'
  injection h' with _ ht
  exact hne ht
end

/-- A slice that reads as these cells. -/
def Row (w : World) (v : Value) (n : Nat) (vs : List Value) : Prop :=
  ∃ A c, v = .slice A n c ∧ n ≤ c ∧ c ≤ maxLen ∧ (0 < n → ∃ b o, A = some ⟨b, o, none⟩ ∧ b < w.heap.size ∧ ∀ j u, vs[j]? = some u → w.cell? ⟨b, o + j, none⟩ = some u)

theorem Row.fr {S : Nat → Prop} {w w' : World} {v : Value} {n : Nat} {vs : List Value} (h : Row w v n vs) (hf : Fr S w w') (hS : ∀ b, v.ownBlock = some b → ¬ S b) : Row w' v n vs := by
  obtain ⟨A, c, rfl, h1, h2, h3⟩ := h
  refine ⟨A, c, rfl, h1, h2, fun hn => ?_⟩
  obtain ⟨b, o, rfl, hb, hc⟩ := h3 hn
  exact ⟨b, o, rfl, Nat.lt_of_lt_of_le hb hf.size, fun j u hu => hf.cell (hc j u hu) (hS b rfl)⟩
theorem Row.ext {w w' : World} {v : Value} {n : Nat} {vs : List Value} (h : Row w v n vs) (hf : Ext w w') : Row w' v n vs := h.fr hf fun _ _ hh => hh

/-- A slice of ints. -/
def IRow (w : World) (v : Value) (zs : List Int) : Prop := Row w v zs.length (zs.map (Value.int .i64))
/-- A slice of uints. -/
def URow (w : World) (v : Value) (zs : List Int) : Prop := Row w v zs.length (zs.map (Value.int .u64))
/-- A slice of bytes. -/
def BRow (w : World) (v : Value) (zs : List Int) : Prop := Row w v zs.length (zs.map (Value.int .u8))

theorem IRow.ext {w w' : World} {v : Value} {zs : List Int} (h : IRow w v zs) (hf : Ext w w') : IRow w' v zs := Row.ext h hf
theorem IRow.fr {S : Nat → Prop} {w w' : World} {v : Value} {zs : List Int} (h : IRow w v zs) (hf : Fr S w w') (hS : ∀ b, v.ownBlock = some b → ¬ S b) : IRow w' v zs := Row.fr h hf hS
theorem BRow.ext {w w' : World} {v : Value} {zs : List Int} (h : BRow w v zs) (hf : Ext w w') : BRow w' v zs := Row.ext h hf
theorem BRow.fr {S : Nat → Prop} {w w' : World} {v : Value} {zs : List Int} (h : BRow w v zs) (hf : Fr S w w') (hS : ∀ b, v.ownBlock = some b → ¬ S b) : BRow w' v zs := Row.fr h hf hS

theorem at_row {k : IntKind} {w : World} {A : Option Addr} {zs : List Int} (hA : 0 < zs.length → ∃ b o, A = some ⟨b, o, none⟩ ∧ b < w.heap.size ∧ ∀ j u, (zs.map (Value.int k))[j]? = some u → w.cell? ⟨b, o + j, none⟩ = some u) {i : Nat} (hi : i < zs.length) :
    ∃ b o z, A = some ⟨b, o, none⟩ ∧ b < w.heap.size ∧ zs[i]? = some z ∧ w.cell? ⟨b, o + i, none⟩ = some (.int k z) ∧ zs.drop i = z :: zs.drop (i + 1) := by
  obtain ⟨b, o, e, hb, hc⟩ := hA (by omega)
  exact ⟨b, o, zs[i], e, hb, List.getElem?_eq_getElem hi, hc i _ (by simp [hi]), List.drop_eq_getElem_cons hi⟩

/-- A row of the call's own. -/
def Own (w : World) (B : Nat) (e : TypeId) (v : Value) (vs : List Value) : Prop := w.ownsRow B e 1 v vs.length vs

theorem Own.row {w : World} {B : Nat} {e : TypeId} {v : Value} {vs : List Value} (h : Own w B e v vs) : Row w v vs.length vs := by
  obtain ⟨h1, h2⟩ := h
  rcases h2 with ⟨rfl, hn⟩ | ⟨g, cap, cur, rfl, hg, hh, h3, h4, h5, h6⟩
  · rw [hn]; exact ⟨none, 0, rfl, Nat.le_refl _, by unfold maxLen; omega, fun hh => absurd hh (by omega)⟩
  · have hlt : g < w.heap.size := Blk.lt (t := e) (cs := cur) hh
    refine ⟨some ⟨g, 0, none⟩, cap, rfl, h3, h4, fun _ => ⟨g, 0, rfl, hlt, fun j u hu => ?_⟩⟩
    rw [Nat.zero_add]
    have := Blk.cell (t := e) (cs := cur) hh j
    rw [this]
    have hj : j < vs.length := (List.getElem?_eq_some_iff.1 hu).1
    rw [← h6, List.getElem?_take_of_lt (by omega)] at hu
    simpa using hu
theorem Own.nil (w : World) (B : Nat) (e : TypeId) : Own w B e (.slice none 0 0) [] := World.ownsRow_nil w B e 1
theorem Own.fr {S : Nat → Prop} {w w' : World} {B : Nat} {e : TypeId} {v : Value} {vs : List Value} (h : Own w B e v vs) (hf : Fr S w w') (hS : ∀ b, v.ownBlock = some b → ¬ S b) : Own w' B e v vs := by
  obtain ⟨h1, h2⟩ := h
  refine ⟨h1, ?_⟩
  rcases h2 with h2 | ⟨g, cap, cur, rfl, hg, hh, r⟩
  · exact .inl h2
  · exact .inr ⟨g, cap, cur, rfl, hg, Blk.fr (t := e) (cs := cur) hh hf (hS g rfl), r⟩
theorem Own.ext {w w' : World} {B : Nat} {e : TypeId} {v : Value} {vs : List Value} (h : Own w B e v vs) (hf : Ext w w') : Own w' B e v vs := h.fr hf fun _ _ hh => hh
theorem Own.blk {w : World} {B : Nat} {e : TypeId} {v : Value} {vs : List Value} (h : Own w B e v vs) {b : Nat} (hb : v.ownBlock = some b) : B ≤ b ∧ b < w.heap.size := World.ownsRow.lt h b hb
theorem Own.mono {w : World} {B B' : Nat} {e : TypeId} {v : Value} {vs : List Value} (h : Own w B e v vs) (hB : B' ≤ B) : Own w B' e v vs := by
  obtain ⟨h1, h2⟩ := h
  refine ⟨h1, ?_⟩
  rcases h2 with h2 | ⟨g, cap, cur, rfl, hg, r⟩
  · exact .inl h2
  · exact .inr ⟨g, cap, cur, rfl, by omega, r⟩

variable {hs : List Nat} {H : World → Prop} {full : Array Oper} {K : Env → World → Prop} {rest : List Oper} {env : Env} {w : World} {d : Tmp} {dst : Option Tmp} {ty : TypeId} {pos : String} {af : Array Edge}

theorem xix1 {t : TypeId} {x i : Operand} {k : IntKind} {b o n c : Nat} {j : Int} (hx : evo env x = some (.slice (some ⟨b, o, none⟩) n c)) (hi : evo env i = some (.int k j)) (hz : es t = some 1) (h0 : 0 ≤ j) (h1 : j < n)
    (h : xs Tryz.prog isI isS hs H full K rest ((d, .pointer (some ⟨b, o + j.toNat, none⟩)) :: env) w) : xs Tryz.prog isI isS hs H full K (⟨some d, .indexAddr t x i, ty, pos, af, none⟩ :: rest) env w :=
  xix hx hi hz h0 h1 (by rw [Nat.mul_one]; exact h)
theorem xixn {t : TypeId} {x i : Operand} {k : IntKind} {b o n c j : Nat} (hx : evo env x = some (.slice (some ⟨b, o, none⟩) n c)) (hi : evo env i = some (.int k (j : Int))) (hz : es t = some 1) (h1 : j < n)
    (h : xs Tryz.prog isI isS hs H full K rest ((d, .pointer (some ⟨b, o + j, none⟩)) :: env) w) : xs Tryz.prog isI isS hs H full K (⟨some d, .indexAddr t x i, ty, pos, af, none⟩ :: rest) env w :=
  xix1 hx hi hz (by omega) (by omega) h

/-- A store into a block that is known whole. -/
theorem xstb {t bt : TypeId} {x y : Operand} {g i : Nat} {cs : Array Value} {v : Value} (hB : Blk w g bt cs) (hx : evo env x = some (.pointer (some ⟨g, i, none⟩))) (hy : evo env y = some v) (ht : one t = true) (hv : v.oneCell' = true) (hi : decide (i < cs.size) = true)
    (h : ∀ w', Blk w' g bt (cs.setIfInBounds i v) → Fr (· = g) w w' → xs Tryz.prog isI isS hs H full K rest env w') (hH : ∀ w', Fr (· = g) w w' → H w' := by intros; trivial) : xs Tryz.prog isI isS hs H full K (⟨none, .store t x y, ty, pos, af, none⟩ :: rest) env w := by
  have hlt : i < cs.size := by simpa using hi
  have hc : w.cell? ⟨g, i, none⟩ = some cs[i] := by rw [hB.cell]; simp [hlt]
  exact xst hx hy ht hv hc (hB.frozen i) (h _ (hB.set_ i v) (Fr.setCell _ w _ v fun _ => rfl)) (hH _ (Fr.setCell _ w _ v fun _ => rfl))

/-- Shifts. -/
theorem xshl {t yt : TypeId} {x y : Operand} {k yk : IntKind} {a b r : Int} (hx : evo env x = some (.int k a)) (hy : evo env y = some (.int yk b)) (h0 : 0 ≤ b) (h1 : b ≤ k.bits) (hr : k.wrap (a * 2 ^ b.toNat) = r)
    (h : xs Tryz.prog isI isS hs H full K rest ((d, .int k r) :: env) w) : xs Tryz.prog isI isS hs H full K (⟨some d, .binOp .shl t x y yt, ty, pos, af, none⟩ :: rest) env w := by
  refine x_bin hx hy (eqGuard_at_int ..) (fun w' => ?_) h
  rw [binOp_shl, shift_shl k yk a b h0 h1, hr]; simp
theorem xshr {t yt : TypeId} {x y : Operand} {k yk : IntKind} {a b : Int} (hx : evo env x = some (.int k a)) (hy : evo env y = some (.int yk b)) (h0 : 0 ≤ b) (h1 : b ≤ k.bits)
    (h : xs Tryz.prog isI isS hs H full K rest ((d, .int k (a / 2 ^ b.toNat)) :: env) w) : xs Tryz.prog isI isS hs H full K (⟨some d, .binOp .shr t x y yt, ty, pos, af, none⟩ :: rest) env w := by
  refine x_bin hx hy (eqGuard_at_int ..) (fun w' => ?_) h
  rw [binOp_shr, shift_shr k yk a b h0 h1]; simp
/-- and, or, xor, and not. -/
theorem xbits {op : BinOp} {t yt : TypeId} {x y : Operand} {k : IntKind} {a b r : Int} (hx : evo env x = some (.int k a)) (hy : evo env y = some (.int k b)) (ho : op = .and ∨ op = .or ∨ op = .xor) (hr : bits op k a b = r)
    (h : xs Tryz.prog isI isS hs H full K rest ((d, .int k r) :: env) w) : xs Tryz.prog isI isS hs H full K (⟨some d, .binOp op t x y yt, ty, pos, af, none⟩ :: rest) env w := by
  refine x_bin hx hy (eqGuard_at_int ..) (fun w' => ?_) h
  subst hr
  rcases ho with rfl | rfl | rfl
  · rw [binOp_and, intBits_and]; simp
  · rw [binOp_or, intBits_or]; simp
  · rw [binOp_xor, intBits_xor]; simp

/-- The lesser and the greater of two integers. -/
theorem xmin {x y : Operand} {t u : TypeId} {k : IntKind} {a b : Int} (hx : evo env x = some (.int k a)) (hy : evo env y = some (.int k b))
    (h : xs Tryz.prog isI isS hs H full K rest ((d, .int k (min a b)) :: env) w) : xs Tryz.prog isI isS hs H full K (⟨some d, .call { callee := .builtin .min, args := ⟨[x, y]⟩, argTypes := ⟨[t, u]⟩ }, ty, pos, af, none⟩ :: rest) env w := by
  refine x_gen rfl (by simp [opsOK, Op.operands, Call.operands, hx, hy]) ⟨_, fun w' => ?_, h⟩
  have e : (if b < a then b else a) = min a b := by omega
  simp [execOp, resolve, invoke, builtin, ev_of hx, ev_of hy, Builtin.min_, Builtin.min2, e]
theorem xmax {x y : Operand} {t u : TypeId} {k : IntKind} {a b : Int} (hx : evo env x = some (.int k a)) (hy : evo env y = some (.int k b))
    (h : xs Tryz.prog isI isS hs H full K rest ((d, .int k (max a b)) :: env) w) : xs Tryz.prog isI isS hs H full K (⟨some d, .call { callee := .builtin .max, args := ⟨[x, y]⟩, argTypes := ⟨[t, u]⟩ }, ty, pos, af, none⟩ :: rest) env w := by
  refine x_gen rfl (by simp [opsOK, Op.operands, Call.operands, hx, hy]) ⟨_, fun w' => ?_, h⟩
  have e : (if b > a then b else a) = max a b := by omega
  simp [execOp, resolve, invoke, builtin, ev_of hx, ev_of hy, Builtin.max_, Builtin.max2, e]

/-- Powers of two. -/
def p2 (b : Int) : Int := 2 ^ b.toNat
theorem p2_pos (b : Int) : 1 ≤ p2 b := by
  have : (0 : Int) < 2 ^ b.toNat := Int.pow_pos (by decide)
  unfold p2; omega
theorem p2_le {b : Int} {k : Nat} (hb : b ≤ k) : p2 b ≤ 2 ^ k := by
  unfold p2
  have h1 : b.toNat ≤ k := by omega
  have : (2 : Nat) ^ b.toNat ≤ 2 ^ k := Nat.pow_le_pow_right (by decide) h1
  exact_mod_cast this

end Eng
end Go.Proofs.YtalnkjpgnkfedaaGreatDoor

/-! Rules for operations that make memory: make, append, literals, boxes; slices of slices. -/
namespace Go.Proofs.YtalnkjpgnkfedaaGreatDoor
open Go.RowKit
namespace Eng

/-- t: a slice type of elements e; z: their zero. -/
structure SlT (t e : TypeId) (z : Value) (size bytes : Nat) : Prop where
  u : Tryz.prog.underlying t = some (.slice e)
  i : ∃ i, Tryz.prog.info? e = some i ∧ i.zero = some z ∧ i.size = size ∧ i.bytes = bytes

theorem slT {t e : TypeId} {z : Value} {size bytes : Nat} (hu : Tryz.prog.underlying t = some (.slice e)) (h : (Tryz.prog.info? e).map (fun i => (i.zero, i.size, i.bytes)) = some (some z, size, bytes)) : SlT t e z size bytes := by
  refine ⟨hu, ?_⟩
  cases hi : Tryz.prog.info? e with
  | none => rw [hi] at h; cases h
  | some i =>
    rw [hi] at h
    simp only [Option.map_some, Option.some.injEq, Prod.mk.injEq] at h
    exact ⟨i, rfl, h⟩

theorem Own.form {w : World} {B : Nat} {e : TypeId} {v : Value} {vs : List Value} (h : Own w B e v vs) : ∃ A c, v = .slice A vs.length c ∧ vs.length ≤ c ∧ c ≤ maxLen := by
  obtain ⟨A, c, h1, h2, h3, _⟩ := h.row
  exact ⟨A, c, h1, h2, h3⟩
theorem Own.lt_of {w : World} {B : Nat} {e : TypeId} {v : Value} {vs : List Value} (h : Own w B e v vs) (hn : 0 < vs.length) : ∃ g c, v = .slice (some ⟨g, 0, none⟩) vs.length c ∧ B ≤ g ∧ g < w.heap.size := by
  obtain ⟨g, c, h1, h2, h3⟩ := World.ownsRow.form h hn
  exact ⟨g, c, h1, h2, h3⟩

variable {hs : List Nat} {H : World → Prop} {full : Array Oper} {K : Env → World → Prop} {rest : List Oper} {env : Env} {w : World} {d : Tmp} {dst : Option Tmp} {ty : TypeId} {pos : String} {af : Array Edge}

/-- An operation that changes the world and gives a value. -/
theorem xw {op : Op} {v : Value} {w' : World} (ho : opsOK env ⟨dst, op, ty, pos, af, none⟩ = true) (hc : cls isI isS op = .w) (hr : (execOp (ev env) ⟨dst, op, ty, pos, af, none⟩).run Tryz.prog w = .ok (.value v) w')
    (h : xs Tryz.prog isI isS hs H full K rest (put env dst v) w') (hH : H w') : xs Tryz.prog isI isS hs H full K (⟨dst, op, ty, pos, af, none⟩ :: rest) env w := by
  refine x_gen rfl ho ?_
  have hc' : clsO isI isS hs ⟨dst, op, ty, pos, af, none⟩ = .w := by unfold clsO; rw [hc]
  rw [hc']
  show out Tryz.prog _ _
  rw [hr]
  exact ⟨hH, h⟩

/-- make, the length and the capacity one number. -/
theorem xmk {t e : TypeId} {z : Value} {bytes : Nat} {x y : Operand} {n : Int} (hT : SlT t e z 1 bytes) (hzc : z.cells = #[z]) (hx : evo env x = some (.int .i64 n)) (hy : evo env y = some (.int .i64 n)) (h0 : 0 ≤ n) (hb : bytes * n.toNat ≤ 281474976710656) (hn : n ≤ 9223372036854775807)
    (h : ∀ w', Blk w' w.heap.size e (Array.replicate n.toNat z) → Ext w w' → w'.heap.size = w.heap.size + 1 → xs Tryz.prog isI isS hs H full K rest ((d, .slice (some ⟨w.heap.size, 0, none⟩) n.toNat n.toNat) :: env) w') (hH : ∀ w', Ext w w' → H w' := by intros; trivial) :
    xs Tryz.prog isI isS hs H full K (⟨some d, .makeSlice t x y, ty, pos, af, none⟩ :: rest) env w := by
  obtain ⟨hu, i, hi, hz, hs, hby⟩ := hT
  obtain ⟨m, rfl⟩ := Int.eq_ofNat_of_zero_le h0
  have hr := run_make (P := Tryz.prog) w t e i z hu hi hz .i64 .i64 m m (by omega) (by omega) (by
    rw [hby]
    simp only [Int.toNat_natCast] at hb
    have hh : ((bytes * m : Nat) : Int) ≤ 281474976710656 := by omega
    rwa [Int.natCast_mul] at hh) (by omega)
  simp only [Int.toNat_natCast] at hr h
  refine xw (by simp [opsOK, Op.operands, hx, hy]) rfl (v := .slice (some ⟨w.heap.size, 0, none⟩) m m) (w' := w.alloc (.cells (Array.replicate m z) e)) ?_ (h _ (Blk.new _ _ _) (Fr.alloc _ _ _) (by simp)) (hH _ (Fr.alloc _ _ _))
  have hm : madeCells z.cells (m * i.size) = Array.replicate m z := by
    rw [hzc, hs, Nat.mul_one]
    apply Array.ext'
    rw [toList_madeCells_one]; simp
  rw [hm] at hr
  simp [execOp, ev_of hx, ev_of hy, hr]

/-- append onto a row of the call's own, of what a slice reads. -/
theorem xap {t e : TypeId} {z : Value} {bytes B m c : Nat} {s x : Operand} {v : Value} {A : Option Addr} {vs news : List Value} (hT : SlT t e z 1 bytes) (hzc : z.cells.size = 1) (hss : evo env s = some v) (hown : Own w B e v vs) (hx : evo env x = some (.slice A m c))
    (hr : Row w (.slice A m c) m news) (hl : news.length = m) (h1 : ∀ u ∈ news, u.oneCell' = true) (h63 : vs.length + m ≤ maxLen) (hbytes : (vs.length + m) * bytes ≤ 140737488355328) (hbase : B ≤ w.heap.size)
    (h : ∀ v' w', Own w' B e v' (vs ++ news) → Fr (fun b => v.ownBlock = some b) w w' → (v'.ownBlock = v.ownBlock ∨ v'.ownBlock = some w.heap.size) → xs Tryz.prog isI isS hs H full K rest ((d, v') :: env) w') (hH : ∀ w', Fr (fun b => v.ownBlock = some b) w w' → H w' := by intros; trivial) :
    xs Tryz.prog isI isS hs H full K (⟨some d, .call { callee := .builtin .append, args := ⟨[s, x]⟩, argTypes := ⟨[t, t]⟩ }, ty, pos, af, none⟩ :: rest) env w := by
  obtain ⟨hu, i, hi, hz, hsz, hby⟩ := hT
  have key : ∃ v' w', (Builtin.append_ #[t, t] ty #[v, .slice A m c]).run Tryz.prog w = .ok v' w' ∧ w'.ownsRow B e 1 v' (vs.length + m) (vs ++ news) ∧ w.grownBy w' v.ownBlock ∧ (v'.ownBlock = v.ownBlock ∨ v'.ownBlock = some w.heap.size) := by
    rcases Nat.eq_zero_or_pos m with h0 | h0
    · subst h0
      have hn : news = [] := List.eq_nil_of_length_eq_zero hl
      subst hn
      refine ⟨v, w, ?_, by unfold Own at hown; simpa using hown, World.grownBy.refl w _, .inl rfl⟩
      rcases hown.2 with ⟨rfl, hv⟩ | ⟨g, cap, cur, rfl, _, _, hnc, _⟩
      · cases A <;> simp [Builtin.append_, run_underlying hu, sizeOf, typeInfo, hi, Builtin.lenOf, Builtin.firstCells, loadCells, loadCellsFrom]
      · cases A <;> simp [Builtin.append_, run_underlying hu, sizeOf, typeInfo, hi, Builtin.lenOf, Builtin.firstCells, hnc, storeCells, loadCells, loadCellsFrom]
    · obtain ⟨A', c', he, hmc, hcm, hA⟩ := hr
      injection he with e1 _ e2
      subst e1; subst e2
      obtain ⟨b, o, rfl, hb, hcell⟩ := hA h0
      obtain ⟨v', w', hrun, h2, h3, _, h5⟩ := run_append_own_at (P := Tryz.prog) w B t ty e i z 1 bytes hu hi hz hsz hby hzc (by omega) v vs.length vs hown ⟨b, o, none⟩ m c news (by omega) (fun j u hu => by rw [Addr.add_lit]; exact hcell j u hu) h1 h63 hbytes hbase
      exact ⟨v', w', hrun, h2, h3, h5⟩
  obtain ⟨v', w', hrun, h2, h3, h4⟩ := key
  refine xw (by simp [opsOK, Op.operands, Call.operands, hss, hx]) rfl (v := v') (w' := w') ?_ (h v' w' (by unfold Own; rw [List.length_append, hl]; exact h2) (Fr.grown h3 fun k hk _ => hk) h4) (hH _ (Fr.grown h3 fun k hk _ => hk))
  simp [execOp, resolve, invoke, builtin, ev_of hss, ev_of hx, hrun]

/-- A slice literal whose elements are one cell each. -/
def evp (env : Env) : Nat → List (Nat × Operand) → Option (List Value)
  | _, [] => some []
  | k, (j, x) :: r => match Nat.beq j k, evo env x, evp env (k + 1) r with
    | true, some v, some vs => some (v :: vs)
    | _, _, _ => none

theorem evp_spec : ∀ {l : List (Nat × Operand)} {k : Nat} {vs : List Value}, evp env k l = some vs → (l.map fun p => (p.1, ev env p.2)) = (vs.zipIdx k).map (fun p => (p.2, p.1)) ∧ ∀ p ∈ l, (evo env p.2).isSome = true
  | [], k, vs, h => by injection h with h; subst h; exact ⟨rfl, by simp⟩
  | (j, x) :: r, k, vs, h => by
    simp only [evp] at h
    split at h
    · rename_i v vs' hb hv hvs; injection h with h; subst h
      obtain ⟨h1, h2⟩ := evp_spec hvs
      have hj := Nat.eq_of_beq_eq_true hb
      subst hj
      refine ⟨by simp [ev_of hv, h1, List.zipIdx_cons], fun p hp => (List.mem_cons.1 hp).elim (fun e => by rw [e, hv]; rfl) (h2 p)⟩
    · cases h

theorem xbs {t e : TypeId} {z : Value} {bytes n : Nat} {parts : List (Nat × Operand)} {vs : List Value} (hT : SlT t e z 1 bytes) (hp : evp env 0 parts = some vs) (hn : vs.length = n) (h0 : 0 < n) (hn2 : n ≤ 16777216) (h1 : ∀ u ∈ vs, u.oneCell' = true)
    (h : ∀ w', Blk w' w.heap.size e vs.toArray → Ext w w' → w'.heap.size = w.heap.size + 1 → xs Tryz.prog isI isS hs H full K rest ((d, .slice (some ⟨w.heap.size, 0, none⟩) n n) :: env) w') (hH : ∀ w', Ext w w' → H w' := by intros; trivial) :
    xs Tryz.prog isI isS hs H full K (⟨some d, .buildSlice t n parts.toArray, ty, pos, af, none⟩ :: rest) env w := by
  obtain ⟨hu, i, hi, hz, hs, hby⟩ := hT
  obtain ⟨he, ho⟩ := evp_spec hp
  refine xw (by simp only [opsOK, Op.operands]; rw [List.all_eq_true]; intro x hx; simp at hx; obtain ⟨j, hj⟩ := hx; exact ho _ hj) rfl (v := .slice (some ⟨w.heap.size, 0, none⟩) n n) (w' := w.alloc (.cells vs.toArray e)) ?_ (h _ (Blk.new _ _ _) (Fr.alloc _ _ _) (by simp)) (hH _ (Fr.alloc _ _ _))
  have hr := run_buildSlice (P := Tryz.prog) w t e n ((parts.map fun p => (p.1, ev env p.2)).toArray) vs.toArray i z hu hi hz (by rw [hs]; omega) (by rw [hs]; omega) (by
    rw [hs]
    show Instr.fill _ _ (parts.map fun p => (p.1, ev env p.2)) = _
    rw [he]
    exact Great.fill_flat _ _ (fun v hv => by have := h1 v hv; cases v <;> first | rfl | cases this) (by simp [hn]))
  have e2 : (parts.toArray.map fun x => match x with | (i, x) => (i, ev env x)) = (parts.map fun p => (p.1, ev env p.2)).toArray := by simp
  simp only [execOp]
  rw [e2]
  simp [hr]

/-- A new variable that holds a value. -/
theorem xbox {t : TypeId} {x : Operand} {v : Value} (hx : evo env x = some v)
    (h : ∀ w', Blk w' w.heap.size t v.cells → Ext w w' → w'.heap.size = w.heap.size + 1 → xs Tryz.prog isI isS hs H full K rest ((d, .pointer (some ⟨w.heap.size, 0, none⟩)) :: env) w') (hH : ∀ w', Ext w w' → H w' := by intros; trivial) :
    xs Tryz.prog isI isS hs H full K (⟨some d, .box t x, ty, pos, af, none⟩ :: rest) env w := by
  refine xw (by simp [opsOK, Op.operands, hx]) rfl (v := .pointer (some ⟨w.heap.size, 0, none⟩)) (w' := w.alloc (.cells v.cells t)) ?_ (h _ (Blk.new _ _ _) (Fr.alloc _ _ _) (by simp)) (hH _ (Fr.alloc _ _ _))
  simp [execOp, ev_of hx, Instr.box, newVar, newRow]

/-- A new variable that holds its type's zero. -/
theorem xalloc {t : TypeId} {z : Value} (hz : ((Tryz.prog.info? t).bind (·.zero)) = some z)
    (h : ∀ w', Blk w' w.heap.size t z.cells → Ext w w' → w'.heap.size = w.heap.size + 1 → xs Tryz.prog isI isS hs H full K rest ((d, .pointer (some ⟨w.heap.size, 0, none⟩)) :: env) w') (hH : ∀ w', Ext w w' → H w' := by intros; trivial) :
    xs Tryz.prog isI isS hs H full K (⟨some d, .alloc t, ty, pos, af, none⟩ :: rest) env w := by
  refine xw (by simp [opsOK, Op.operands]) rfl (v := .pointer (some ⟨w.heap.size, 0, none⟩)) (w' := w.alloc (.cells z.cells t)) ?_ (h _ (Blk.new _ _ _) (Fr.alloc _ _ _) (by simp)) (hH _ (Fr.alloc _ _ _))
  cases hi : Tryz.prog.info? t with
  | none => rw [hi] at hz; cases hz
  | some i =>
    rw [hi] at hz
    simp only [Option.bind_some] at hz
    simp [execOp, Instr.alloc, zeroValue, typeInfo, hi, hz, newVar, newRow]

/-- A struct out of its parts. -/
def evq (env : Env) : List (Nat × Operand) → Option (List (Nat × Value))
  | [] => some []
  | (j, x) :: r => match evo env x, evq env r with
    | some v, some vs => some ((j, v) :: vs)
    | _, _ => none
theorem evq_spec : ∀ {l : List (Nat × Operand)} {vs : List (Nat × Value)}, evq env l = some vs → (l.map fun p => (p.1, ev env p.2)) = vs ∧ ∀ p ∈ l, (evo env p.2).isSome = true
  | [], vs, h => by injection h with h; subst h; exact ⟨rfl, by simp⟩
  | (j, x) :: r, vs, h => by
    simp only [evq] at h
    split at h
    · rename_i v vs' hv hvs; injection h with h; subst h
      obtain ⟨h1, h2⟩ := evq_spec hvs
      exact ⟨by simp [ev_of hv, h1], fun p hp => (List.mem_cons.1 hp).elim (fun e => by rw [e, hv]; rfl) (h2 p)⟩
    · cases h
theorem xbd {t : TypeId} {parts : List (Nat × Operand)} {vs : List (Nat × Value)} {cells : Array Value} (hp : evq env parts = some vs) (hb : Tryz.prog.built t vs = some cells)
    (h : xs Tryz.prog isI isS hs H full K rest ((d, .agg cells) :: env) w) : xs Tryz.prog isI isS hs H full K (⟨some d, .build t parts.toArray, ty, pos, af, none⟩ :: rest) env w := by
  obtain ⟨he, ho⟩ := evq_spec hp
  refine x_gen rfl (by simp only [opsOK, Op.operands]; rw [List.all_eq_true]; intro x hx; simp at hx; obtain ⟨j, hj⟩ := hx; exact ho _ hj) ⟨.agg cells, fun w' => ?_, h⟩
  have hr := run_build (P := Tryz.prog) w' t ((parts.map fun p => (p.1, ev env p.2)).toArray) cells (by show Tryz.prog.built t (parts.map fun p => (p.1, ev env p.2)) = _; rw [he]; exact hb)
  have e2 : (parts.toArray.map fun x => match x with | (i, x) => (i, ev env x)) = (parts.map fun p => (p.1, ev env p.2)).toArray := by simp
  simp only [execOp]
  rw [e2]
  simp [hr]

/-- A slice of a slice. -/
theorem run_sl {t : TypeId} {e : TypeId} {i : TypeInfo} {A : Option Addr} {n c : Nat} {lo hi : Option Value} {l h : Nat} (hu : Tryz.prog.underlying t = some (.slice e)) (hie : Tryz.prog.info? e = some i)
    (hl : lo = none ∧ l = 0 ∨ ∃ k, lo = some (.int k (l : Int))) (hh : hi = none ∧ h = n ∨ ∃ k, hi = some (.int k (h : Int))) (h1 : l ≤ h) (h2 : h ≤ c) (w : World) :
    (Instr.sliceAt t (.slice A n c) lo hi none).run Tryz.prog w = .ok (.slice (if c = l then A else A.map (·.add (l * i.size))) (h - l) (c - l)) w := by
  rcases hl with ⟨rfl, rfl⟩ | ⟨k, rfl⟩ <;> rcases hh with ⟨rfl, rfl⟩ | ⟨k', rfl⟩ <;>
    simp [Instr.sliceAt, Instr.slice, run_underlying hu, Instr.sliceBounds, Instr.sliceBound, asIntOf, sizeOf, typeInfo, hie] <;> (first | omega | skip)
  rw [if_pos h2, if_pos h1]

/-- x[lo:hi]. -/
theorem xsl2 {t : TypeId} {x lo hi : Operand} {k k' : IntKind} {A : Option Addr} {n c z : Nat} {l h : Int} (hz : es t = some z) (hx : evo env x = some (.slice A n c)) (hlo : evo env lo = some (.int k l)) (hhi : evo env hi = some (.int k' h)) (h0 : 0 ≤ l) (h1 : l ≤ h) (h2 : h ≤ c)
    (hc : ∀ A', (∀ b o, A = some ⟨b, o, none⟩ → l < c → A' = some ⟨b, o + l.toNat * z, none⟩) → xs Tryz.prog isI isS hs H full K rest ((d, .slice A' (h.toNat - l.toNat) (c - l.toNat)) :: env) w) :
    xs Tryz.prog isI isS hs H full K (⟨some d, .slice t x (some lo) (some hi) none, ty, pos, af, none⟩ :: rest) env w := by
  obtain ⟨e, i, hu, hi', hsz⟩ := es_spec hz
  obtain ⟨l, rfl⟩ := Int.eq_ofNat_of_zero_le h0
  obtain ⟨h, rfl⟩ := Int.eq_ofNat_of_zero_le (Int.le_trans h0 h1)
  refine x_gen rfl (by simp [opsOK, Op.operands, hx, hlo, hhi]) ⟨_, fun w' => ?_, hc (if c = l then A else A.map (·.add (l * i.size))) (fun b o hA hlt => ?_)⟩
  · have := run_sl (A := A) (n := n) (c := c) (lo := some (.int k l)) (hi := some (.int k' h)) (l := l) (h := h) hu hi' (.inr ⟨k, rfl⟩) (.inr ⟨k', rfl⟩) (by omega) (by omega) w'
    simp [execOp, ev_of hx, ev_of hlo, ev_of hhi, this]
  · rw [if_neg (by omega), hA, hsz]
    simp [Addr.add_lit]
/-- x[lo:]. -/
theorem xsl1 {t : TypeId} {x lo : Operand} {k : IntKind} {A : Option Addr} {n c z : Nat} {l : Int} (hz : es t = some z) (hx : evo env x = some (.slice A n c)) (hlo : evo env lo = some (.int k l)) (h0 : 0 ≤ l) (h1 : l ≤ n) (h2 : n ≤ c)
    (hc : ∀ A', (∀ b o, A = some ⟨b, o, none⟩ → l < c → A' = some ⟨b, o + l.toNat * z, none⟩) → xs Tryz.prog isI isS hs H full K rest ((d, .slice A' (n - l.toNat) (c - l.toNat)) :: env) w) :
    xs Tryz.prog isI isS hs H full K (⟨some d, .slice t x (some lo) none none, ty, pos, af, none⟩ :: rest) env w := by
  obtain ⟨e, i, hu, hi', hsz⟩ := es_spec hz
  obtain ⟨l, rfl⟩ := Int.eq_ofNat_of_zero_le h0
  refine x_gen rfl (by simp [opsOK, Op.operands, hx, hlo]) ⟨_, fun w' => ?_, hc (if c = l then A else A.map (·.add (l * i.size))) (fun b o hA hlt => ?_)⟩
  · have := run_sl (A := A) (n := n) (c := c) (lo := some (.int k l)) (hi := none) (l := l) (h := n) hu hi' (.inr ⟨k, rfl⟩) (.inl ⟨rfl, rfl⟩) (by omega) (by omega) w'
    simp [execOp, ev_of hx, ev_of hlo, this]
  · rw [if_neg (by omega), hA, hsz]
    simp [Addr.add_lit]
/-- x[:hi]. -/
theorem xsl0 {t : TypeId} {x hi : Operand} {k' : IntKind} {A : Option Addr} {n c z : Nat} {h : Int} (hz : es t = some z) (hx : evo env x = some (.slice A n c)) (hhi : evo env hi = some (.int k' h)) (h1 : 0 ≤ h) (h2 : h ≤ c)
    (hc : ∀ A', (∀ b o, A = some ⟨b, o, none⟩ → 0 < c → A' = some ⟨b, o, none⟩) → xs Tryz.prog isI isS hs H full K rest ((d, .slice A' h.toNat c) :: env) w) :
    xs Tryz.prog isI isS hs H full K (⟨some d, .slice t x none (some hi) none, ty, pos, af, none⟩ :: rest) env w := by
  obtain ⟨e, i, hu, hi', hsz⟩ := es_spec hz
  obtain ⟨h, rfl⟩ := Int.eq_ofNat_of_zero_le h1
  refine x_gen rfl (by simp [opsOK, Op.operands, hx, hhi]) ⟨_, fun w' => ?_, hc (if c = 0 then A else A.map (·.add (0 * i.size))) (fun b o hA hlt => ?_)⟩
  · have := run_sl (A := A) (n := n) (c := c) (lo := none) (hi := some (.int k' h)) (l := 0) (h := h) hu hi' (.inl ⟨rfl, rfl⟩) (.inr ⟨k', rfl⟩) (by omega) (by omega) w'
    simp [execOp, ev_of hx, ev_of hhi, this]
  · rw [if_neg (by omega), hA]
    simp [Addr.add_lit]

end Eng
end Go.Proofs.YtalnkjpgnkfedaaGreatDoor

/-! Rules for arrays inside blocks and for structs that are loaded, stored and returned whole. -/
namespace Go.Proofs.YtalnkjpgnkfedaaGreatDoor
open Go.RowKit
namespace Eng

theorem agg_spec {t n : Nat} (h : get l_agg t = some n) : ((∃ fs, Tryz.prog.underlying t = some (.struct fs)) ∨ ∃ m e, Tryz.prog.underlying t = some (.array m e)) ∧ ∃ i, Tryz.prog.info? t = some i ∧ i.size = n := by
  have := List.all_eq_true.1 chkAgg_ok _ (get_mem h)
  unfold chkAgg at this
  dsimp only at this
  split at this
  · rename_i fs i h1 h2; exact ⟨.inl ⟨_, h1⟩, i, h2, by simpa using this⟩
  · rename_i a b i h1 h2; exact ⟨.inr ⟨_, _, h1⟩, i, h2, by simpa using this⟩
  · cases this

theorem ld_row {t bt : TypeId} {g : Nat} {cs : Array Value} {w : World} (hB : Blk w g bt cs) (ht : get l_agg t = some cs.size) : (loadVar t ⟨g, 0, none⟩).run Tryz.prog w = .ok (.agg cs) w := by
  obtain ⟨h1 | h1, i, h3, h4⟩ := agg_spec ht
  · obtain ⟨fs, h1⟩ := h1
    exact run_loadVar_row (P := Tryz.prog) w g bt t cs (0, 0) _ hB h1 rfl (by rw [h3]; simp [h4])
  · obtain ⟨m, e, h1⟩ := h1
    exact run_loadVar_row (P := Tryz.prog) w g bt t cs (0, 0) _ hB h1 rfl (by rw [h3]; simp [h4])

theorem arr_spec {t n z : Nat} (h : get l_an t = some n) (hz : get l_ae t = some z) : ∃ e i, Tryz.prog.underlying t = some (.array n e) ∧ Tryz.prog.info? e = some i ∧ i.size = z ∧ 1 < n := by
  have := List.all_eq_true.1 chkArr_ok _ (get_mem h)
  unfold chkArr at this
  dsimp only at this
  split at this
  · rename_i n' e he
    simp only [Bool.and_eq_true, beq_iff_eq, decide_eq_true_eq] at this
    obtain ⟨⟨h1, h2⟩, h3⟩ := this
    subst h1
    rw [hz] at h3
    split at h3
    · rename_i i z' hi hz'
      injection hz' with hz'
      exact ⟨e, i, he, hi, by rw [hz']; simpa using h3, h2⟩
    · cases h3
  · cases this

variable {hs : List Nat} {H : World → Prop} {full : Array Oper} {K : Env → World → Prop} {rest : List Oper} {env : Env} {w : World} {d : Tmp} {dst : Option Tmp} {ty : TypeId} {pos : String} {af : Array Edge}

/-- The address of an element of an array. -/
theorem xixa {t : TypeId} {x i : Operand} {k : IntKind} {b o n j : Nat} (hx : evo env x = some (.pointer (some ⟨b, o, none⟩))) (hi : evo env i = some (.int k (j : Int))) (hn : get l_an t = some n) (hz : get l_ae t = some 1) (h1 : j < n)
    (h : xs Tryz.prog isI isS hs H full K rest ((d, .pointer (some ⟨b, o + j, none⟩)) :: env) w) : xs Tryz.prog isI isS hs H full K (⟨some d, .indexAddr t x i, ty, pos, af, none⟩ :: rest) env w := by
  obtain ⟨e, ie, h2, h3, h4, h5⟩ := arr_spec hn hz
  refine x_gen rfl (by simp [opsOK, Op.operands, hx, hi]) ⟨_, fun w' => ?_, h⟩
  simp [execOp, ev_of hx, ev_of hi, Instr.indexAt, asIntOf, Instr.sureAddr, run_underlying h2, sizeOf, typeInfo, h3, h4, Addr.add_lit]
  exact fun hh => absurd h1 (by omega)

theorem xiq {t : TypeId} {x i : Operand} {k : IntKind} {b o n : Nat} {jz : Int} (j q : Nat) (hx : evo env x = some (.pointer (some ⟨b, o, none⟩))) (hi : evo env i = some (.int k jz)) (hn : get l_an t = some n) (hz : get l_ae t = some 1) (hj : jz = j) (hq : o + j = q) (h1 : j < n)
    (h : xs Tryz.prog isI isS hs H full K rest ((d, .pointer (some ⟨b, q, none⟩)) :: env) w) : xs Tryz.prog isI isS hs H full K (⟨some d, .indexAddr t x i, ty, pos, af, none⟩ :: rest) env w := by
  subst hj; subst hq; exact xixa hx hi hn hz h1 h
/-- The address of an element of a slice, the place given apart. -/
theorem xisq {t : TypeId} {x i : Operand} {k : IntKind} {b o n c : Nat} {jz : Int} (j q : Nat) (hx : evo env x = some (.slice (some ⟨b, o, none⟩) n c)) (hi : evo env i = some (.int k jz)) (hz : es t = some 1) (hj : jz = j) (hq : o + j = q) (h1 : j < n)
    (h : xs Tryz.prog isI isS hs H full K rest ((d, .pointer (some ⟨b, q, none⟩)) :: env) w) : xs Tryz.prog isI isS hs H full K (⟨some d, .indexAddr t x i, ty, pos, af, none⟩ :: rest) env w := by
  subst hj; subst hq; exact xixn hx hi hz h1 h

/-- Loading a whole block. -/
theorem xlda {t bt : TypeId} {x : Operand} {g : Nat} {cs : Array Value} (hB : Blk w g bt cs) (hx : evo env x = some (.pointer (some ⟨g, 0, none⟩))) (ht : get l_agg t = some cs.size)
    (h : xs Tryz.prog isI isS hs H full K rest ((d, .agg cs) :: env) w) (hm : memb hs (some d) = false := by rfl) : xs Tryz.prog isI isS hs H full K (⟨some d, .load t x, ty, pos, af, none⟩ :: rest) env w := by
  refine x_gen rfl (by simp [opsOK, Op.operands, hx]) ?_
  have hcl : clsO isI isS hs ⟨some d, .load t x, ty, pos, af, none⟩ = .r := by simp [clsO, cls, hm]
  rw [hcl]
  refine ⟨.agg cs, ?_, h⟩
  simp [execOp, ev_of hx, Instr.loadAt, Instr.sureAddr, ld_row hB ht]

/-- Storing a whole block. -/
theorem xsta {t bt : TypeId} {x y : Operand} {g : Nat} {old cs : Array Value} (hB : Blk w g bt old) (hx : evo env x = some (.pointer (some ⟨g, 0, none⟩))) (hy : evo env y = some (.agg cs)) (ht : get l_agg t = some cs.size) (ho : old.size = cs.size) (h1 : cs.all (·.oneCell') = true)
    (h : ∀ w', Blk w' g bt cs → Fr (· = g) w w' → xs Tryz.prog isI isS hs H full K rest env w') (hH : ∀ w', Fr (· = g) w w' → H w' := by intros; trivial) : xs Tryz.prog isI isS hs H full K (⟨none, .store t x y, ty, pos, af, none⟩ :: rest) env w := by
  obtain ⟨_, i, h4, h5⟩ := agg_spec ht
  refine x_gen rfl (by simp [opsOK, Op.operands, hx, hy]) ?_
  have hr := run_storeVar_row (P := Tryz.prog) w g bt t old cs hB (by rw [h4]; simp [h5]) ho h1
  have hF : Fr (· = g) w (w.setRow g cs) := ⟨rfl, rfl, rfl, by simp [World.setRow], fun k hk hn => by simp only [World.setRow, Array.getElem?_modify]; rw [if_neg (fun e => hn e.symm)]⟩
  have hN : Blk (w.setRow g cs) g bt cs := by
    unfold Blk at hB ⊢
    simp [World.setRow, Array.getElem?_modify, hB]
  show out Tryz.prog ((execOp (ev env) ⟨none, .store t x y, ty, pos, af, none⟩).run Tryz.prog w) _
  have e : (execOp (ev env) ⟨none, .store t x y, ty, pos, af, none⟩).run Tryz.prog w = .ok .skip (w.setRow g cs) := by
    simp [execOp, ev_of hx, ev_of hy, Instr.storeAt, Instr.sureAddr, hr]
  rw [e]
  exact ⟨hH _ hF, h _ hN hF⟩

/-- A result that lies in a block. -/
theorem tretc {fn : Func} {R : Value → World → Prop} {k : List It} {t : Tmp} {bt tt : TypeId} {g : Nat} {cs : Array Value} (hr : fn.results = #[.cell t tt]) (hv : look env t = some (.pointer (some ⟨g, 0, none⟩))) (hB : Blk w g bt cs) (ht : get l_agg tt = some cs.size) (h : R (.agg cs) w) :
    T Tryz.prog fn R (.code .ret :: k) env w := fun a ha => by
  refine wp_ret (sem_ret (show bodyPost Tryz.prog fn (Ret R) .ret a w from ⟨ha.1, .agg cs, ?_, _, rfl, h⟩) k)
  have hp' : a.tmps[t]?.getD undef = .pointer (some ⟨g, 0, none⟩) := by rw [ha.2.2 t _ hv]; rfl
  simp [results, hr, hp', asAddr, ld_row hB ht]

end Eng
end Go.Proofs.YtalnkjpgnkfedaaGreatDoor

/-! Bits as lists of 0 and 1: their value, the bits of a number, bytes filled up. Plain facts. -/
namespace Go.Proofs.YtalnkjpgnkfedaaGreatDoor
namespace Eng

/-- The number that bits spell, the first the heaviest. -/
def val (bs : List Nat) : Nat := bs.foldl (fun a b => 2 * a + b) 0
/-- The lowest l bits of n, the heaviest first. -/
def bitsOf (n : Nat) : Nat → List Nat
  | 0 => []
  | l + 1 => n / 2 ^ l % 2 :: bitsOf n l
def Bits (bs : List Nat) : Prop := ∀ b ∈ bs, b < 2

theorem val_nil : val [] = 0 := rfl
theorem foldl_val (bs : List Nat) : ∀ a, bs.foldl (fun a b => 2 * a + b) a = a * 2 ^ bs.length + val bs := by
  induction bs with
  | nil => intro a; simp [val]
  | cons b r ih =>
    intro a
    simp only [List.foldl_cons, val, List.length_cons]
    rw [ih, ih (2 * 0 + b), Nat.pow_succ]
    have : (2 * a + b) * 2 ^ r.length = a * (2 ^ r.length * 2) + b * 2 ^ r.length := by rw [Nat.add_mul, Nat.mul_comm 2 a, Nat.mul_assoc, Nat.mul_comm 2]
    rw [this]; simp; omega
theorem val_cons (b : Nat) (r : List Nat) : val (b :: r) = b * 2 ^ r.length + val r := by
  show List.foldl _ (2 * 0 + b) r = _
  rw [foldl_val]; simp
theorem val_append (a b : List Nat) : val (a ++ b) = val a * 2 ^ b.length + val b := by
  unfold val; rw [List.foldl_append, foldl_val]; rfl
theorem val_snoc (a : List Nat) (b : Nat) : val (a ++ [b]) = 2 * val a + b := by
  rw [val_append]; simp [val]; omega
theorem val_lt {bs : List Nat} (h : Bits bs) : val bs < 2 ^ bs.length := by
  induction bs with
  | nil => simp [val]
  | cons b r ih =>
    have h1 := ih fun x hx => h x (by simp [hx])
    have h2 := h b (by simp)
    rw [val_cons, List.length_cons, Nat.pow_succ]
    have : b * 2 ^ r.length ≤ 1 * 2 ^ r.length := Nat.mul_le_mul_right _ (by omega)
    omega
theorem val_zeros (k : Nat) : val (List.replicate k 0) = 0 := by
  induction k with
  | zero => rfl
  | succ k ih => rw [List.replicate_succ, val_cons, ih]; simp
theorem val_append_zeros (a : List Nat) (k : Nat) : val (a ++ List.replicate k 0) = val a * 2 ^ k := by rw [val_append, val_zeros]; simp

theorem length_bitsOf (n l : Nat) : (bitsOf n l).length = l := by
  induction l with
  | zero => rfl
  | succ l ih => simp [bitsOf, ih]
theorem bits_bitsOf (n l : Nat) : Bits (bitsOf n l) := by
  induction l with
  | zero => intro b hb; cases hb
  | succ l ih =>
    intro b hb
    rcases List.mem_cons.1 hb with rfl | h
    · omega
    · exact ih b h
theorem val_bitsOf (n l : Nat) : val (bitsOf n l) = n % 2 ^ l := by
  induction l with
  | zero => simp [bitsOf, val, Nat.mod_one]
  | succ l ih =>
    rw [bitsOf, val_cons, ih, length_bitsOf, Nat.pow_succ]
    have h1 := Nat.div_add_mod n (2 ^ l)
    have h2 := Nat.div_add_mod (n / 2 ^ l) 2
    have h3 : n % (2 ^ l * 2) = n % 2 ^ l + 2 ^ l * (n / 2 ^ l % 2) := Nat.mod_mul
    rw [h3, Nat.mul_comm (n / 2 ^ l % 2)]; omega
theorem bitsOf_add (n : Nat) (k l : Nat) : bitsOf n (k + l) = bitsOf (n / 2 ^ l) k ++ bitsOf n l := by
  induction k with
  | zero => simp [bitsOf]
  | succ k ih =>
    rw [show k + 1 + l = (k + l) + 1 from by omega, bitsOf, ih, bitsOf, List.cons_append]
    congr 2
    rw [Nat.div_div_eq_div_mul, ← Nat.pow_add, Nat.add_comm l k]
theorem bitsOf_val {bs : List Nat} (h : Bits bs) : ∀ m, bitsOf (m * 2 ^ bs.length + val bs) bs.length = bs := by
  induction bs with
  | nil => intro m; rfl
  | cons b r ih =>
    intro m
    have h1 := h b (by simp)
    have hr : Bits r := fun x hx => h x (by simp [hx])
    have h2 := val_lt hr
    rw [List.length_cons, bitsOf, val_cons]
    have e : m * 2 ^ (r.length + 1) + (b * 2 ^ r.length + val r) = (2 * m + b) * 2 ^ r.length + val r := by
      rw [Nat.pow_succ, Nat.add_mul]; 
      have : m * (2 ^ r.length * 2) = 2 * m * 2 ^ r.length := by rw [Nat.mul_comm 2 m, Nat.mul_assoc, Nat.mul_comm 2]
      omega
    rw [e, ih hr]
    congr 1
    rw [Nat.mul_comm, Nat.mul_add_div (Nat.two_pow_pos _), Nat.div_eq_of_lt h2]; omega
theorem bitsOf_val' {bs : List Nat} (h : Bits bs) : bitsOf (val bs) bs.length = bs := by simpa using bitsOf_val h 0
theorem bitsOf_mod (n l : Nat) : bitsOf (n % 2 ^ l) l = bitsOf n l := by
  have := bitsOf_val' (bits_bitsOf n l)
  rw [length_bitsOf, val_bitsOf] at this
  exact this

/-- A part of bits is read off their value. -/
theorem val_part (a m c : List Nat) (hm : Bits m) (hc : Bits c) : val (a ++ m ++ c) / 2 ^ c.length % 2 ^ m.length = val m := by
  have h1 := val_lt hm
  have h2 := val_lt hc
  rw [val_append (a ++ m) c, val_append a m, Nat.mul_comm, Nat.mul_add_div (Nat.two_pow_pos _), Nat.div_eq_of_lt h2, Nat.add_zero, Nat.mul_comm (val a), Nat.mul_add_mod, Nat.mod_eq_of_lt h1]

/-- Eight bits, filled up. -/
def byte8 (l : List Nat) : Nat := val (l.take 8 ++ List.replicate (8 - l.length) 0)
/-- Bits as bytes, the last filled up. -/
def pk (bs : List Nat) : List Int := (List.range ((bs.length + 7) / 8)).map fun i => (byte8 (bs.drop (8 * i)) : Int)
theorem length_pk (bs : List Nat) : (pk bs).length = (bs.length + 7) / 8 := by simp [pk]

/-- The bit at a place of bytes. -/
def bitAt (zs : List Int) (p : Nat) : Nat := (zs.getD (p / 8) 0).toNat / 2 ^ (7 - p % 8) % 2
/-- The bits of bytes. -/
def unpk (zs : List Int) (p l : Nat) : List Nat := (List.range l).map fun i => bitAt zs (p + i)

theorem byte8_lt (l : List Nat) (h : Bits l) : byte8 l < 256 := by
  unfold byte8
  have hb : Bits (l.take 8 ++ List.replicate (8 - l.length) 0) := by
    intro b hb
    rcases List.mem_append.1 hb with h' | h'
    · exact h b (List.mem_of_mem_take h')
    · have := (List.mem_replicate.1 h').2; omega
  have h1 := val_lt hb
  have h2 : (l.take 8 ++ List.replicate (8 - l.length) 0).length = 8 := by simp; omega
  rw [h2] at h1; exact h1

theorem bitAt_byte (l : List Nat) (h : Bits l) (j : Nat) (hj : j < 8) : byte8 l / 2 ^ (7 - j) % 2 = (l.take 8 ++ List.replicate (8 - l.length) 0)[j]?.getD 0 := by
  unfold byte8
  generalize hL : l.take 8 ++ List.replicate (8 - l.length) 0 = L
  have hlen : L.length = 8 := by rw [← hL]; simp; omega
  have hB : Bits L := by
    rw [← hL]
    intro b hb
    rcases List.mem_append.1 hb with h' | h'
    · exact h b (List.mem_of_mem_take h')
    · have := (List.mem_replicate.1 h').2; omega
  have hsplit : L = L.take j ++ [L[j]'(by omega)] ++ L.drop (j + 1) := by
    rw [List.append_assoc, List.singleton_append, ← List.drop_eq_getElem_cons (by omega), List.take_append_drop]
  have hd : (L.drop (j + 1)).length = 7 - j := by simp; omega
  have := val_part (L.take j) [L[j]'(by omega)] (L.drop (j + 1)) (fun b hb => by
    have : b = L[j]'(by omega) := by simpa using hb
    rw [this]; exact hB _ (List.getElem_mem _)) (fun b hb => hB b (List.mem_of_mem_drop hb))
  rw [← hsplit, hd] at this
  simp only [List.length_singleton, Nat.pow_one] at this
  rw [this, List.getElem?_eq_getElem (by omega)]
  simp [val]

/-- What was put is there. -/
theorem bitAt_pk (bs : List Nat) (h : Bits bs) (p : Nat) (hp : p < 8 * ((bs.length + 7) / 8)) : bitAt (pk bs) p = bs[p]?.getD 0 := by
  unfold bitAt
  have h1 : p / 8 < (bs.length + 7) / 8 := by omega
  have e : (pk bs).getD (p / 8) 0 = (byte8 (bs.drop (8 * (p / 8))) : Int) := by
    rw [List.getD_eq_getElem?_getD]
    simp [pk, h1]
  rw [e, Int.toNat_natCast, bitAt_byte _ (fun b hb => h b (List.mem_of_mem_drop hb)) _ (Nat.mod_lt _ (by decide))]
  by_cases hlt : p < bs.length
  · have e2 : p % 8 < ((bs.drop (8 * (p / 8))).take 8).length := by simp; omega
    rw [List.getElem?_append_left e2, List.getElem?_take_of_lt (Nat.mod_lt _ (by decide)), List.getElem?_drop]
    congr 2; omega
  · have en : bs[p]? = none := List.getElem?_eq_none (by omega)
    rw [en]
    by_cases e2 : p % 8 < ((bs.drop (8 * (p / 8))).take 8).length
    · simp at e2; omega
    · rw [List.getElem?_append_right (by omega), List.getElem?_replicate]
      split <;> rfl

theorem unpk_pk (bs : List Nat) (h : Bits bs) (p l : Nat) (hp : p + l ≤ bs.length) : unpk (pk bs) p l = (bs.drop p).take l := by
  apply List.ext_getElem
  · simp [unpk]; omega
  · intro i h1 h2
    simp only [unpk, List.getElem_map, List.getElem_range, List.getElem_take, List.getElem_drop]
    have h3 : i < l := by simpa [unpk] using h1
    rw [bitAt_pk bs h (p + i) (by omega), List.getElem?_eq_getElem (by omega)]; rfl

theorem length_unpk (zs : List Int) (p l : Nat) : (unpk zs p l).length = l := by simp [unpk]
theorem bits_unpk (zs : List Int) (p l : Nat) : Bits (unpk zs p l) := by
  intro b hb
  simp only [unpk, List.mem_map] at hb
  obtain ⟨i, _, rfl⟩ := hb
  unfold bitAt; omega
theorem unpk_succ (zs : List Int) (p l : Nat) : unpk zs p (l + 1) = unpk zs p l ++ [bitAt zs (p + l)] := by
  simp [unpk, List.range_succ]

end Eng
end Go.Proofs.YtalnkjpgnkfedaaGreatDoor
