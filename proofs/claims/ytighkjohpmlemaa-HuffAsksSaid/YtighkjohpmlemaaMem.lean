/-
  Words for memory: what a call leaves alone; blocks that are known whole; slices that read as lists; more rules for operations.
-/
import Derived.Test.YtighkjohpmlemaaEngC
import Derived.Laws.OwnMore
import Derived.Laws.MakeOwn
import Derived.Deep.Draws
import Derived.Deep.AppendLies
import Derived.Maps.AppendAt
namespace Go.Proofs.Ytighkjohpmlemaa
open Go.RowKit
namespace Eng

/-- All blocks that were there, but for those in S, are as they were. -/
structure Fr (S : Nat → Prop) (w w' : World) : Prop where
  os : w'.os = w.os
  tape : w'.tape = w.tape
  output : w'.output = w.output
  size : w.heap.size ≤ w'.heap.size
  block : ∀ k, k < w.heap.size → ¬ S k → w'.heap[k]? = w.heap[k]?

def noneB : Nat → Prop := fun _ => False
/-- Nothing that was there has changed. -/
abbrev Ext := Fr noneB

theorem Fr.refl (S : Nat → Prop) (w : World) : Fr S w w := ⟨rfl, rfl, rfl, Nat.le_refl _, fun _ _ _ => rfl⟩
theorem Fr.mono {S S' : Nat → Prop} {w w' : World} (h : Fr S w w') (hs : ∀ k, k < w.heap.size → S k → S' k) : Fr S' w w' := ⟨h.os, h.tape, h.output, h.size, fun k hk hn => h.block k hk fun hS => hn (hs k hk hS)⟩
theorem Fr.trans {S S' : Nat → Prop} {a b c : World} (h : Fr S a b) (k : Fr S' b c) (hs : ∀ j, j < a.heap.size → S' j → S j) : Fr S a c :=
  ⟨k.os.trans h.os, k.tape.trans h.tape, k.output.trans h.output, Nat.le_trans h.size k.size, fun i hi hn => (k.block i (Nat.lt_of_lt_of_le hi h.size) (fun hS => hn (hs i hi hS))).trans (h.block i hi hn)⟩
theorem Fr.t {S : Nat → Prop} {a b c : World} (h : Fr S a b) (k : Fr S b c) : Fr S a c := h.trans k fun _ _ hh => hh
/-- Behind a call that changes nothing. -/
theorem Fr.te {S : Nat → Prop} {a b c : World} (h : Fr S a b) (k : Ext b c) : Fr S a c := h.trans k fun _ _ hh => hh.elim
theorem Ext.te {S : Nat → Prop} {a b c : World} (h : Ext a b) (k : Fr S b c) (hs : ∀ j, j < a.heap.size → ¬ S j) : Ext a c := h.trans k fun j hj hS => absurd hS (hs j hj)
theorem Ext.fr {S : Nat → Prop} {a b : World} (h : Ext a b) : Fr S a b := h.mono fun _ _ hh => hh.elim
theorem Fr.drew (S : Nat → Prop) (w : World) : Fr S w w.drew := ⟨rfl, rfl, rfl, Nat.le_refl _, fun _ _ _ => rfl⟩
theorem Fr.d {S : Nat → Prop} {a b : World} (h : Fr S a b) : Fr S a b.drew := h.t (Fr.drew S b)
theorem Fr.alloc (S : Nat → Prop) (w : World) (o : Obj) : Fr S w (w.alloc o) := ⟨rfl, rfl, rfl, by simp, fun k hk _ => Below.heap_alloc w o k hk⟩
theorem Fr.setCell (S : Nat → Prop) (w : World) (p : Addr) (u : Value) (h : p.block < w.heap.size → S p.block) : Fr S w (w.setCell p u) :=
  ⟨rfl, rfl, rfl, by simp, fun k hk hn => Below.heap_setCell w p u k fun e => hn (by subst e; exact h hk)⟩
theorem Fr.grown {S : Nat → Prop} {w w' : World} {row : Option Nat} (h : w.grownBy w' row) (hr : ∀ k, row = some k → k < w.heap.size → S k) : Fr S w w' :=
  ⟨h.os, h.tape, h.output, h.size, fun k hk hn => h.block k hk fun e => hn (hr k e.symm hk)⟩
theorem Ext.below {w w' : World} (h : Ext w w') : Below w.heap.size w w' := ⟨h.os, h.tape, h.output, h.size, fun k hk => h.block k hk fun hh => hh⟩

theorem Fr.cell {S : Nat → Prop} {w w' : World} (h : Fr S w w') {p : Addr} {v : Value} (hc : w.cell? p = some v) (hS : ¬ S p.block) : w'.cell? p = some v :=
  (World.cell?_of_block (w := w) (h.block p.block (World.block_lt_of_cell? w p hc) hS)).trans hc
theorem Ext.cell {w w' : World} (h : Ext w w') {p : Addr} {v : Value} (hc : w.cell? p = some v) : w'.cell? p = some v := Fr.cell h hc fun hh => hh

/-- A block that is known whole. -/
def Blk (w : World) (g : Nat) (t : TypeId) (cs : Array Value) : Prop := w.heap[g]? = some (.cells cs t (0, 0))

section
variable {w w' : World} {g : Nat} {t : TypeId} {cs : Array Value}
theorem Blk.lt (h : Blk w g t cs) : g < w.heap.size := by
  rcases Nat.lt_or_ge g w.heap.size with hlt | hge
  · exact hlt
  · unfold Blk at h; rw [Array.getElem?_eq_none hge] at h; cases h
theorem Blk.cell (h : Blk w g t cs) (i : Nat) : w.cell? ⟨g, i, none⟩ = cs[i]? := by
  unfold Blk at h
  simp [World.cell?, h]
theorem Blk.frozen (h : Blk w g t cs) (i : Nat) : w.frozen? ⟨g, i, none⟩ = false := by
  unfold Blk at h
  simp [World.frozen?, h]
theorem Blk.new (w : World) (t : TypeId) (cs : Array Value) : Blk (w.alloc (.cells cs t)) w.heap.size t cs := by
  show (w.heap.push _)[w.heap.size]? = _
  simp
theorem Blk.drew (h : Blk w g t cs) : Blk w.drew g t cs := h
theorem Blk.set_ (h : Blk w g t cs) (i : Nat) (u : Value) : Blk (w.setCell ⟨g, i, none⟩ u) g t (cs.setIfInBounds i u) := by
  unfold Blk at h ⊢
  simp [World.setCell, Array.getElem?_modify, h]
theorem Blk.fr {S : Nat → Prop} (h : Blk w g t cs) (hf : Fr S w w') (hS : ¬ S g) : Blk w' g t cs := (hf.block g h.lt hS).trans h
theorem Blk.ext (h : Blk w g t cs) (hf : Ext w w') : Blk w' g t cs := h.fr hf fun hh => hh
theorem Blk.ne_ {g' : Nat} {t' : TypeId} {cs' : Array Value} (h : Blk w g t cs) (h' : Blk w g' t' cs') (hne : t ≠ t') : g ≠ g' := by
  rintro rfl
  unfold Blk at h h'
  rw [h] at h'
  injection h' with h'
  injection h' with _ ht
  exact hne ht
end

/-- A slice that reads as these cells. -/
def Row (w : World) (v : Value) (n : Nat) (vs : List Value) : Prop :=
  ∃ A c, v = .slice A n c ∧ n ≤ c ∧ c ≤ maxLen ∧ (0 < n → ∃ b o, A = some ⟨b, o, none⟩ ∧ b < w.heap.size ∧ ∀ j u, vs[j]? = some u → w.cell? ⟨b, o + j, none⟩ = some u)

theorem Row.fr {S : Nat → Prop} {w w' : World} {v : Value} {n : Nat} {vs : List Value} (h : Row w v n vs) (hf : Fr S w w') (hS : ∀ b, v.ownBlock = some b → ¬ S b) : Row w' v n vs := by
  obtain ⟨A, c, rfl, h1, h2, h3⟩ := h
  refine ⟨A, c, rfl, h1, h2, fun hn => ?_⟩
  obtain ⟨b, o, rfl, hb, hc⟩ := h3 hn
  exact ⟨b, o, rfl, Nat.lt_of_lt_of_le hb hf.size, fun j u hu => hf.cell (hc j u hu) (hS b rfl)⟩
theorem Row.ext {w w' : World} {v : Value} {n : Nat} {vs : List Value} (h : Row w v n vs) (hf : Ext w w') : Row w' v n vs := h.fr hf fun _ _ hh => hh

/-- A slice of ints. -/
def IRow (w : World) (v : Value) (zs : List Int) : Prop := Row w v zs.length (zs.map (Value.int .i64))
/-- A slice of uints. -/
def URow (w : World) (v : Value) (zs : List Int) : Prop := Row w v zs.length (zs.map (Value.int .u64))
/-- A slice of bytes. -/
def BRow (w : World) (v : Value) (zs : List Int) : Prop := Row w v zs.length (zs.map (Value.int .u8))

theorem IRow.ext {w w' : World} {v : Value} {zs : List Int} (h : IRow w v zs) (hf : Ext w w') : IRow w' v zs := Row.ext h hf
theorem IRow.fr {S : Nat → Prop} {w w' : World} {v : Value} {zs : List Int} (h : IRow w v zs) (hf : Fr S w w') (hS : ∀ b, v.ownBlock = some b → ¬ S b) : IRow w' v zs := Row.fr h hf hS
theorem BRow.ext {w w' : World} {v : Value} {zs : List Int} (h : BRow w v zs) (hf : Ext w w') : BRow w' v zs := Row.ext h hf
theorem BRow.fr {S : Nat → Prop} {w w' : World} {v : Value} {zs : List Int} (h : BRow w v zs) (hf : Fr S w w') (hS : ∀ b, v.ownBlock = some b → ¬ S b) : BRow w' v zs := Row.fr h hf hS

theorem at_row {k : IntKind} {w : World} {A : Option Addr} {zs : List Int} (hA : 0 < zs.length → ∃ b o, A = some ⟨b, o, none⟩ ∧ b < w.heap.size ∧ ∀ j u, (zs.map (Value.int k))[j]? = some u → w.cell? ⟨b, o + j, none⟩ = some u) {i : Nat} (hi : i < zs.length) :
    ∃ b o z, A = some ⟨b, o, none⟩ ∧ b < w.heap.size ∧ zs[i]? = some z ∧ w.cell? ⟨b, o + i, none⟩ = some (.int k z) ∧ zs.drop i = z :: zs.drop (i + 1) := by
  obtain ⟨b, o, e, hb, hc⟩ := hA (by omega)
  exact ⟨b, o, zs[i], e, hb, List.getElem?_eq_getElem hi, hc i _ (by simp [hi]), List.drop_eq_getElem_cons hi⟩

/-- A row of the call's own. -/
def Own (w : World) (B : Nat) (e : TypeId) (v : Value) (vs : List Value) : Prop := w.ownsRow B e 1 v vs.length vs

theorem Own.row {w : World} {B : Nat} {e : TypeId} {v : Value} {vs : List Value} (h : Own w B e v vs) : Row w v vs.length vs := by
  obtain ⟨h1, h2⟩ := h
  rcases h2 with ⟨rfl, hn⟩ | ⟨g, cap, cur, rfl, hg, hh, h3, h4, h5, h6⟩
  · rw [hn]; exact ⟨none, 0, rfl, Nat.le_refl _, by unfold maxLen; omega, fun hh => absurd hh (by omega)⟩
  · have hlt : g < w.heap.size := Blk.lt (t := e) (cs := cur) hh
    refine ⟨some ⟨g, 0, none⟩, cap, rfl, h3, h4, fun _ => ⟨g, 0, rfl, hlt, fun j u hu => ?_⟩⟩
    rw [Nat.zero_add]
    have := Blk.cell (t := e) (cs := cur) hh j
    rw [this]
    have hj : j < vs.length := (List.getElem?_eq_some_iff.1 hu).1
    rw [← h6, List.getElem?_take_of_lt (by omega)] at hu
    simpa using hu
theorem Own.nil (w : World) (B : Nat) (e : TypeId) : Own w B e (.slice none 0 0) [] := World.ownsRow_nil w B e 1
theorem Own.fr {S : Nat → Prop} {w w' : World} {B : Nat} {e : TypeId} {v : Value} {vs : List Value} (h : Own w B e v vs) (hf : Fr S w w') (hS : ∀ b, v.ownBlock = some b → ¬ S b) : Own w' B e v vs := by
  obtain ⟨h1, h2⟩ := h
  refine ⟨h1, ?_⟩
  rcases h2 with h2 | ⟨g, cap, cur, rfl, hg, hh, r⟩
  · exact .inl h2
  · exact .inr ⟨g, cap, cur, rfl, hg, Blk.fr (t := e) (cs := cur) hh hf (hS g rfl), r⟩
theorem Own.ext {w w' : World} {B : Nat} {e : TypeId} {v : Value} {vs : List Value} (h : Own w B e v vs) (hf : Ext w w') : Own w' B e v vs := h.fr hf fun _ _ hh => hh
theorem Own.blk {w : World} {B : Nat} {e : TypeId} {v : Value} {vs : List Value} (h : Own w B e v vs) {b : Nat} (hb : v.ownBlock = some b) : B ≤ b ∧ b < w.heap.size := World.ownsRow.lt h b hb
theorem Own.mono {w : World} {B B' : Nat} {e : TypeId} {v : Value} {vs : List Value} (h : Own w B e v vs) (hB : B' ≤ B) : Own w B' e v vs := by
  obtain ⟨h1, h2⟩ := h
  refine ⟨h1, ?_⟩
  rcases h2 with h2 | ⟨g, cap, cur, rfl, hg, r⟩
  · exact .inl h2
  · exact .inr ⟨g, cap, cur, rfl, by omega, r⟩

variable {hs : List Nat} {H : World → Prop} {full : Array Oper} {K : Env → World → Prop} {rest : List Oper} {env : Env} {w : World} {d : Tmp} {dst : Option Tmp} {ty : TypeId} {pos : String} {af : Array Edge}

theorem xix1 {t : TypeId} {x i : Operand} {k : IntKind} {b o n c : Nat} {j : Int} (hx : evo env x = some (.slice (some ⟨b, o, none⟩) n c)) (hi : evo env i = some (.int k j)) (hz : es t = some 1) (h0 : 0 ≤ j) (h1 : j < n)
    (h : xs Try.prog isI isS hs H full K rest ((d, .pointer (some ⟨b, o + j.toNat, none⟩)) :: env) w) : xs Try.prog isI isS hs H full K (⟨some d, .indexAddr t x i, ty, pos, af, none⟩ :: rest) env w :=
  xix hx hi hz h0 h1 (by rw [Nat.mul_one]; exact h)
theorem xixn {t : TypeId} {x i : Operand} {k : IntKind} {b o n c j : Nat} (hx : evo env x = some (.slice (some ⟨b, o, none⟩) n c)) (hi : evo env i = some (.int k (j : Int))) (hz : es t = some 1) (h1 : j < n)
    (h : xs Try.prog isI isS hs H full K rest ((d, .pointer (some ⟨b, o + j, none⟩)) :: env) w) : xs Try.prog isI isS hs H full K (⟨some d, .indexAddr t x i, ty, pos, af, none⟩ :: rest) env w :=
  xix1 hx hi hz (by omega) (by omega) h

/-- A store into a block that is known whole. -/
theorem xstb {t bt : TypeId} {x y : Operand} {g i : Nat} {cs : Array Value} {v : Value} (hB : Blk w g bt cs) (hx : evo env x = some (.pointer (some ⟨g, i, none⟩))) (hy : evo env y = some v) (ht : one t = true) (hv : v.oneCell' = true) (hi : decide (i < cs.size) = true)
    (h : ∀ w', Blk w' g bt (cs.setIfInBounds i v) → Fr (· = g) w w' → xs Try.prog isI isS hs H full K rest env w') (hH : ∀ w', Fr (· = g) w w' → H w' := by intros; trivial) : xs Try.prog isI isS hs H full K (⟨none, .store t x y, ty, pos, af, none⟩ :: rest) env w := by
  have hlt : i < cs.size := by simpa using hi
  have hc : w.cell? ⟨g, i, none⟩ = some cs[i] := by rw [hB.cell]; simp [hlt]
  exact xst hx hy ht hv hc (hB.frozen i) (h _ (hB.set_ i v) (Fr.setCell _ w _ v fun _ => rfl)) (hH _ (Fr.setCell _ w _ v fun _ => rfl))

/-- Shifts. -/
theorem xshl {t yt : TypeId} {x y : Operand} {k yk : IntKind} {a b r : Int} (hx : evo env x = some (.int k a)) (hy : evo env y = some (.int yk b)) (h0 : 0 ≤ b) (h1 : b ≤ k.bits) (hr : k.wrap (a * 2 ^ b.toNat) = r)
    (h : xs Try.prog isI isS hs H full K rest ((d, .int k r) :: env) w) : xs Try.prog isI isS hs H full K (⟨some d, .binOp .shl t x y yt, ty, pos, af, none⟩ :: rest) env w := by
  refine x_bin hx hy (eqGuard_at_int ..) (fun w' => ?_) h
  rw [binOp_shl, shift_shl k yk a b h0 h1, hr]; simp
theorem xshr {t yt : TypeId} {x y : Operand} {k yk : IntKind} {a b : Int} (hx : evo env x = some (.int k a)) (hy : evo env y = some (.int yk b)) (h0 : 0 ≤ b) (h1 : b ≤ k.bits)
    (h : xs Try.prog isI isS hs H full K rest ((d, .int k (a / 2 ^ b.toNat)) :: env) w) : xs Try.prog isI isS hs H full K (⟨some d, .binOp .shr t x y yt, ty, pos, af, none⟩ :: rest) env w := by
  refine x_bin hx hy (eqGuard_at_int ..) (fun w' => ?_) h
  rw [binOp_shr, shift_shr k yk a b h0 h1]; simp
/-- and, or, xor, and not. -/
theorem xbits {op : BinOp} {t yt : TypeId} {x y : Operand} {k : IntKind} {a b r : Int} (hx : evo env x = some (.int k a)) (hy : evo env y = some (.int k b)) (ho : op = .and ∨ op = .or ∨ op = .xor) (hr : bits op k a b = r)
    (h : xs Try.prog isI isS hs H full K rest ((d, .int k r) :: env) w) : xs Try.prog isI isS hs H full K (⟨some d, .binOp op t x y yt, ty, pos, af, none⟩ :: rest) env w := by
  refine x_bin hx hy (eqGuard_at_int ..) (fun w' => ?_) h
  subst hr
  rcases ho with rfl | rfl | rfl
  · rw [binOp_and, intBits_and]; simp
  · rw [binOp_or, intBits_or]; simp
  · rw [binOp_xor, intBits_xor]; simp

/-- The lesser and the greater of two integers. -/
theorem xmin {x y : Operand} {t u : TypeId} {k : IntKind} {a b : Int} (hx : evo env x = some (.int k a)) (hy : evo env y = some (.int k b))
    (h : xs Try.prog isI isS hs H full K rest ((d, .int k (min a b)) :: env) w) : xs Try.prog isI isS hs H full K (⟨some d, .call { callee := .builtin .min, args := ⟨[x, y]⟩, argTypes := ⟨[t, u]⟩ }, ty, pos, af, none⟩ :: rest) env w := by
  refine x_gen rfl (by simp [opsOK, Op.operands, Call.operands, hx, hy]) ⟨_, fun w' => ?_, h⟩
  have e : (if b < a then b else a) = min a b := by omega
  simp [execOp, resolve, invoke, builtin, ev_of hx, ev_of hy, Builtin.min_, Builtin.min2, e]
theorem xmax {x y : Operand} {t u : TypeId} {k : IntKind} {a b : Int} (hx : evo env x = some (.int k a)) (hy : evo env y = some (.int k b))
    (h : xs Try.prog isI isS hs H full K rest ((d, .int k (max a b)) :: env) w) : xs Try.prog isI isS hs H full K (⟨some d, .call { callee := .builtin .max, args := ⟨[x, y]⟩, argTypes := ⟨[t, u]⟩ }, ty, pos, af, none⟩ :: rest) env w := by
  refine x_gen rfl (by simp [opsOK, Op.operands, Call.operands, hx, hy]) ⟨_, fun w' => ?_, h⟩
  have e : (if b > a then b else a) = max a b := by omega
  simp [execOp, resolve, invoke, builtin, ev_of hx, ev_of hy, Builtin.max_, Builtin.max2, e]

/-- Powers of two. -/
def p2 (b : Int) : Int := 2 ^ b.toNat
theorem p2_pos (b : Int) : 1 ≤ p2 b := by
  have : (0 : Int) < 2 ^ b.toNat := Int.pow_pos (by decide)
  unfold p2; omega
theorem p2_le {b : Int} {k : Nat} (hb : b ≤ k) : p2 b ≤ 2 ^ k := by
  unfold p2
  have h1 : b.toNat ≤ k := by omega
  have : (2 : Nat) ^ b.toNat ≤ 2 ^ k := Nat.pow_le_pow_right (by decide) h1
  exact_mod_cast this

end Eng
end Go.Proofs.Ytighkjohpmlemaa
