/-
  Rules for operations that make memory: make, append, literals, boxes; slices of slices.
-/
import Derived.Test.YtighkjohpmlemaaMem
import Derived.Great.BuildSlice
namespace Go.Proofs.Ytighkjohpmlemaa
open Go.RowKit
namespace Eng

/-- t: a slice type of elements e; z: their zero. -/
structure SlT (t e : TypeId) (z : Value) (size bytes : Nat) : Prop where
  u : Try.prog.underlying t = some (.slice e)
  i : ∃ i, Try.prog.info? e = some i ∧ i.zero = some z ∧ i.size = size ∧ i.bytes = bytes

theorem slT {t e : TypeId} {z : Value} {size bytes : Nat} (hu : Try.prog.underlying t = some (.slice e)) (h : (Try.prog.info? e).map (fun i => (i.zero, i.size, i.bytes)) = some (some z, size, bytes)) : SlT t e z size bytes := by
  refine ⟨hu, ?_⟩
  cases hi : Try.prog.info? e with
  | none => rw [hi] at h; cases h
  | some i =>
    rw [hi] at h
    simp only [Option.map_some, Option.some.injEq, Prod.mk.injEq] at h
    exact ⟨i, rfl, h⟩

theorem Own.form {w : World} {B : Nat} {e : TypeId} {v : Value} {vs : List Value} (h : Own w B e v vs) : ∃ A c, v = .slice A vs.length c ∧ vs.length ≤ c ∧ c ≤ maxLen := by
  obtain ⟨A, c, h1, h2, h3, _⟩ := h.row
  exact ⟨A, c, h1, h2, h3⟩
theorem Own.lt_of {w : World} {B : Nat} {e : TypeId} {v : Value} {vs : List Value} (h : Own w B e v vs) (hn : 0 < vs.length) : ∃ g c, v = .slice (some ⟨g, 0, none⟩) vs.length c ∧ B ≤ g ∧ g < w.heap.size := by
  obtain ⟨g, c, h1, h2, h3⟩ := World.ownsRow.form h hn
  exact ⟨g, c, h1, h2, h3⟩

variable {hs : List Nat} {H : World → Prop} {full : Array Oper} {K : Env → World → Prop} {rest : List Oper} {env : Env} {w : World} {d : Tmp} {dst : Option Tmp} {ty : TypeId} {pos : String} {af : Array Edge}

/-- An operation that changes the world and gives a value. -/
theorem xw {op : Op} {v : Value} {w' : World} (ho : opsOK env ⟨dst, op, ty, pos, af, none⟩ = true) (hc : cls isI isS op = .w) (hr : (execOp (ev env) ⟨dst, op, ty, pos, af, none⟩).run Try.prog w = .ok (.value v) w')
    (h : xs Try.prog isI isS hs H full K rest (put env dst v) w') (hH : H w') : xs Try.prog isI isS hs H full K (⟨dst, op, ty, pos, af, none⟩ :: rest) env w := by
  refine x_gen rfl ho ?_
  have hc' : clsO isI isS hs ⟨dst, op, ty, pos, af, none⟩ = .w := by unfold clsO; rw [hc]
  rw [hc']
  show out Try.prog _ _
  rw [hr]
  exact ⟨hH, h⟩

/-- make, the length and the capacity one number. -/
theorem xmk {t e : TypeId} {z : Value} {bytes : Nat} {x y : Operand} {n : Int} (hT : SlT t e z 1 bytes) (hzc : z.cells = #[z]) (hx : evo env x = some (.int .i64 n)) (hy : evo env y = some (.int .i64 n)) (h0 : 0 ≤ n) (hb : bytes * n.toNat ≤ 281474976710656) (hn : n ≤ 9223372036854775807)
    (h : ∀ w', Blk w' w.heap.size e (Array.replicate n.toNat z) → Ext w w' → w'.heap.size = w.heap.size + 1 → xs Try.prog isI isS hs H full K rest ((d, .slice (some ⟨w.heap.size, 0, none⟩) n.toNat n.toNat) :: env) w') (hH : ∀ w', Ext w w' → H w' := by intros; trivial) :
    xs Try.prog isI isS hs H full K (⟨some d, .makeSlice t x y, ty, pos, af, none⟩ :: rest) env w := by
  obtain ⟨hu, i, hi, hz, hs, hby⟩ := hT
  obtain ⟨m, rfl⟩ := Int.eq_ofNat_of_zero_le h0
  have hr := run_make (P := Try.prog) w t e i z hu hi hz .i64 .i64 m m (by omega) (by omega) (by
    rw [hby]
    simp only [Int.toNat_natCast] at hb
    have hh : ((bytes * m : Nat) : Int) ≤ 281474976710656 := by omega
    rwa [Int.natCast_mul] at hh) (by omega)
  simp only [Int.toNat_natCast] at hr h
  refine xw (by simp [opsOK, Op.operands, hx, hy]) rfl (v := .slice (some ⟨w.heap.size, 0, none⟩) m m) (w' := w.alloc (.cells (Array.replicate m z) e)) ?_ (h _ (Blk.new _ _ _) (Fr.alloc _ _ _) (by simp)) (hH _ (Fr.alloc _ _ _))
  have hm : madeCells z.cells (m * i.size) = Array.replicate m z := by
    rw [hzc, hs, Nat.mul_one]
    apply Array.ext'
    rw [toList_madeCells_one]; simp
  rw [hm] at hr
  simp [execOp, ev_of hx, ev_of hy, hr]

/-- append onto a row of the call's own, of what a slice reads. -/
theorem xap {t e : TypeId} {z : Value} {bytes B m c : Nat} {s x : Operand} {v : Value} {A : Option Addr} {vs news : List Value} (hT : SlT t e z 1 bytes) (hzc : z.cells.size = 1) (hss : evo env s = some v) (hown : Own w B e v vs) (hx : evo env x = some (.slice A m c))
    (hr : Row w (.slice A m c) m news) (hl : news.length = m) (h1 : ∀ u ∈ news, u.oneCell' = true) (h63 : vs.length + m ≤ maxLen) (hbytes : (vs.length + m) * bytes ≤ 140737488355328) (hbase : B ≤ w.heap.size)
    (h : ∀ v' w', Own w' B e v' (vs ++ news) → Fr (fun b => v.ownBlock = some b) w w' → (v'.ownBlock = v.ownBlock ∨ v'.ownBlock = some w.heap.size) → xs Try.prog isI isS hs H full K rest ((d, v') :: env) w') (hH : ∀ w', Fr (fun b => v.ownBlock = some b) w w' → H w' := by intros; trivial) :
    xs Try.prog isI isS hs H full K (⟨some d, .call { callee := .builtin .append, args := ⟨[s, x]⟩, argTypes := ⟨[t, t]⟩ }, ty, pos, af, none⟩ :: rest) env w := by
  obtain ⟨hu, i, hi, hz, hsz, hby⟩ := hT
  have key : ∃ v' w', (Builtin.append_ #[t, t] ty #[v, .slice A m c]).run Try.prog w = .ok v' w' ∧ w'.ownsRow B e 1 v' (vs.length + m) (vs ++ news) ∧ w.grownBy w' v.ownBlock ∧ (v'.ownBlock = v.ownBlock ∨ v'.ownBlock = some w.heap.size) := by
    rcases Nat.eq_zero_or_pos m with h0 | h0
    · subst h0
      have hn : news = [] := List.eq_nil_of_length_eq_zero hl
      subst hn
      refine ⟨v, w, ?_, by unfold Own at hown; simpa using hown, World.grownBy.refl w _, .inl rfl⟩
      rcases hown.2 with ⟨rfl, hv⟩ | ⟨g, cap, cur, rfl, _, _, hnc, _⟩
      · cases A <;> simp [Builtin.append_, run_underlying hu, sizeOf, typeInfo, hi, Builtin.lenOf, Builtin.firstCells, loadCells, loadCellsFrom]
      · cases A <;> simp [Builtin.append_, run_underlying hu, sizeOf, typeInfo, hi, Builtin.lenOf, Builtin.firstCells, hnc, storeCells, loadCells, loadCellsFrom]
    · obtain ⟨A', c', he, hmc, hcm, hA⟩ := hr
      injection he with e1 _ e2
      subst e1; subst e2
      obtain ⟨b, o, rfl, hb, hcell⟩ := hA h0
      obtain ⟨v', w', hrun, h2, h3, _, h5⟩ := run_append_own_at (P := Try.prog) w B t ty e i z 1 bytes hu hi hz hsz hby hzc (by omega) v vs.length vs hown ⟨b, o, none⟩ m c news (by omega) (fun j u hu => by rw [Addr.add_lit]; exact hcell j u hu) h1 h63 hbytes hbase
      exact ⟨v', w', hrun, h2, h3, h5⟩
  obtain ⟨v', w', hrun, h2, h3, h4⟩ := key
  refine xw (by simp [opsOK, Op.operands, Call.operands, hss, hx]) rfl (v := v') (w' := w') ?_ (h v' w' (by unfold Own; rw [List.length_append, hl]; exact h2) (Fr.grown h3 fun k hk _ => hk) h4) (hH _ (Fr.grown h3 fun k hk _ => hk))
  simp [execOp, resolve, invoke, builtin, ev_of hss, ev_of hx, hrun]

/-- A slice literal whose elements are one cell each. -/
def evp (env : Env) : Nat → List (Nat × Operand) → Option (List Value)
  | _, [] => some []
  | k, (j, x) :: r => match Nat.beq j k, evo env x, evp env (k + 1) r with
    | true, some v, some vs => some (v :: vs)
    | _, _, _ => none

theorem evp_spec : ∀ {l : List (Nat × Operand)} {k : Nat} {vs : List Value}, evp env k l = some vs → (l.map fun p => (p.1, ev env p.2)) = (vs.zipIdx k).map (fun p => (p.2, p.1)) ∧ ∀ p ∈ l, (evo env p.2).isSome = true
  | [], k, vs, h => by injection h with h; subst h; exact ⟨rfl, by simp⟩
  | (j, x) :: r, k, vs, h => by
    simp only [evp] at h
    split at h
    · rename_i v vs' hb hv hvs; injection h with h; subst h
      obtain ⟨h1, h2⟩ := evp_spec hvs
      have hj := Nat.eq_of_beq_eq_true hb
      subst hj
      refine ⟨by simp [ev_of hv, h1, List.zipIdx_cons], fun p hp => (List.mem_cons.1 hp).elim (fun e => by rw [e, hv]; rfl) (h2 p)⟩
    · cases h

theorem xbs {t e : TypeId} {z : Value} {bytes n : Nat} {parts : List (Nat × Operand)} {vs : List Value} (hT : SlT t e z 1 bytes) (hp : evp env 0 parts = some vs) (hn : vs.length = n) (h0 : 0 < n) (hn2 : n ≤ 16777216) (h1 : ∀ u ∈ vs, u.oneCell' = true)
    (h : ∀ w', Blk w' w.heap.size e vs.toArray → Ext w w' → w'.heap.size = w.heap.size + 1 → xs Try.prog isI isS hs H full K rest ((d, .slice (some ⟨w.heap.size, 0, none⟩) n n) :: env) w') (hH : ∀ w', Ext w w' → H w' := by intros; trivial) :
    xs Try.prog isI isS hs H full K (⟨some d, .buildSlice t n parts.toArray, ty, pos, af, none⟩ :: rest) env w := by
  obtain ⟨hu, i, hi, hz, hs, hby⟩ := hT
  obtain ⟨he, ho⟩ := evp_spec hp
  refine xw (by simp only [opsOK, Op.operands]; rw [List.all_eq_true]; intro x hx; simp at hx; obtain ⟨j, hj⟩ := hx; exact ho _ hj) rfl (v := .slice (some ⟨w.heap.size, 0, none⟩) n n) (w' := w.alloc (.cells vs.toArray e)) ?_ (h _ (Blk.new _ _ _) (Fr.alloc _ _ _) (by simp)) (hH _ (Fr.alloc _ _ _))
  have hr := run_buildSlice (P := Try.prog) w t e n ((parts.map fun p => (p.1, ev env p.2)).toArray) vs.toArray i z hu hi hz (by rw [hs]; omega) (by rw [hs]; omega) (by
    rw [hs]
    show Instr.fill _ _ (parts.map fun p => (p.1, ev env p.2)) = _
    rw [he]
    exact Great.fill_flat _ _ (fun v hv => by have := h1 v hv; cases v <;> first | rfl | cases this) (by simp [hn]))
  have e2 : (parts.toArray.map fun x => match x with | (i, x) => (i, ev env x)) = (parts.map fun p => (p.1, ev env p.2)).toArray := by simp
  simp only [execOp]
  rw [e2]
  simp [hr]

/-- A new variable that holds a value. -/
theorem xbox {t : TypeId} {x : Operand} {v : Value} (hx : evo env x = some v)
    (h : ∀ w', Blk w' w.heap.size t v.cells → Ext w w' → w'.heap.size = w.heap.size + 1 → xs Try.prog isI isS hs H full K rest ((d, .pointer (some ⟨w.heap.size, 0, none⟩)) :: env) w') (hH : ∀ w', Ext w w' → H w' := by intros; trivial) :
    xs Try.prog isI isS hs H full K (⟨some d, .box t x, ty, pos, af, none⟩ :: rest) env w := by
  refine xw (by simp [opsOK, Op.operands, hx]) rfl (v := .pointer (some ⟨w.heap.size, 0, none⟩)) (w' := w.alloc (.cells v.cells t)) ?_ (h _ (Blk.new _ _ _) (Fr.alloc _ _ _) (by simp)) (hH _ (Fr.alloc _ _ _))
  simp [execOp, ev_of hx, Instr.box, newVar, newRow]

/-- A new variable that holds its type's zero. -/
theorem xalloc {t : TypeId} {z : Value} (hz : ((Try.prog.info? t).bind (·.zero)) = some z)
    (h : ∀ w', Blk w' w.heap.size t z.cells → Ext w w' → w'.heap.size = w.heap.size + 1 → xs Try.prog isI isS hs H full K rest ((d, .pointer (some ⟨w.heap.size, 0, none⟩)) :: env) w') (hH : ∀ w', Ext w w' → H w' := by intros; trivial) :
    xs Try.prog isI isS hs H full K (⟨some d, .alloc t, ty, pos, af, none⟩ :: rest) env w := by
  refine xw (by simp [opsOK, Op.operands]) rfl (v := .pointer (some ⟨w.heap.size, 0, none⟩)) (w' := w.alloc (.cells z.cells t)) ?_ (h _ (Blk.new _ _ _) (Fr.alloc _ _ _) (by simp)) (hH _ (Fr.alloc _ _ _))
  cases hi : Try.prog.info? t with
  | none => rw [hi] at hz; cases hz
  | some i =>
    rw [hi] at hz
    simp only [Option.bind_some] at hz
    simp [execOp, Instr.alloc, zeroValue, typeInfo, hi, hz, newVar, newRow]

/-- A struct out of its parts. -/
def evq (env : Env) : List (Nat × Operand) → Option (List (Nat × Value))
  | [] => some []
  | (j, x) :: r => match evo env x, evq env r with
    | some v, some vs => some ((j, v) :: vs)
    | _, _ => none
theorem evq_spec : ∀ {l : List (Nat × Operand)} {vs : List (Nat × Value)}, evq env l = some vs → (l.map fun p => (p.1, ev env p.2)) = vs ∧ ∀ p ∈ l, (evo env p.2).isSome = true
  | [], vs, h => by injection h with h; subst h; exact ⟨rfl, by simp⟩
  | (j, x) :: r, vs, h => by
    simp only [evq] at h
    split at h
    · rename_i v vs' hv hvs; injection h with h; subst h
      obtain ⟨h1, h2⟩ := evq_spec hvs
      exact ⟨by simp [ev_of hv, h1], fun p hp => (List.mem_cons.1 hp).elim (fun e => by rw [e, hv]; rfl) (h2 p)⟩
    · cases h
theorem xbd {t : TypeId} {parts : List (Nat × Operand)} {vs : List (Nat × Value)} {cells : Array Value} (hp : evq env parts = some vs) (hb : Try.prog.built t vs = some cells)
    (h : xs Try.prog isI isS hs H full K rest ((d, .agg cells) :: env) w) : xs Try.prog isI isS hs H full K (⟨some d, .build t parts.toArray, ty, pos, af, none⟩ :: rest) env w := by
  obtain ⟨he, ho⟩ := evq_spec hp
  refine x_gen rfl (by simp only [opsOK, Op.operands]; rw [List.all_eq_true]; intro x hx; simp at hx; obtain ⟨j, hj⟩ := hx; exact ho _ hj) ⟨.agg cells, fun w' => ?_, h⟩
  have hr := run_build (P := Try.prog) w' t ((parts.map fun p => (p.1, ev env p.2)).toArray) cells (by show Try.prog.built t (parts.map fun p => (p.1, ev env p.2)) = _; rw [he]; exact hb)
  have e2 : (parts.toArray.map fun x => match x with | (i, x) => (i, ev env x)) = (parts.map fun p => (p.1, ev env p.2)).toArray := by simp
  simp only [execOp]
  rw [e2]
  simp [hr]

/-- A slice of a slice. -/
theorem run_sl {t : TypeId} {e : TypeId} {i : TypeInfo} {A : Option Addr} {n c : Nat} {lo hi : Option Value} {l h : Nat} (hu : Try.prog.underlying t = some (.slice e)) (hie : Try.prog.info? e = some i)
    (hl : lo = none ∧ l = 0 ∨ ∃ k, lo = some (.int k (l : Int))) (hh : hi = none ∧ h = n ∨ ∃ k, hi = some (.int k (h : Int))) (h1 : l ≤ h) (h2 : h ≤ c) (w : World) :
    (Instr.sliceAt t (.slice A n c) lo hi none).run Try.prog w = .ok (.slice (if c = l then A else A.map (·.add (l * i.size))) (h - l) (c - l)) w := by
  rcases hl with ⟨rfl, rfl⟩ | ⟨k, rfl⟩ <;> rcases hh with ⟨rfl, rfl⟩ | ⟨k', rfl⟩ <;>
    simp [Instr.sliceAt, Instr.slice, run_underlying hu, Instr.sliceBounds, Instr.sliceBound, asIntOf, sizeOf, typeInfo, hie] <;> (first | omega | skip)
  rw [if_pos h2, if_pos h1]

/-- x[lo:hi]. -/
theorem xsl2 {t : TypeId} {x lo hi : Operand} {k k' : IntKind} {A : Option Addr} {n c z : Nat} {l h : Int} (hz : es t = some z) (hx : evo env x = some (.slice A n c)) (hlo : evo env lo = some (.int k l)) (hhi : evo env hi = some (.int k' h)) (h0 : 0 ≤ l) (h1 : l ≤ h) (h2 : h ≤ c)
    (hc : ∀ A', (∀ b o, A = some ⟨b, o, none⟩ → l < c → A' = some ⟨b, o + l.toNat * z, none⟩) → xs Try.prog isI isS hs H full K rest ((d, .slice A' (h.toNat - l.toNat) (c - l.toNat)) :: env) w) :
    xs Try.prog isI isS hs H full K (⟨some d, .slice t x (some lo) (some hi) none, ty, pos, af, none⟩ :: rest) env w := by
  obtain ⟨e, i, hu, hi', hsz⟩ := es_spec hz
  obtain ⟨l, rfl⟩ := Int.eq_ofNat_of_zero_le h0
  obtain ⟨h, rfl⟩ := Int.eq_ofNat_of_zero_le (Int.le_trans h0 h1)
  refine x_gen rfl (by simp [opsOK, Op.operands, hx, hlo, hhi]) ⟨_, fun w' => ?_, hc (if c = l then A else A.map (·.add (l * i.size))) (fun b o hA hlt => ?_)⟩
  · have := run_sl (A := A) (n := n) (c := c) (lo := some (.int k l)) (hi := some (.int k' h)) (l := l) (h := h) hu hi' (.inr ⟨k, rfl⟩) (.inr ⟨k', rfl⟩) (by omega) (by omega) w'
    simp [execOp, ev_of hx, ev_of hlo, ev_of hhi, this]
  · rw [if_neg (by omega), hA, hsz]
    simp [Addr.add_lit]
/-- x[lo:]. -/
theorem xsl1 {t : TypeId} {x lo : Operand} {k : IntKind} {A : Option Addr} {n c z : Nat} {l : Int} (hz : es t = some z) (hx : evo env x = some (.slice A n c)) (hlo : evo env lo = some (.int k l)) (h0 : 0 ≤ l) (h1 : l ≤ n) (h2 : n ≤ c)
    (hc : ∀ A', (∀ b o, A = some ⟨b, o, none⟩ → l < c → A' = some ⟨b, o + l.toNat * z, none⟩) → xs Try.prog isI isS hs H full K rest ((d, .slice A' (n - l.toNat) (c - l.toNat)) :: env) w) :
    xs Try.prog isI isS hs H full K (⟨some d, .slice t x (some lo) none none, ty, pos, af, none⟩ :: rest) env w := by
  obtain ⟨e, i, hu, hi', hsz⟩ := es_spec hz
  obtain ⟨l, rfl⟩ := Int.eq_ofNat_of_zero_le h0
  refine x_gen rfl (by simp [opsOK, Op.operands, hx, hlo]) ⟨_, fun w' => ?_, hc (if c = l then A else A.map (·.add (l * i.size))) (fun b o hA hlt => ?_)⟩
  · have := run_sl (A := A) (n := n) (c := c) (lo := some (.int k l)) (hi := none) (l := l) (h := n) hu hi' (.inr ⟨k, rfl⟩) (.inl ⟨rfl, rfl⟩) (by omega) (by omega) w'
    simp [execOp, ev_of hx, ev_of hlo, this]
  · rw [if_neg (by omega), hA, hsz]
    simp [Addr.add_lit]
/-- x[:hi]. -/
theorem xsl0 {t : TypeId} {x hi : Operand} {k' : IntKind} {A : Option Addr} {n c z : Nat} {h : Int} (hz : es t = some z) (hx : evo env x = some (.slice A n c)) (hhi : evo env hi = some (.int k' h)) (h1 : 0 ≤ h) (h2 : h ≤ c)
    (hc : ∀ A', (∀ b o, A = some ⟨b, o, none⟩ → 0 < c → A' = some ⟨b, o, none⟩) → xs Try.prog isI isS hs H full K rest ((d, .slice A' h.toNat c) :: env) w) :
    xs Try.prog isI isS hs H full K (⟨some d, .slice t x none (some hi) none, ty, pos, af, none⟩ :: rest) env w := by
  obtain ⟨e, i, hu, hi', hsz⟩ := es_spec hz
  obtain ⟨h, rfl⟩ := Int.eq_ofNat_of_zero_le h1
  refine x_gen rfl (by simp [opsOK, Op.operands, hx, hhi]) ⟨_, fun w' => ?_, hc (if c = 0 then A else A.map (·.add (0 * i.size))) (fun b o hA hlt => ?_)⟩
  · have := run_sl (A := A) (n := n) (c := c) (lo := none) (hi := some (.int k' h)) (l := 0) (h := h) hu hi' (.inl ⟨rfl, rfl⟩) (.inr ⟨k', rfl⟩) (by omega) (by omega) w'
    simp [execOp, ev_of hx, ev_of hhi, this]
  · rw [if_neg (by omega), hA]
    simp [Addr.add_lit]

end Eng
end Go.Proofs.Ytighkjohpmlemaa
