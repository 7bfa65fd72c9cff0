/-
  Slices whose elements take more than one cell: reading, appending, literals; structs loaded out of the middle of a block.
-/
import Derived.Test.YtalnkjpgnkfedaaGreatDoorMem
import Derived.Test.YtalnkjpgnkfedaaGreatDoorEngE
import Derived.Great.FillDense
namespace Go.Proofs.YtalnkjpgnkfedaaGreatDoor
open Go.RowKit
namespace Eng

/-- A row of the call's own, n elements of z cells each; vs: all cells, end to end. -/
def OwnZ (w : World) (B : Nat) (e : TypeId) (z : Nat) (v : Value) (n : Nat) (vs : List Value) : Prop := w.ownsRow B e z v n vs

section
variable {w w' : World} {B : Nat} {e : TypeId} {z n : Nat} {v : Value} {vs : List Value}
theorem OwnZ.len (h : OwnZ w B e z v n vs) : vs.length = n * z := h.1
theorem OwnZ.row (h : OwnZ w B e z v n vs) : Row w v n vs := by
  obtain ⟨h1, h2⟩ := h
  rcases h2 with ⟨rfl, hn⟩ | ⟨g, cap, cur, rfl, hg, hh, h3, h4, h5, h6⟩
  · rw [hn]; exact ⟨none, 0, rfl, Nat.le_refl _, by unfold maxLen; omega, fun hh => absurd hh (by omega)⟩
  · have hlt : g < w.heap.size := Blk.lt (t := e) (cs := cur) hh
    refine ⟨some ⟨g, 0, none⟩, cap, rfl, h3, h4, fun _ => ⟨g, 0, rfl, hlt, fun j u hu => ?_⟩⟩
    rw [Nat.zero_add]
    have := Blk.cell (t := e) (cs := cur) hh j
    rw [this]
    have hj : j < vs.length := (List.getElem?_eq_some_iff.1 hu).1
    rw [← h6, List.getElem?_take_of_lt (by omega)] at hu
    simpa using hu
theorem OwnZ.nil (w : World) (B : Nat) (e : TypeId) (z : Nat) : OwnZ w B e z (.slice none 0 0) 0 [] := World.ownsRow_nil w B e z
theorem OwnZ.fr {S : Nat → Prop} (h : OwnZ w B e z v n vs) (hf : Fr S w w') (hS : ∀ b, v.ownBlock = some b → ¬ S b) : OwnZ w' B e z v n vs := by
  obtain ⟨h1, h2⟩ := h
  refine ⟨h1, ?_⟩
  rcases h2 with h2 | ⟨g, cap, cur, rfl, hg, hh, r⟩
  · exact .inl h2
  · exact .inr ⟨g, cap, cur, rfl, hg, Blk.fr (t := e) (cs := cur) hh hf (hS g rfl), r⟩
theorem OwnZ.ext (h : OwnZ w B e z v n vs) (hf : Ext w w') : OwnZ w' B e z v n vs := h.fr hf fun _ _ hh => hh
theorem OwnZ.blk (h : OwnZ w B e z v n vs) {b : Nat} (hb : v.ownBlock = some b) : B ≤ b ∧ b < w.heap.size := World.ownsRow.lt h b hb
theorem OwnZ.mono {B' : Nat} (h : OwnZ w B e z v n vs) (hB : B' ≤ B) : OwnZ w B' e z v n vs := by
  obtain ⟨h1, h2⟩ := h
  refine ⟨h1, ?_⟩
  rcases h2 with h2 | ⟨g, cap, cur, rfl, hg, r⟩
  · exact .inl h2
  · exact .inr ⟨g, cap, cur, rfl, by omega, r⟩
theorem OwnZ.form (h : OwnZ w B e z v n vs) : ∃ A c, v = .slice A n c ∧ n ≤ c ∧ c ≤ 9223372036854775807 := by
  obtain ⟨A, c, h1, h2, h3, _⟩ := h.row
  exact ⟨A, c, h1, h2, h3⟩
/-- The block of a row that is not empty, and its cells. -/
theorem OwnZ.go (h : OwnZ w B e z v n vs) (h0 : 0 < n) : ∃ g c, v = .slice (some ⟨g, 0, none⟩) n c ∧ B ≤ g ∧ g < w.heap.size ∧ n ≤ c ∧ c ≤ 9223372036854775807 ∧ ∀ j u, vs[j]? = some u → w.cell? ⟨g, j, none⟩ = some u := by
  obtain ⟨A, c, rfl, h1, h2, hA⟩ := h.row
  obtain ⟨b, o, rfl, hb, hc⟩ := hA h0
  obtain ⟨_, h4⟩ := h
  rcases h4 with ⟨e1, _⟩ | ⟨g, cap, cur, e1, hg, hh, r⟩
  · cases e1
  · injection e1 with e1 _ e2
    injection e1 with e1
    injection e1 with e1 e3
    subst e1; subst e2; subst e3
    exact ⟨b, c, rfl, hg, hb, h1, h2, fun j u hu => by have := hc j u hu; rwa [Nat.zero_add] at this⟩
end

theorem ld_cells {P : Program} {w : World} {b o : Nat} : ∀ (n i : Nat) (acc : Array Value) (cs : List Value), cs.length = n → (∀ j u, cs[j]? = some u → w.cell? ⟨b, o + (i + j), none⟩ = some u) →
    (loadCellsFrom ⟨b, o, none⟩ i n acc).run P w = .ok (acc ++ cs.toArray) w
  | 0, i, acc, cs, hl, _ => by
    obtain rfl : cs = [] := List.eq_nil_of_length_eq_zero hl
    simp [loadCellsFrom]
  | n + 1, i, acc, [], hl, _ => by simp at hl
  | n + 1, i, acc, c :: cs, hl, h => by
    have h0 : w.cell? ⟨b, o + i, none⟩ = some c := by simpa using h 0 c rfl
    have ih := ld_cells (P := P) (w := w) (b := b) (o := o) n (i + 1) (acc.push c) cs (by simpa using hl) (fun j u hu => by
      have := h (j + 1) u (by simpa using hu)
      rwa [show i + (j + 1) = i + 1 + j from by omega] at this)
    have hl0 : (load (Addr.add ⟨b, o, none⟩ i)).run P w = .ok c w := by
      rw [Addr.add_lit]; simp [load, Sem.run, h0]
    simp only [loadCellsFrom, Sem.run_bind, hl0, Result.andThen_ok, ih]
    simp

theorem ld_agg {t : TypeId} {b o : Nat} {cs : List Value} {w : World} (ht : get l_agg t = some cs.length) (h : ∀ j u, cs[j]? = some u → w.cell? ⟨b, o + j, none⟩ = some u) : (loadVar t ⟨b, o, none⟩).run Tryz.prog w = .ok (.agg cs.toArray) w := by
  have hr := ld_cells (P := Tryz.prog) (w := w) (b := b) (o := o) cs.length 0 #[] cs rfl (fun j u hu => by rw [Nat.zero_add]; exact h j u hu)
  obtain ⟨h1, i, h3, h4⟩ := agg_spec ht
  have hag : (isAgg t).run Tryz.prog w = .ok true w := by
    unfold isAgg
    rcases h1 with ⟨fs, h1⟩ | ⟨m, e, h1⟩ <;> simp [run_underlying h1]
  have hsz : (sizeOf t).run Tryz.prog w = .ok cs.length w := by simp [sizeOf, typeInfo, h3, h4]
  unfold loadVar
  simp only [Sem.run_bind, hag, Result.andThen_ok, if_true, hsz]
  unfold loadCells
  simp [hr]

variable {hs : List Nat} {H : World → Prop} {full : Array Oper} {K : Env → World → Prop} {rest : List Oper} {env : Env} {w : World} {d : Tmp} {dst : Option Tmp} {ty : TypeId} {pos : String} {af : Array Edge}

/-- Loading a struct out of a row. -/
theorem xldz {t : TypeId} {x : Operand} {b o : Nat} {cs : List Value} (hx : evo env x = some (.pointer (some ⟨b, o, none⟩))) (ht : get l_agg t = some cs.length) (hc : ∀ j u, cs[j]? = some u → w.cell? ⟨b, o + j, none⟩ = some u)
    (h : xs Tryz.prog isI isS hs H full K rest ((d, .agg cs.toArray) :: env) w) (hm : memb hs (some d) = false := by rfl) : xs Tryz.prog isI isS hs H full K (⟨some d, .load t x, ty, pos, af, none⟩ :: rest) env w := by
  refine x_gen rfl (by simp [opsOK, Op.operands, hx]) ?_
  have hcl : clsO isI isS hs ⟨some d, .load t x, ty, pos, af, none⟩ = .r := by simp [clsO, cls, hm]
  rw [hcl]
  exact ⟨.agg cs.toArray, by simp [execOp, ev_of hx, Instr.loadAt, Instr.sureAddr, ld_agg ht hc], h⟩
theorem xldzh {t : TypeId} {x : Operand} {b o : Nat} {cs : List Value} (hx : evo env x = some (.pointer (some ⟨b, o, none⟩))) (ht : get l_agg t = some cs.length) (hc : ∀ w', H w' → ∀ j u, cs[j]? = some u → w'.cell? ⟨b, o + j, none⟩ = some u)
    (h : xs Tryz.prog isI isS hs H full K rest ((d, .agg cs.toArray) :: env) w) (hm : memb hs (some d) = true := by rfl) : xs Tryz.prog isI isS hs H full K (⟨some d, .load t x, ty, pos, af, none⟩ :: rest) env w := by
  refine x_gen rfl (by simp [opsOK, Op.operands, hx]) ?_
  have hcl : clsO isI isS hs ⟨some d, .load t x, ty, pos, af, none⟩ = .h := by simp [clsO, cls, hm]
  rw [hcl]
  exact ⟨.agg cs.toArray, fun w' hw' => by simp [execOp, ev_of hx, Instr.loadAt, Instr.sureAddr, ld_agg ht (hc w' hw')], h⟩

/-- The address of an element of z cells, the place given apart. -/
theorem xizq {t : TypeId} {x i : Operand} {k : IntKind} {b o n c z : Nat} {jz : Int} (j q : Nat) (hx : evo env x = some (.slice (some ⟨b, o, none⟩) n c)) (hi : evo env i = some (.int k jz)) (hz : es t = some z) (hj : jz = j) (hq : o + j * z = q) (h1 : j < n)
    (h : xs Tryz.prog isI isS hs H full K rest ((d, .pointer (some ⟨b, q, none⟩)) :: env) w) : xs Tryz.prog isI isS hs H full K (⟨some d, .indexAddr t x i, ty, pos, af, none⟩ :: rest) env w := by
  subst hj; subst hq
  exact xix hx hi hz (by omega) (by omega) (by rw [Int.toNat_natCast]; exact h)

/-- append onto a row of the call's own; elements of size cells. -/
theorem xapz {t e : TypeId} {z : Value} {size bytes B m c n : Nat} {s x : Operand} {v : Value} {A : Option Addr} {vs news : List Value} (hT : SlT t e z size bytes) (hzc : z.cells.size = size) (hsz : 0 < size) (hss : evo env s = some v) (hown : OwnZ w B e size v n vs) (hx : evo env x = some (.slice A m c))
    (hr : Row w (.slice A m c) m news) (hl : news.length = m * size) (h1 : ∀ u ∈ news, u.oneCell' = true) (h63 : n + m ≤ maxLen) (hbytes : (n + m) * bytes ≤ 140737488355328) (hbase : B ≤ w.heap.size)
    (h : ∀ v' w', OwnZ w' B e size v' (n + m) (vs ++ news) → Fr (fun b => v.ownBlock = some b) w w' → (v'.ownBlock = v.ownBlock ∨ v'.ownBlock = some w.heap.size) → xs Tryz.prog isI isS hs H full K rest ((d, v') :: env) w') (hH : ∀ w', Fr (fun b => v.ownBlock = some b) w w' → H w' := by intros; trivial) :
    xs Tryz.prog isI isS hs H full K (⟨some d, .call { callee := .builtin .append, args := ⟨[s, x]⟩, argTypes := ⟨[t, t]⟩ }, ty, pos, af, none⟩ :: rest) env w := by
  obtain ⟨hu, i, hi, hz, hsi, hby⟩ := hT
  have key : ∃ v' w', (Builtin.append_ #[t, t] ty #[v, .slice A m c]).run Tryz.prog w = .ok v' w' ∧ w'.ownsRow B e size v' (n + m) (vs ++ news) ∧ w.grownBy w' v.ownBlock ∧ (v'.ownBlock = v.ownBlock ∨ v'.ownBlock = some w.heap.size) := by
    rcases Nat.eq_zero_or_pos m with h0 | h0
    · subst h0
      have hn : news = [] := List.eq_nil_of_length_eq_zero (by omega)
      subst hn
      refine ⟨v, w, ?_, by unfold OwnZ at hown; simpa using hown, World.grownBy.refl w _, .inl rfl⟩
      rcases hown.2 with ⟨rfl, hv⟩ | ⟨g, cap, cur, rfl, _, _, hnc, _⟩
      · cases A <;> simp [Builtin.append_, run_underlying hu, sizeOf, typeInfo, hi, Builtin.lenOf, Builtin.firstCells, loadCells, loadCellsFrom]
      · cases A <;> simp [Builtin.append_, run_underlying hu, sizeOf, typeInfo, hi, Builtin.lenOf, Builtin.firstCells, hnc, storeCells, loadCells, loadCellsFrom]
    · obtain ⟨A', c', he, hmc, hcm, hA⟩ := hr
      injection he with e1 _ e2
      subst e1; subst e2
      obtain ⟨b, o, rfl, hb, hcell⟩ := hA h0
      obtain ⟨v', w', hrun, h2, h3, _, h5⟩ := run_append_own_at (P := Tryz.prog) w B t ty e i z size bytes hu hi hz hsi hby hzc hsz v n vs hown ⟨b, o, none⟩ m c news hl (fun j u hu => by rw [Addr.add_lit]; exact hcell j u hu) h1 h63 hbytes hbase
      exact ⟨v', w', hrun, h2, h3, h5⟩
  obtain ⟨v', w', hrun, h2, h3, h4⟩ := key
  refine xw (by simp [opsOK, Op.operands, Call.operands, hss, hx]) rfl (v := v') (w' := w') ?_ (h v' w' h2 (Fr.grown h3 fun k hk _ => hk) h4) (hH _ (Fr.grown h3 fun k hk _ => hk))
  simp [execOp, resolve, invoke, builtin, ev_of hss, ev_of hx, hrun]

/-- An empty slice literal. -/
theorem xbz0 {t e : TypeId} {z : Value} {size bytes : Nat} (hT : SlT t e z size bytes)
    (h : ∀ w', OwnZ w' w.heap.size e size (.slice (some ⟨w.heap.size, 0, none⟩) 0 0) 0 [] → Ext w w' → w'.heap.size = w.heap.size + 1 → xs Tryz.prog isI isS hs H full K rest ((d, .slice (some ⟨w.heap.size, 0, none⟩) 0 0) :: env) w') (hH : ∀ w', Ext w w' → H w' := by intros; trivial) :
    xs Tryz.prog isI isS hs H full K (⟨some d, .buildSlice t 0 #[], ty, pos, af, none⟩ :: rest) env w := by
  obtain ⟨hu, i, hi, hz, hs, hby⟩ := hT
  have hB := Blk.new w e #[]
  refine xw (by simp [opsOK, Op.operands]) rfl (v := .slice (some ⟨w.heap.size, 0, none⟩) 0 0) (w' := w.alloc (.cells #[] e)) ?_ (h _ ⟨by simp, .inr ⟨_, 0, #[], rfl, Nat.le_refl _, hB, Nat.le_refl _, Nat.zero_le _, by simp, by simp⟩⟩ (Fr.alloc _ _ _) (by simp)) (hH _ (Fr.alloc _ _ _))
  simp [execOp, Instr.buildSlice, run_underlying hu, sizeOf, typeInfo, hi, Instr.fill, newRow]
  have : Array.map (fun _ : Nat => (default : Value)) (Array.range 0) = #[] := by simp
  first | rw [this] | simp

theorem fill_one {size : Nat} {cs init : Array Value} (hn : cs.size = size) (h0 : 0 < size) (hi : init.size = size) : Instr.fill (fun i => some (i * size, size)) init [(0, Value.agg cs)] = some cs := by
  obtain ⟨r, hr, hsz, hk⟩ := Great.fill_dense (s := size) h0 [.agg cs] 0 init (fun v hv => by rw [List.mem_singleton.1 hv]; exact hn) (by rw [hi]; simp)
  have e1 : (([Value.agg cs].zipIdx 0).map fun x => (x.2, x.1)) = [(0, Value.agg cs)] := rfl
  rw [e1] at hr
  rw [hr]
  congr 1
  apply Array.ext_getElem?
  intro k
  rw [hk k]
  by_cases hlt : k < size
  · rw [if_pos (by simp; omega)]
    have e2 : k / size = 0 := Nat.div_eq_of_lt hlt
    have e3 : k % size = k := Nat.mod_eq_of_lt hlt
    simp [e2, e3, Value.cells]
  · rw [if_neg (by simp; omega), Array.getElem?_eq_none (by omega), Array.getElem?_eq_none (by omega)]

set_option maxRecDepth 10000 in
/-- A slice literal of one element of more cells. -/
theorem xbz1 {t e : TypeId} {z : Value} {size bytes : Nat} {x : Operand} {cs : Array Value} (hT : SlT t e z size bytes) (hx : evo env x = some (.agg cs)) (hn : cs.size = size) (h0 : 0 < size) (hs2 : size ≤ 10000)
    (h : ∀ w', Blk w' w.heap.size e cs → Ext w w' → w'.heap.size = w.heap.size + 1 → xs Tryz.prog isI isS hs H full K rest ((d, .slice (some ⟨w.heap.size, 0, none⟩) 1 1) :: env) w') (hH : ∀ w', Ext w w' → H w' := by intros; trivial) :
    xs Tryz.prog isI isS hs H full K (⟨some d, .buildSlice t 1 #[(0, x)], ty, pos, af, none⟩ :: rest) env w := by
  obtain ⟨hu, i, hi, hz, hsi, hby⟩ := hT
  refine xw (by simp [opsOK, Op.operands, hx]) rfl (v := .slice (some ⟨w.heap.size, 0, none⟩) 1 1) (w' := w.alloc (.cells cs e)) ?_ (h _ (Blk.new _ _ _) (Fr.alloc _ _ _) (by simp)) (hH _ (Fr.alloc _ _ _))
  have hr := run_buildSlice (P := Tryz.prog) w t e 1 #[(0, .agg cs)] cs i z hu hi hz (by rw [hsi]; omega) (by rw [hsi]; omega) (by
    rw [hsi]; exact fill_one hn h0 (by simp))
  simp [execOp, ev_of hx, hr]
end Eng
end Go.Proofs.YtalnkjpgnkfedaaGreatDoor
