/-
  Rules for maps from ints to ints: made, looked up, a new key put in; results told in a cell and a slot.
-/
import Derived.Test.YtalnkjpgnkfedaaGreatDoorEngE
import Derived.Test.YtalnkjpgnkfedaaGreatDoorEngD
import Derived.Carry
import Derived.MapKept
namespace Go.Proofs.YtalnkjpgnkfedaaGreatDoor
open Go.RowKit
namespace Eng

/-- A map of its own: its keys and values, in the order in which they came. -/
def MpB (w : World) (g : Nat) (l : List (Int × Int)) : Prop := ∃ es clock, w.heap[g]? = some (.map es clock) ∧ es.toList.map (fun e => (e.key, e.val)) = l.map fun p => (Value.int .i64 p.1, Value.int .i64 p.2)
def asc (k : Int) : List (Int × Int) → Option Int
  | [] => none
  | p :: r => if p.1 = k then some p.2 else asc k r

theorem MpB.lt {w : World} {g : Nat} {l : List (Int × Int)} (h : MpB w g l) : g < w.heap.size := by
  obtain ⟨es, clock, h1, _⟩ := h
  exact (Array.getElem?_eq_some_iff.1 h1).1
theorem MpB.fr {S : Nat → Prop} {w w' : World} {g : Nat} {l : List (Int × Int)} (h : MpB w g l) (hf : Fr S w w') (hS : ¬ S g) : MpB w' g l := by
  have hlt := h.lt
  obtain ⟨es, clock, h1, h2⟩ := h
  exact ⟨es, clock, (hf.block g hlt hS).trans h1, h2⟩
theorem MpB.ext {w w' : World} {g : Nat} {l : List (Int × Int)} (h : MpB w g l) (hf : Ext w w') : MpB w' g l := h.fr hf fun hh => hh

theorem findNow_asc (k : Int) : ∀ (es : List MapEntry) (l : List (Int × Int)) (i : Nat), es.map (fun e => (e.key, e.val)) = l.map (fun p => (Value.int .i64 p.1, Value.int .i64 p.2)) →
    ∃ r, Instr.findNow (.int .i64) (.int .i64 k) es i = some r ∧ r.map (·.2) = (asc k l).map (Value.int .i64)
  | [], [], _, _ => ⟨none, rfl, rfl⟩
  | [], _ :: _, _, h => by simp at h
  | _ :: _, [], _, h => by simp at h
  | e :: es, p :: l, i, h => by
    simp only [List.map_cons, List.cons.injEq, Prod.mk.injEq] at h
    obtain ⟨⟨h1, h2⟩, h3⟩ := h
    have hs : Instr.sameNow (.int .i64) (.int .i64 k) e.key = some (k == p.1) := by rw [h1]; rfl
    by_cases hk : p.1 = k
    · refine ⟨some (i, e.val), ?_, ?_⟩
      · rw [Instr.findNow, hs, hk]; simp
      · rw [asc, if_pos hk, h2]; rfl
    · obtain ⟨r, h4, h5⟩ := findNow_asc k es l (i + 1) h3
      refine ⟨r, ?_, by rw [asc, if_neg hk]; exact h5⟩
      have : (k == p.1) = false := by simpa using fun e' : k = p.1 => hk e'.symm
      rw [Instr.findNow, hs, this]
      exact h4

section
variable {hs : List Nat} {H : World → Prop} {full : Array Oper} {K : Env → World → Prop} {rest : List Oper} {env : Env} {w : World} {d : Tmp} {ty : TypeId} {pos : String} {af : Array Edge}

/-- make(map). -/
theorem xmkm {t : TypeId} (h : ∀ w', MpB w' w.heap.size [] → Ext w w' → w'.heap.size = w.heap.size + 1 → xs Tryz.prog isI isS hs noH full K rest ((d, .map (some w.heap.size)) :: env) w') :
    xs Tryz.prog isI isS hs noH full K (⟨some d, .makeMap t none, ty, pos, af, none⟩ :: rest) env w := by
  refine xw (by simp [opsOK, Op.operands]) rfl (v := .map (some w.heap.size)) (w' := w.alloc (.map #[] 0)) ?_ (h _ ⟨#[], 0, by
    show (w.heap.push _)[w.heap.size]? = _
    simp, rfl⟩ (Fr.alloc _ _ _) (by simp)) True.intro
  simp [execOp, run_makeMap]

theorem run_lk {w : World} {g : Nat} {l : List (Int × Int)} (hB : MpB w g l) (t kt et : TypeId) (hu : Tryz.prog.underlying t = some (.map kt et)) (hk : Tryz.prog.underlying kt = some (.int .i64)) (hz : (zeroValue et).run Tryz.prog w = .ok (.int .i64 0) w) (k : Int) :
    (Instr.lookup t (.map (some g)) (.int .i64 k) true).run Tryz.prog w = .ok (.tuple #[.int .i64 ((asc k l).getD 0), .bool (asc k l).isSome]) w := by
  obtain ⟨es, clock, h1, h2⟩ := hB
  obtain ⟨r, h3, h4⟩ := findNow_asc k es.toList l 0 h2
  have hc : (Instr.checkKey es.isEmpty 10000 kt (.int .i64 k)).run Tryz.prog w = .ok () w := MapKept.run_checkKey (k := .int .i64 k) hk (by simp [MapKept.IsKey]) _ 9999
  have hg : (getObj g).run Tryz.prog w = .ok (.map es clock) w := by simp [getObj, Sem.run, h1]
  have hf : (Instr.findKey kt (.int .i64 k) es.toList).run Tryz.prog w = .ok r w := by
    simp [Instr.findKey, run_underlying hk, h3]
  simp only [Instr.lookup, Sem.run_bind, run_underlying hu, Result.andThen_ok, hg, hc, Sem.run_pure, hf]
  cases r with
  | none =>
    have : asc k l = none := by simpa using h4.symm
    rw [this]
    simp [hz]
  | some q =>
    obtain ⟨j, v⟩ := q
    simp only [Option.map_some] at h4
    cases ha : asc k l with
    | none => rw [ha] at h4; cases h4
    | some z =>
      rw [ha] at h4
      simp only [Option.map_some, Option.some.injEq] at h4
      subst h4
      simp
/-- v, ok := m[k]. -/
theorem xlk {t kt et : TypeId} {x y : Operand} {g : Nat} {l : List (Int × Int)} {k : Int} (hu : Tryz.prog.underlying t = some (.map kt et)) (hk : Tryz.prog.underlying kt = some (.int .i64)) (hz : ∀ w', (zeroValue et).run Tryz.prog w' = .ok (.int .i64 0) w') (hB : MpB w g l) (hx : evo env x = some (.map (some g))) (hy : evo env y = some (.int .i64 k))
    (h : xs Tryz.prog isI isS hs noH full K rest ((d, .tuple #[.int .i64 ((asc k l).getD 0), .bool (asc k l).isSome]) :: env) w) : xs Tryz.prog isI isS hs noH full K (⟨some d, .lookup t x y true, ty, pos, af, none⟩ :: rest) env w := by
  refine xw (v := .tuple #[.int .i64 ((asc k l).getD 0), .bool (asc k l).isSome]) (w' := w) (by simp [opsOK, Op.operands, hx, hy]) rfl ?_ h True.intro
  simp [execOp, ev_of hx, ev_of hy, run_lk hB t kt et hu hk (hz w) k]
set_option maxRecDepth 100000 in
/-- A new key is put in. -/
theorem xmup {t kt et : TypeId} {x y z : Operand} {g : Nat} {l : List (Int × Int)} {k v : Int} (hu : Tryz.prog.underlying t = some (.map kt et)) (hk : Tryz.prog.underlying kt = some (.int .i64)) (hB : MpB w g l) (hn : asc k l = none) (hx : evo env x = some (.map (some g))) (hy : evo env y = some (.int .i64 k)) (hz : evo env z = some (.int .i64 v))
    (h : ∀ w', MpB w' g (l ++ [(k, v)]) → Fr (· = g) w w' → xs Tryz.prog isI isS hs noH full K rest env w') : xs Tryz.prog isI isS hs noH full K (⟨none, .mapUpdate t x y z, ty, pos, af, none⟩ :: rest) env w := by
  have hlt := hB.lt
  obtain ⟨es, clock, h1, h2⟩ := hB
  obtain ⟨r, h3, h4⟩ := findNow_asc k es.toList l 0 h2
  have hr : r = none := by
    rw [hn] at h4
    cases r with
    | none => rfl
    | some _ => cases h4
  subst hr
  have hc : (Instr.checkKey false 10000 kt (.int .i64 k)).run Tryz.prog w = .ok () w := MapKept.run_checkKey (k := .int .i64 k) hk (by simp [MapKept.IsKey]) false 9999
  have hrun : (Instr.mapUpdate t (.map (some g)) (.int .i64 k) (.int .i64 v)).run Tryz.prog w = .ok () { w with heap := w.heap.setIfInBounds g (.map (es.push { key := .int .i64 k, val := .int .i64 v, born := clock }) (clock + 1)) } := by
    simp [Instr.mapUpdate, run_underlying hu, MapKept.run_getObj_map h1, hc, MapKept.run_findKey hk h3, MapKept.run_setObj_map _ h1, Result.andThen]
  refine x_gen rfl (by simp [opsOK, Op.operands, hx, hy, hz]) ?_
  have hcl : clsO isI isS hs ⟨none, .mapUpdate t x y z, ty, pos, af, none⟩ = .w := rfl
  rw [hcl]
  show out Tryz.prog ((execOp (ev env) ⟨none, .mapUpdate t x y z, ty, pos, af, none⟩).run Tryz.prog w) _
  have e : (execOp (ev env) ⟨none, .mapUpdate t x y z, ty, pos, af, none⟩).run Tryz.prog w = .ok .skip { w with heap := w.heap.setIfInBounds g (.map (es.push { key := .int .i64 k, val := .int .i64 v, born := clock }) (clock + 1)) } := by
    simp [execOp, ev_of hx, ev_of hy, ev_of hz, hrun]
  rw [e]
  refine ⟨True.intro, h _ ⟨es.push { key := .int .i64 k, val := .int .i64 v, born := clock }, clock + 1, ?_, ?_⟩ ⟨rfl, rfl, rfl, ?_, ?_⟩⟩
  · show (w.heap.setIfInBounds g _)[g]? = _
    rw [Array.getElem?_setIfInBounds_self_of_lt hlt]
  · simp [h2]
  · show w.heap.size ≤ (w.heap.setIfInBounds g _).size
    simp
  · intro j hj hne
    show (w.heap.setIfInBounds g _)[j]? = _
    rw [Array.getElem?_setIfInBounds_ne (fun e' => hne e'.symm)]
end
/-- Results in a cell and a slot. -/
theorem tretc2 {env : Env} {w : World} {fn : Func} {R : Value → World → Prop} {k : List It} {t u : Tmp} {bt tt : TypeId} {g : Nat} {cs : Array Value} {v' : Value} (hr : fn.results = #[.cell t tt, .tmp u]) (hv : look env t = some (.pointer (some ⟨g, 0, none⟩))) (hu : look env u = some v') (hB : Blk w g bt cs) (ht : get l_agg tt = some cs.size) (h : R (.tuple #[.agg cs, v']) w) :
    T Tryz.prog fn R (.code .ret :: k) env w := fun a ha => by
  refine wp_ret (sem_ret (show bodyPost Tryz.prog fn (Ret R) .ret a w from ⟨ha.1, .tuple #[.agg cs, v'], ?_, _, rfl, h⟩) k)
  have hp' : a.tmps[t]?.getD undef = .pointer (some ⟨g, 0, none⟩) := by rw [ha.2.2 t _ hv]; rfl
  have hu' : a.tmps[u]?.getD undef = v' := by rw [ha.2.2 u _ hu]; rfl
  simp [results, hr, hp', hu', asAddr, ld_row hB ht]
/-- Keys that were put in one by one, each with its place. -/
def seenM (l : List Int) : List (Int × Int) := l.zipIdx.map fun p => (p.1, (p.2 : Int))
theorem asc_go (k : Int) : ∀ (l : List Int) (n : Nat), asc k ((l.zipIdx n).map fun p => (p.1, (p.2 : Int))) = if k ∈ l then some ((n + l.idxOf k : Nat) : Int) else none
  | [], n => by simp [asc]
  | x :: l, n => by
    rw [List.zipIdx_cons, List.map_cons, asc]
    by_cases h : x = k
    · subst h; simp
    · have hne : ¬ k = x := fun e => h e.symm
      rw [if_neg h, asc_go k l (n + 1)]
      by_cases hm : k ∈ l
      · have hb : (x == k) = false := by simpa using h
        rw [if_pos hm, if_pos (List.mem_cons_of_mem _ hm), List.idxOf_cons, hb, cond_false]
        congr 2; omega
      · rw [if_neg hm, if_neg (by simp [hne, hm])]
theorem asc_seen (k : Int) (l : List Int) : asc k (seenM l) = if k ∈ l then some (l.idxOf k : Int) else none := by
  have := asc_go k l 0
  simpa [seenM] using this
theorem seenM_snoc (l : List Int) (k : Int) : seenM (l ++ [k]) = seenM l ++ [(k, (l.length : Int))] := by
  simp [seenM, List.zipIdx_append]
end Eng
end Go.Proofs.YtalnkjpgnkfedaaGreatDoor
