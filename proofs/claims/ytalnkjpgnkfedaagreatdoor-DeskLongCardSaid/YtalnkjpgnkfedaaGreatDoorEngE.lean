/-
  Rules that all seats share: empty slice literals, slices held against nil, bools compared, ways that meet, values of functions called, functions without a body.
-/
import Derived.Test.YtalnkjpgnkfedaaGreatDoorMem
import Derived.Laws.Externs
import Derived.Lib.SliceRun
namespace Go.Proofs.YtalnkjpgnkfedaaGreatDoor
open Go.RowKit
namespace Eng

section
variable {hs : List Nat} {H : World → Prop} {full : Array Oper} {K : Env → World → Prop} {rest : List Oper} {env : Env} {w : World} {d : Tmp} {dst : Option Tmp} {ty : TypeId} {pos : String} {af : Array Edge}

/-- Is a slice nil? -/
theorem xsn {t yt : TypeId} {x y : Operand} {A : Option Addr} {n c n' c' z : Nat} (hx : evo env x = some (.slice A n c)) (hy : evo env y = some (.slice none n' c')) (hz : es t = some z)
    (h : xs Tryz.prog isI isS hs H full K rest ((d, .bool A.isNone) :: env) w) : xs Tryz.prog isI isS hs H full K (⟨some d, .binOp .eql t x y yt, ty, pos, af, none⟩ :: rest) env w := by
  obtain ⟨e, i, hu, _, _⟩ := es_spec hz
  exact x_bin hx hy (eqGuard_at_slice ..) (fun w' => by rw [Lib.run_eql_slice_nil w' t e A n c n' c' hu]) h
/-- Two bools compared. -/
theorem xbeq {yt : TypeId} {x y : Operand} {a b : Bool} (hx : evo env x = some (.bool a)) (hy : evo env y = some (.bool b)) (h : xs Tryz.prog isI isS hs H full K rest ((d, .bool (a == b)) :: env) w) : xs Tryz.prog isI isS hs H full K (⟨some d, .binOp .eql 4 x y yt, ty, pos, af, none⟩ :: rest) env w :=
  x_bin hx hy (eqGuard_at_bool ..) (fun w' => run_eql_bool w' _ a b Tryz.underlying4) h
theorem xbne {yt : TypeId} {x y : Operand} {a b : Bool} (hx : evo env x = some (.bool a)) (hy : evo env y = some (.bool b)) (h : xs Tryz.prog isI isS hs H full K rest ((d, .bool (!(a == b))) :: env) w) : xs Tryz.prog isI isS hs H full K (⟨some d, .binOp .neq 4 x y yt, ty, pos, af, none⟩ :: rest) env w :=
  x_bin hx hy (eqGuard_at_bool ..) (fun w' => run_neq_bool w' _ a b Tryz.underlying4) h

set_option maxRecDepth 100000 in
/-- A call of a function's value. -/
theorem xcallv {f : FuncId} {t : Tmp} {cap : Array Value} {args : List Operand} {ats : Array TypeId} {vs : List Value} {S : Value → World → Prop} (hx : evo env (.tmp t) = some (.func (.func f) #[] cap)) (ha : evs env args = some vs) (hf : bit m_cal f = true) (hd : Does Tryz.prog f (vs.toArray ++ cap) w S)
    (h : ∀ v w', S v w' → xs Tryz.prog isI isS hs H full K rest (put env dst v) w') (hH : ∀ v w', S v w' → H w' := by intros; trivial) : xs Tryz.prog isI isS hs H full K (⟨dst, .call { callee := .value (.tmp t), args := args.toArray, argTypes := ats }, ty, pos, af, none⟩ :: rest) env w := by
  obtain ⟨h1, h2⟩ := evs_spec ha
  obtain ⟨fn, hfn, hb, hn⟩ := cal_spec hf
  refine x_gen rfl (by simpa [opsOK, Op.operands, Call.operands, hx] using h2) ?_
  show out Tryz.prog ((execOp (ev env) ⟨dst, .call { callee := .value (.tmp t), args := args.toArray, argTypes := ats }, ty, pos, af, none⟩).run Tryz.prog w) _
  have e : (execOp (ev env) ⟨dst, .call { callee := .value (.tmp t), args := args.toArray, argTypes := ats }, ty, pos, af, none⟩).run Tryz.prog w = .ok (.enter f (vs.toArray ++ cap)) w := by
    have hb' : ¬ fn.body = none := by intro e; rw [e] at hb; cases hb
    have hn' : ¬ fn.name = "runtime.NumGoroutine" := by simpa using hn
    have e1 : ev env (.tmp t) = .func (.func f) #[] cap := ev_of hx
    simp [execOp, resolve, e1, Deferred.ofValue, invoke, callFunc, h1, hfn, hn', hb']
  rw [e]
  exact Calls.mono hd fun e w' ⟨v, he, k⟩ => ⟨v, he, hH v w' k, h v w' k⟩

set_option maxRecDepth 100000 in
/-- A call of a function that has no body. -/
theorem xext {f : FuncId} {fn : Func} {e : Array Value → Sem Value} {args : List Operand} {ats : Array TypeId} {vs : List Value} {v : Value} (hf : Tryz.prog.funcs[f]? = some fn) (hn : (fn.name == "runtime.NumGoroutine") = false) (hb : fn.body.isNone = true) (hne : Extern.findNext fn = none) (he : Extern.find fn = some e)
    (ha : evs env args = some vs) (hr : (e vs.toArray).run Tryz.prog w = .ok v w) (h : xs Tryz.prog isI isS hs noH full K rest (put env dst v) w) :
    xs Tryz.prog isI isS hs noH full K (⟨dst, .call { callee := .value (.func f), args := args.toArray, argTypes := ats }, ty, pos, af, none⟩ :: rest) env w := by
  obtain ⟨h1, h2⟩ := evs_spec ha
  refine xw (v := v) (w' := w) (by simpa [opsOK, Op.operands, Call.operands, evo] using h2) rfl ?_ h True.intro
  have e1 : ev env (.func f) = .func (.func f) #[] #[] := rfl
  have h3 : (callFunc f vs.toArray).run Tryz.prog w = .ok (.value v) w := by rw [run_callFunc_extern hf hn hb hne he, hr]; rfl
  simp [execOp, resolve, e1, Deferred.ofValue, invoke, h1, h3]
end
/-- Ways that meet: the tail is walked once. -/
theorem tjoin {fn : Func} {R : Value → World → Prop} {k k' : List It} {env : Env} {w w' : World} (id : Nat) (_ : exitK id k = some k') (E : Env) (main : (∀ env, Sub E env → T Tryz.prog fn R k' env w') → T Tryz.prog fn R k env w) (tail : T Tryz.prog fn R k' E w') : T Tryz.prog fn R k env w := main fun _ hs => tweak tail hs
/-- A scope left before any of its labels. -/
theorem tscope0 {fn : Func} {R : Value → World → Prop} {k : List It} {env : Env} {w : World} {c : Code} (h : T Tryz.prog fn R (.code c :: .scp (Some (fun _ _ _ _ => False)) :: k) env w) : T Tryz.prog fn R (.code (.scope c) :: k) env w :=
  tscope (fun _ _ _ _ => False) (fun _ _ _ _ h => h.elim) (fun _ _ _ _ _ _ h => h.elim) (fun _ => h)
/-- A place where ways come together. -/
theorem tcut {fn : Func} {R : Value → World → Prop} {k : List It} {env : Env} {w : World} {α : Type} (E : α → Env) (I : α → World → Prop) {c : Code} (h1 : T Tryz.prog fn R (.code c :: .fin (fun env w => ∃ y, Sub (E y) env ∧ I y w) :: k) env w) (h2 : ∀ y w', I y w' → T Tryz.prog fn R k (E y) w') : T Tryz.prog fn R (.code c :: k) env w := fun a ha => by
  refine wp_mono (h1 a ha) ?_
  intro e a' w' hq
  cases e with
  | normal => obtain ⟨env', hf', y, hs, hy⟩ := hq; exact h2 y w' hy a' (hf'.sub hs)
  | exit id => exact hq
  | goto l => exact hq
  | ret => exact hq
  | panic ch => exact hq
  | outgrown => exact hq
end Eng
end Go.Proofs.YtalnkjpgnkfedaaGreatDoor
