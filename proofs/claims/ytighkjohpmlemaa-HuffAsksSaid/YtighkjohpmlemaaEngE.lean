/-
  Guards, read off the list of a region's operations.
-/
import Derived.Test.YtighkjohpmlemaaEngC
namespace Go.Proofs.Ytighkjohpmlemaa
open Go.RowKit
namespace Eng

/-- The slot of the operation at a place. -/
def dstAt : List Oper → Nat → Option Tmp
  | [], _ => none
  | o :: _, 0 => o.dst
  | _ :: r, j + 1 => dstAt r j
theorem dstAt_eq : ∀ (l : List Oper) (j : Nat), dstAt l j = (l[j]?).bind (·.dst)
  | [], _ => rfl
  | o :: _, 0 => rfl
  | _ :: r, j + 1 => by simp only [dstAt, List.getElem?_cons_succ]; exact dstAt_eq r j
def gvl (l : List Oper) (env : Env) (j : Nat) (want : Bool) : Option Bool := match dstAt l j with
  | none => some false
  | some d => match look env d with
    | some (.bool true) => some want
    | some (.bool false) => some (!want)
    | some _ => some false
    | none => none
theorem gvl_eq {l : List Oper} {env : Env} {j : Nat} {want b : Bool} (h : gvl l env j want = some b) : gv l.toArray env (some (j, want)) = some b := by
  unfold gvl at h
  rw [dstAt_eq] at h
  unfold gv
  dsimp only
  rw [List.getElem?_toArray]
  exact h
theorem xgy' {hs : List Nat} {H : World → Prop} {l : List Oper} {K : Env → World → Prop} {rest : List Oper} {env : Env} {w : World} {dst : Option Tmp} {ty : TypeId} {pos : String} {af : Array Edge} {op : Op} {j : Nat} {want : Bool} (hg : gvl l env j want = some true)
    (h : xs Try.prog isI isS hs H l.toArray K (⟨dst, op, ty, pos, af, none⟩ :: rest) env w) : xs Try.prog isI isS hs H l.toArray K (⟨dst, op, ty, pos, af, some (j, want)⟩ :: rest) env w := xgy (gvl_eq hg) h
theorem xgn' {hs : List Nat} {H : World → Prop} {l : List Oper} {K : Env → World → Prop} {rest : List Oper} {env : Env} {w : World} {d : Tmp} {ty : TypeId} {pos : String} {af : Array Edge} {op : Op} {j : Nat} {want : Bool} (hg : gvl l env j want = some false)
    (h : xs Try.prog isI isS hs H l.toArray K rest ((d, undef) :: env) w) : xs Try.prog isI isS hs H l.toArray K (⟨some d, op, ty, pos, af, some (j, want)⟩ :: rest) env w := xgn (gvl_eq hg) h


section
variable {hs : List Nat} {H : World → Prop} {full : Array Oper} {K : Env → World → Prop} {rest : List Oper} {env : Env} {w : World} {d : Tmp} {dst : Option Tmp} {ty : TypeId} {pos : String} {af : Array Edge}

theorem xmv {x : Operand} {v : Value} (hx : evo env x = some v) (h : xs Try.prog isI isS hs H full K rest ((d, v) :: env) w) : xs Try.prog isI isS hs H full K (⟨some d, .move x, ty, pos, af, none⟩ :: rest) env w := xp (op := .move x) hx h
theorem xas {x : Operand} {v : Value} (hx : evo env x = some v) (h : xs Try.prog isI isS hs H full K rest ((d, v) :: env) w) : xs Try.prog isI isS hs H full K (⟨some d, .assign x, ty, pos, af, none⟩ :: rest) env w := xp (op := .assign x) hx h
def pkV (a b : Value) : Value → Option Value
  | .bool true => some a
  | .bool false => some b
  | _ => none
theorem xpk {c x y : Operand} {vc vx vy v : Value} (hc : evo env c = some vc) (hx : evo env x = some vx) (hy : evo env y = some vy) (hv : pkV vx vy vc = some v) (h : xs Try.prog isI isS hs H full K rest ((d, v) :: env) w) :
    xs Try.prog isI isS hs H full K (⟨some d, .pick c x y, ty, pos, af, none⟩ :: rest) env w := by
  refine xp (op := .pick c x y) (v := v) ?_ h
  unfold pstep
  simp only [hx, hy, hc]
  unfold pkV at hv
  split at hv
  · exact hv
  · exact hv
  · cases hv
theorem xnc {x : Operand} {a : Addr} (hx : evo env x = some (.pointer (some a))) (h : xs Try.prog isI isS hs H full K rest ((d, .pointer (some a)) :: env) w) : xs Try.prog isI isS hs H full K (⟨some d, .nilCheck x, ty, pos, af, none⟩ :: rest) env w :=
  xp (op := .nilCheck x) (by unfold pstep; simp only [hx]) h
theorem xfa {s f b o off : Nat} {x : Operand} (hx : evo env x = some (.pointer (some ⟨b, o, none⟩))) (ho : fo s f = some off) (hf : Nat.blt f 100 = true) (h : xs Try.prog isI isS hs H full K rest ((d, .pointer (some ⟨b, o + off, none⟩)) :: env) w) :
    xs Try.prog isI isS hs H full K (⟨some d, .fieldAddr s x f, ty, pos, af, none⟩ :: rest) env w := xp (op := .fieldAddr s x f) (by unfold pstep; simp only [hx, ho, hf]) h
theorem xex {x : Operand} {i : Nat} {vs : Array Value} {v : Value} (hx : evo env x = some (.tuple vs)) (hi : vs[i]? = some v) (h : xs Try.prog isI isS hs H full K rest ((d, v) :: env) w) : xs Try.prog isI isS hs H full K (⟨some d, .extract x i, ty, pos, af, none⟩ :: rest) env w :=
  xp (op := .extract x i) (by unfold pstep; simp only [hx, hi]) h
theorem xnot {t : TypeId} {x : Operand} {b : Bool} (hx : evo env x = some (.bool b)) (h : xs Try.prog isI isS hs H full K rest ((d, .bool (!b)) :: env) w) : xs Try.prog isI isS hs H full K (⟨some d, .unOp .not t x, ty, pos, af, none⟩ :: rest) env w :=
  xp (op := .unOp .not t x) (by unfold pstep; simp only [hx]; cases b <;> rfl) h
def lnV (t : TypeId) : Value → Option Value
  | .slice _ n _ => match es t with
    | some _ => some (.int .i64 n)
    | none => none
  | .string s => match isS t with
    | true => some (.int .i64 s.size)
    | false => none
  | _ => none
theorem xln {x : Operand} {t : TypeId} {vx v : Value} (hx : evo env x = some vx) (hv : lnV t vx = some v) (h : xs Try.prog isI isS hs H full K rest ((d, v) :: env) w) :
    xs Try.prog isI isS hs H full K (⟨some d, .call { callee := .builtin .len, args := ⟨[x]⟩, argTypes := ⟨[t]⟩ }, ty, pos, af, none⟩ :: rest) env w := by
  refine xp (op := .call { callee := .builtin .len, args := ⟨[x]⟩, argTypes := ⟨[t]⟩ }) (v := v) ?_ h
  unfold pstep
  simp only [hx]
  unfold lnV at hv
  split at hv
  · exact hv
  · exact hv
  · cases hv
def eqnV : Value → Option Value
  | .pointer (some _) => some (.bool false)
  | .pointer none => some (.bool true)
  | _ => none
theorem xeqn {t yt : TypeId} {x : Operand} {vx v : Value} (hx : evo env x = some vx) (hb : bit m_ptr t = true) (hv : eqnV vx = some v) (h : xs Try.prog isI isS hs H full K rest ((d, v) :: env) w) :
    xs Try.prog isI isS hs H full K (⟨some d, .binOp .eql t x (.const (.pointer none)) yt, ty, pos, af, none⟩ :: rest) env w := by
  refine xp (op := .binOp .eql t x (.const (.pointer none)) yt) (v := v) ?_ h
  unfold pstep
  simp only [hx, hb]
  unfold eqnV at hv
  split at hv
  · exact hv
  · exact hv
  · cases hv
def nenV : Value → Option Value
  | .pointer (some _) => some (.bool true)
  | .pointer none => some (.bool false)
  | _ => none
theorem xnen {t yt : TypeId} {x : Operand} {vx v : Value} (hx : evo env x = some vx) (hb : bit m_ptr t = true) (hv : nenV vx = some v) (h : xs Try.prog isI isS hs H full K rest ((d, v) :: env) w) :
    xs Try.prog isI isS hs H full K (⟨some d, .binOp .neq t x (.const (.pointer none)) yt, ty, pos, af, none⟩ :: rest) env w := by
  refine xp (op := .binOp .neq t x (.const (.pointer none)) yt) (v := v) ?_ h
  unfold pstep
  simp only [hx, hb]
  unfold nenV at hv
  split at hv
  · exact hv
  · exact hv
  · cases hv

theorem xadd {t yt : TypeId} {x y : Operand} {a b : Int} (hx : evo env x = some (.int .i64 a)) (hy : evo env y = some (.int .i64 b)) (h1 : -9223372036854775808 ≤ a + b) (h2 : a + b ≤ 9223372036854775807)
    (h : xs Try.prog isI isS hs H full K rest ((d, .int .i64 (a + b)) :: env) w) : xs Try.prog isI isS hs H full K (⟨some d, .binOp .add t x y yt, ty, pos, af, none⟩ :: rest) env w := xai hx hy rfl h1 h2 h
theorem xsub {t yt : TypeId} {x y : Operand} {a b : Int} (hx : evo env x = some (.int .i64 a)) (hy : evo env y = some (.int .i64 b)) (h1 : -9223372036854775808 ≤ a - b) (h2 : a - b ≤ 9223372036854775807)
    (h : xs Try.prog isI isS hs H full K rest ((d, .int .i64 (a - b)) :: env) w) : xs Try.prog isI isS hs H full K (⟨some d, .binOp .sub t x y yt, ty, pos, af, none⟩ :: rest) env w := xai hx hy rfl h1 h2 h
theorem xmul {t yt : TypeId} {x y : Operand} {a b : Int} (hx : evo env x = some (.int .i64 a)) (hy : evo env y = some (.int .i64 b)) (h1 : -9223372036854775808 ≤ a * b) (h2 : a * b ≤ 9223372036854775807)
    (h : xs Try.prog isI isS hs H full K rest ((d, .int .i64 (a * b)) :: env) w) : xs Try.prog isI isS hs H full K (⟨some d, .binOp .mul t x y yt, ty, pos, af, none⟩ :: rest) env w := xai hx hy rfl h1 h2 h
theorem xaddu {t yt : TypeId} {x y : Operand} {a b : Int} (hx : evo env x = some (.int .u64 a)) (hy : evo env y = some (.int .u64 b)) (h1 : 0 ≤ a + b) (h2 : a + b ≤ 18446744073709551615)
    (h : xs Try.prog isI isS hs H full K rest ((d, .int .u64 (a + b)) :: env) w) : xs Try.prog isI isS hs H full K (⟨some d, .binOp .add t x y yt, ty, pos, af, none⟩ :: rest) env w := xau hx hy rfl h1 h2 h
theorem xsubu {t yt : TypeId} {x y : Operand} {a b : Int} (hx : evo env x = some (.int .u64 a)) (hy : evo env y = some (.int .u64 b)) (h1 : 0 ≤ a - b) (h2 : a - b ≤ 18446744073709551615)
    (h : xs Try.prog isI isS hs H full K rest ((d, .int .u64 (a - b)) :: env) w) : xs Try.prog isI isS hs H full K (⟨some d, .binOp .sub t x y yt, ty, pos, af, none⟩ :: rest) env w := xau hx hy rfl h1 h2 h
theorem xquo {t yt : TypeId} {x y : Operand} {a b : Int} (hx : evo env x = some (.int .i64 a)) (hy : evo env y = some (.int .i64 b)) (h1 : 0 ≤ a) (h2 : 0 < b) (h3 : a ≤ 9223372036854775807)
    (h : xs Try.prog isI isS hs H full K rest ((d, .int .i64 (a / b)) :: env) w) : xs Try.prog isI isS hs H full K (⟨some d, .binOp .quo t x y yt, ty, pos, af, none⟩ :: rest) env w := xdi hx hy rfl h1 h2 h3 h
theorem xrem {t yt : TypeId} {x y : Operand} {a b : Int} (hx : evo env x = some (.int .i64 a)) (hy : evo env y = some (.int .i64 b)) (h1 : 0 ≤ a) (h2 : 0 < b) (h3 : a ≤ 9223372036854775807)
    (h : xs Try.prog isI isS hs H full K rest ((d, .int .i64 (a % b)) :: env) w) : xs Try.prog isI isS hs H full K (⟨some d, .binOp .rem t x y yt, ty, pos, af, none⟩ :: rest) env w := xdi hx hy rfl h1 h2 h3 h
theorem xt_eql {t yt : TypeId} {x y : Operand} {k : IntKind} {a b : Int} (hx : evo env x = some (.int k a)) (hy : evo env y = some (.int k b)) (hp : a = b) (h : xs Try.prog isI isS hs H full K rest ((d, .bool true) :: env) w) : xs Try.prog isI isS hs H full K (⟨some d, .binOp .eql t x y yt, ty, pos, af, none⟩ :: rest) env w := xct hx hy rfl hp h
theorem xf_eql {t yt : TypeId} {x y : Operand} {k : IntKind} {a b : Int} (hx : evo env x = some (.int k a)) (hy : evo env y = some (.int k b)) (hp : a ≠ b) (h : xs Try.prog isI isS hs H full K rest ((d, .bool false) :: env) w) : xs Try.prog isI isS hs H full K (⟨some d, .binOp .eql t x y yt, ty, pos, af, none⟩ :: rest) env w := xcf hx hy rfl (by omega) h
theorem xs_eql {t yt : TypeId} {x y : Operand} {k : IntKind} {a b : Int} (hx : evo env x = some (.int k a)) (hy : evo env y = some (.int k b)) (ht : a = b → xs Try.prog isI isS hs H full K rest ((d, .bool true) :: env) w) (hf : a ≠ b → xs Try.prog isI isS hs H full K rest ((d, .bool false) :: env) w) : xs Try.prog isI isS hs H full K (⟨some d, .binOp .eql t x y yt, ty, pos, af, none⟩ :: rest) env w := xcs hx hy rfl ht (fun hn => hf (by omega))
theorem xt_neq {t yt : TypeId} {x y : Operand} {k : IntKind} {a b : Int} (hx : evo env x = some (.int k a)) (hy : evo env y = some (.int k b)) (hp : a ≠ b) (h : xs Try.prog isI isS hs H full K rest ((d, .bool true) :: env) w) : xs Try.prog isI isS hs H full K (⟨some d, .binOp .neq t x y yt, ty, pos, af, none⟩ :: rest) env w := xct hx hy rfl hp h
theorem xf_neq {t yt : TypeId} {x y : Operand} {k : IntKind} {a b : Int} (hx : evo env x = some (.int k a)) (hy : evo env y = some (.int k b)) (hp : a = b) (h : xs Try.prog isI isS hs H full K rest ((d, .bool false) :: env) w) : xs Try.prog isI isS hs H full K (⟨some d, .binOp .neq t x y yt, ty, pos, af, none⟩ :: rest) env w := xcf hx hy rfl (by omega) h
theorem xs_neq {t yt : TypeId} {x y : Operand} {k : IntKind} {a b : Int} (hx : evo env x = some (.int k a)) (hy : evo env y = some (.int k b)) (ht : a ≠ b → xs Try.prog isI isS hs H full K rest ((d, .bool true) :: env) w) (hf : a = b → xs Try.prog isI isS hs H full K rest ((d, .bool false) :: env) w) : xs Try.prog isI isS hs H full K (⟨some d, .binOp .neq t x y yt, ty, pos, af, none⟩ :: rest) env w := xcs hx hy rfl ht (fun hn => hf (by omega))
theorem xt_lss {t yt : TypeId} {x y : Operand} {k : IntKind} {a b : Int} (hx : evo env x = some (.int k a)) (hy : evo env y = some (.int k b)) (hp : a < b) (h : xs Try.prog isI isS hs H full K rest ((d, .bool true) :: env) w) : xs Try.prog isI isS hs H full K (⟨some d, .binOp .lss t x y yt, ty, pos, af, none⟩ :: rest) env w := xct hx hy rfl hp h
theorem xf_lss {t yt : TypeId} {x y : Operand} {k : IntKind} {a b : Int} (hx : evo env x = some (.int k a)) (hy : evo env y = some (.int k b)) (hp : b ≤ a) (h : xs Try.prog isI isS hs H full K rest ((d, .bool false) :: env) w) : xs Try.prog isI isS hs H full K (⟨some d, .binOp .lss t x y yt, ty, pos, af, none⟩ :: rest) env w := xcf hx hy rfl (by omega) h
theorem xs_lss {t yt : TypeId} {x y : Operand} {k : IntKind} {a b : Int} (hx : evo env x = some (.int k a)) (hy : evo env y = some (.int k b)) (ht : a < b → xs Try.prog isI isS hs H full K rest ((d, .bool true) :: env) w) (hf : b ≤ a → xs Try.prog isI isS hs H full K rest ((d, .bool false) :: env) w) : xs Try.prog isI isS hs H full K (⟨some d, .binOp .lss t x y yt, ty, pos, af, none⟩ :: rest) env w := xcs hx hy rfl ht (fun hn => hf (by omega))
theorem xt_leq {t yt : TypeId} {x y : Operand} {k : IntKind} {a b : Int} (hx : evo env x = some (.int k a)) (hy : evo env y = some (.int k b)) (hp : a ≤ b) (h : xs Try.prog isI isS hs H full K rest ((d, .bool true) :: env) w) : xs Try.prog isI isS hs H full K (⟨some d, .binOp .leq t x y yt, ty, pos, af, none⟩ :: rest) env w := xct hx hy rfl hp h
theorem xf_leq {t yt : TypeId} {x y : Operand} {k : IntKind} {a b : Int} (hx : evo env x = some (.int k a)) (hy : evo env y = some (.int k b)) (hp : b < a) (h : xs Try.prog isI isS hs H full K rest ((d, .bool false) :: env) w) : xs Try.prog isI isS hs H full K (⟨some d, .binOp .leq t x y yt, ty, pos, af, none⟩ :: rest) env w := xcf hx hy rfl (by omega) h
theorem xs_leq {t yt : TypeId} {x y : Operand} {k : IntKind} {a b : Int} (hx : evo env x = some (.int k a)) (hy : evo env y = some (.int k b)) (ht : a ≤ b → xs Try.prog isI isS hs H full K rest ((d, .bool true) :: env) w) (hf : b < a → xs Try.prog isI isS hs H full K rest ((d, .bool false) :: env) w) : xs Try.prog isI isS hs H full K (⟨some d, .binOp .leq t x y yt, ty, pos, af, none⟩ :: rest) env w := xcs hx hy rfl ht (fun hn => hf (by omega))
theorem xt_gtr {t yt : TypeId} {x y : Operand} {k : IntKind} {a b : Int} (hx : evo env x = some (.int k a)) (hy : evo env y = some (.int k b)) (hp : b < a) (h : xs Try.prog isI isS hs H full K rest ((d, .bool true) :: env) w) : xs Try.prog isI isS hs H full K (⟨some d, .binOp .gtr t x y yt, ty, pos, af, none⟩ :: rest) env w := xct hx hy rfl hp h
theorem xf_gtr {t yt : TypeId} {x y : Operand} {k : IntKind} {a b : Int} (hx : evo env x = some (.int k a)) (hy : evo env y = some (.int k b)) (hp : a ≤ b) (h : xs Try.prog isI isS hs H full K rest ((d, .bool false) :: env) w) : xs Try.prog isI isS hs H full K (⟨some d, .binOp .gtr t x y yt, ty, pos, af, none⟩ :: rest) env w := xcf hx hy rfl (by omega) h
theorem xs_gtr {t yt : TypeId} {x y : Operand} {k : IntKind} {a b : Int} (hx : evo env x = some (.int k a)) (hy : evo env y = some (.int k b)) (ht : b < a → xs Try.prog isI isS hs H full K rest ((d, .bool true) :: env) w) (hf : a ≤ b → xs Try.prog isI isS hs H full K rest ((d, .bool false) :: env) w) : xs Try.prog isI isS hs H full K (⟨some d, .binOp .gtr t x y yt, ty, pos, af, none⟩ :: rest) env w := xcs hx hy rfl ht (fun hn => hf (by omega))
theorem xt_geq {t yt : TypeId} {x y : Operand} {k : IntKind} {a b : Int} (hx : evo env x = some (.int k a)) (hy : evo env y = some (.int k b)) (hp : b ≤ a) (h : xs Try.prog isI isS hs H full K rest ((d, .bool true) :: env) w) : xs Try.prog isI isS hs H full K (⟨some d, .binOp .geq t x y yt, ty, pos, af, none⟩ :: rest) env w := xct hx hy rfl hp h
theorem xf_geq {t yt : TypeId} {x y : Operand} {k : IntKind} {a b : Int} (hx : evo env x = some (.int k a)) (hy : evo env y = some (.int k b)) (hp : a < b) (h : xs Try.prog isI isS hs H full K rest ((d, .bool false) :: env) w) : xs Try.prog isI isS hs H full K (⟨some d, .binOp .geq t x y yt, ty, pos, af, none⟩ :: rest) env w := xcf hx hy rfl (by omega) h
theorem xs_geq {t yt : TypeId} {x y : Operand} {k : IntKind} {a b : Int} (hx : evo env x = some (.int k a)) (hy : evo env y = some (.int k b)) (ht : b ≤ a → xs Try.prog isI isS hs H full K rest ((d, .bool true) :: env) w) (hf : a < b → xs Try.prog isI isS hs H full K rest ((d, .bool false) :: env) w) : xs Try.prog isI isS hs H full K (⟨some d, .binOp .geq t x y yt, ty, pos, af, none⟩ :: rest) env w := xcs hx hy rfl ht (fun hn => hf (by omega))
end
end Eng
end Go.Proofs.Ytighkjohpmlemaa
