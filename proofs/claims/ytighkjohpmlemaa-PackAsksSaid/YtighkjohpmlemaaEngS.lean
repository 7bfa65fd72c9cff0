/-
  Rules for strings, told by the numbers of their bytes: length, byte, part, sum.
-/
import Derived.Test.YtighkjohpmlemaaEngH
import Derived.Test.YtighkjohpmlemaaEngD
import Derived.Laws.Strings2
namespace Go.Proofs.Ytighkjohpmlemaa
open Go.RowKit
namespace Eng

theorem str_app (a b : List Int) : strOfNums a ++ strOfNums b = strOfNums (a ++ b) := by
  apply ByteArray.ext
  simp [strOfNums]
theorem str_cut (zs : List Int) (l h : Nat) : (strOfNums zs).extract l h = strOfNums ((zs.drop l).take (h - l)) := by
  unfold strOfNums
  rw [ByteArray.extract_mk, List.map_take, List.map_drop]
theorem str_at (zs : List Int) (j : Nat) (h : j < (strOfNums zs).size) (h' : j < zs.length) : (strOfNums zs)[j] = UInt8.ofNat (zs[j]).toNat := by
  show (strOfNums zs).data[j] = _
  simp [strOfNums]

section
variable {hs : List Nat} {H : World → Prop} {full : Array Oper} {K : Env → World → Prop} {rest : List Oper} {env : Env} {w : World} {d : Tmp} {ty : TypeId} {pos : String} {af : Array Edge}

/-- The length of a string. -/
theorem xsln {x : Operand} {t : TypeId} {zs : List Int} (hx : evo env x = some (.string (strOfNums zs))) (ht : isS t = true) (h : xs Try.prog isI isS hs H full K rest ((d, .int .i64 (zs.length : Int)) :: env) w) :
    xs Try.prog isI isS hs H full K (⟨some d, .call { callee := .builtin .len, args := ⟨[x]⟩, argTypes := ⟨[t]⟩ }, ty, pos, af, none⟩ :: rest) env w :=
  xln hx (by simp [lnV, ht, strOfNums_size]) h
/-- Two strings, one behind the other. -/
theorem xsadd {t yt : TypeId} {x y : Operand} {a b : List Int} (hx : evo env x = some (.string (strOfNums a))) (hy : evo env y = some (.string (strOfNums b))) (hl : a.length + b.length ≤ 9223372036854775807)
    (h : xs Try.prog isI isS hs H full K rest ((d, .string (strOfNums (a ++ b))) :: env) w) : xs Try.prog isI isS hs H full K (⟨some d, .binOp .add t x y yt, ty, pos, af, none⟩ :: rest) env w := by
  refine x_bin hx hy (eqGuard_at_string ..) (fun w' => ?_) h
  rw [binOp_string_add]
  have hn : ¬ (((strOfNums a).size + (strOfNums b).size : Nat) : Int) > IntKind.i64.max := by
    rw [strOfNums_size, strOfNums_size]
    simp [IntKind.max, IntKind.signed, IntKind.bits]
    omega
  simp only [Op.stringOp, if_neg hn, str_app]
  rfl
/-- s[lo:hi]. -/
theorem xssl2 {t : TypeId} {x lo hi : Operand} {k k' : IntKind} {zs : List Int} {jl jh : Int} (l h : Nat) (ht : isS t = true) (hx : evo env x = some (.string (strOfNums zs))) (hlo : evo env lo = some (.int k jl)) (hhi : evo env hi = some (.int k' jh)) (el : jl = l) (eh : jh = h) (h1 : l ≤ h) (h2 : h ≤ zs.length)
    (hc : xs Try.prog isI isS hs H full K rest ((d, .string (strOfNums ((zs.drop l).take (h - l)))) :: env) w) :
    xs Try.prog isI isS hs H full K (⟨some d, .slice t x (some lo) (some hi) none, ty, pos, af, none⟩ :: rest) env w := by
  subst el; subst eh
  refine x_gen rfl (by simp [opsOK, Op.operands, hx, hlo, hhi]) ⟨_, fun w' => ?_, hc⟩
  have := run_slice_string (P := Try.prog) w' t (strOfNums zs) k k' l h (str_spec ht) (by omega) (by omega) (by rw [strOfNums_size]; omega)
  rw [Int.toNat_natCast, Int.toNat_natCast, str_cut] at this
  simp [execOp, ev_of hx, ev_of hlo, ev_of hhi, run_sliceAt_string w' t _ _ _ _ (str_spec ht), this]
/-- s[lo:]. -/
theorem xssl1 {t : TypeId} {x lo : Operand} {k : IntKind} {zs : List Int} {jl : Int} (l : Nat) (ht : isS t = true) (hx : evo env x = some (.string (strOfNums zs))) (hlo : evo env lo = some (.int k jl)) (el : jl = l) (h1 : l ≤ zs.length)
    (hc : xs Try.prog isI isS hs H full K rest ((d, .string (strOfNums (zs.drop l))) :: env) w) :
    xs Try.prog isI isS hs H full K (⟨some d, .slice t x (some lo) none none, ty, pos, af, none⟩ :: rest) env w := by
  subst el
  refine x_gen rfl (by simp [opsOK, Op.operands, hx, hlo]) ⟨_, fun w' => ?_, hc⟩
  have := run_slice_string_l (P := Try.prog) w' t (strOfNums zs) (str_spec ht) k l (by omega) (by rw [strOfNums_size]; omega)
  rw [Int.toNat_natCast, strOfNums_size, str_cut, List.take_of_length_le (by rw [List.length_drop]; omega)] at this
  simp [execOp, ev_of hx, ev_of hlo, run_sliceAt_string w' t _ _ _ _ (str_spec ht), this]
/-- s[:hi]. -/
theorem xssl0 {t : TypeId} {x hi : Operand} {k' : IntKind} {zs : List Int} {jh : Int} (h : Nat) (ht : isS t = true) (hx : evo env x = some (.string (strOfNums zs))) (hhi : evo env hi = some (.int k' jh)) (eh : jh = h) (h2 : h ≤ zs.length)
    (hc : xs Try.prog isI isS hs H full K rest ((d, .string (strOfNums (zs.take h))) :: env) w) :
    xs Try.prog isI isS hs H full K (⟨some d, .slice t x none (some hi) none, ty, pos, af, none⟩ :: rest) env w := by
  subst eh
  refine x_gen rfl (by simp [opsOK, Op.operands, hx, hhi]) ⟨_, fun w' => ?_, hc⟩
  have := run_slice_string_h (P := Try.prog) w' t (strOfNums zs) (str_spec ht) k' h (by omega) (by rw [strOfNums_size]; omega)
  rw [Int.toNat_natCast, str_cut, List.drop_zero, Nat.sub_zero] at this
  simp [execOp, ev_of hx, ev_of hhi, run_sliceAt_string w' t _ _ _ _ (str_spec ht), this]
end
end Eng
end Go.Proofs.Ytighkjohpmlemaa
