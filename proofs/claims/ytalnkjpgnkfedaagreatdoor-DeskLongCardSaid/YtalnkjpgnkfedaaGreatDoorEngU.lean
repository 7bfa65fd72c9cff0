/-
  Rules for strings told by their bytes: length, byte, part, sum, comparisons; floats and complex numbers of whole numbers.
-/
import Derived.Test.YtalnkjpgnkfedaaGreatDoorEngE
import Derived.Test.YtalnkjpgnkfedaaGreatDoorEngD
import Derived.Test.YtalnkjpgnkfedaaGreatDoorFl
import Derived.Laws.BytesArg
import Derived.Laws.Strings2
import Derived.Laws.Cover1
namespace Go.Proofs.YtalnkjpgnkfedaaGreatDoor
open Go.RowKit
namespace Eng

abbrev Str := List UInt8
/-- The string of these bytes. -/
def su (l : Str) : ByteArray := ⟨l.toArray⟩
theorem su_list (l : Str) : (su l).toList = l := by
  rw [ByteArray.toList_eq]; simp [su]
theorem su_size (l : Str) : (su l).size = l.length := by show l.toArray.size = _; simp
theorem su_inj {a b : Str} (h : su a = su b) : a = b := by
  have := congrArg ByteArray.toList h
  rwa [su_list, su_list] at this
theorem su_of (b : ByteArray) : ∃ l, b = su l := ⟨b.data.toList, by apply ByteArray.ext; simp [su]⟩
theorem su_app (a b : Str) : su a ++ su b = su (a ++ b) := by
  apply ByteArray.ext
  simp [su]
theorem su_cut (zs : Str) (l h : Nat) : (su zs).extract l h = su ((zs.drop l).take (h - l)) := by
  unfold su
  rw [ByteArray.extract_mk]
  try simp
section
variable {hs : List Nat} {H : World → Prop} {full : Array Oper} {K : Env → World → Prop} {rest : List Oper} {env : Env} {w : World} {d : Tmp} {ty : TypeId} {pos : String} {af : Array Edge}

/-- The length of a string. -/
theorem xuln {x : Operand} {t : TypeId} {l : Str} (hx : evo env x = some (.string (su l))) (ht : isS t = true) (h : xs Tryz.prog isI isS hs H full K rest ((d, .int .i64 (l.length : Int)) :: env) w) :
    xs Tryz.prog isI isS hs H full K (⟨some d, .call { callee := .builtin .len, args := ⟨[x]⟩, argTypes := ⟨[t]⟩ }, ty, pos, af, none⟩ :: rest) env w :=
  xln hx (by simp [lnV, ht, su_size]) h
theorem xuln0 {x : Operand} {t : TypeId} (hx : evo env x = some (.string (su []))) (ht : isS t = true) (h : xs Tryz.prog isI isS hs H full K rest ((d, .int .i64 0) :: env) w) :
    xs Tryz.prog isI isS hs H full K (⟨some d, .call { callee := .builtin .len, args := ⟨[x]⟩, argTypes := ⟨[t]⟩ }, ty, pos, af, none⟩ :: rest) env w := xuln hx ht h
theorem xuln1 {x : Operand} {t : TypeId} {c : UInt8} (hx : evo env x = some (.string (su [c]))) (ht : isS t = true) (h : xs Tryz.prog isI isS hs H full K rest ((d, .int .i64 1) :: env) w) :
    xs Tryz.prog isI isS hs H full K (⟨some d, .call { callee := .builtin .len, args := ⟨[x]⟩, argTypes := ⟨[t]⟩ }, ty, pos, af, none⟩ :: rest) env w := xuln hx ht h
/-- Two strings, one behind the other. -/
theorem xuadd {t yt : TypeId} {x y : Operand} {a b : Str} (hx : evo env x = some (.string (su a))) (hy : evo env y = some (.string (su b))) (hl : a.length + b.length ≤ 9223372036854775807)
    (h : xs Tryz.prog isI isS hs H full K rest ((d, .string (su (a ++ b))) :: env) w) : xs Tryz.prog isI isS hs H full K (⟨some d, .binOp .add t x y yt, ty, pos, af, none⟩ :: rest) env w := by
  refine x_bin hx hy (eqGuard_at_string ..) (fun w' => ?_) h
  rw [binOp_string_add]
  have hn : ¬ (((su a).size + (su b).size : Nat) : Int) > IntKind.i64.max := by
    rw [su_size, su_size]
    simp [IntKind.max, IntKind.signed, IntKind.bits]
    omega
  simp only [Op.stringOp, if_neg hn, su_app]
  rfl
/-- What a comparison of strings gives. -/
def cmpU (op : BinOp) (a b : Str) : Option Bool := match op with
  | .eql => some (decide (a = b))
  | .neq => some (!decide (a = b))
  | .lss => some (Op.bytesLess a b)
  | .leq => some (Op.bytesLess a b || decide (a = b))
  | .gtr => some (!(Op.bytesLess a b || decide (a = b)))
  | .geq => some (!Op.bytesLess a b)
  | _ => none
theorem beq_dec (a b : Str) : (a == b) = decide (a = b) := by
  by_cases h : a = b
  · simp [h]
  · simp [h]
/-- Two strings compared; r: the answer, known beforehand. -/
theorem xucmp {op : BinOp} {t yt : TypeId} {x y : Operand} {a b : Str} {r : Bool} (hx : evo env x = some (.string (su a))) (hy : evo env y = some (.string (su b))) (hr : cmpU op a b = some r)
    (h : xs Tryz.prog isI isS hs H full K rest ((d, .bool r) :: env) w) : xs Tryz.prog isI isS hs H full K (⟨some d, .binOp op t x y yt, ty, pos, af, none⟩ :: rest) env w := by
  refine x_bin hx hy (eqGuard_at_string ..) (fun w' => ?_) h
  unfold cmpU at hr
  split at hr <;> first | (injection hr with hr; subst hr; first | (rw [binOp_string_eql, su_list, su_list, beq_dec]; try rfl) | (rw [binOp_string_neq, su_list, su_list, beq_dec]; try rfl) | (rw [binOp_string_lss, su_list, su_list]; try rfl) | (rw [binOp_string_leq, su_list, su_list, beq_dec]; try rfl) | (rw [binOp_string_gtr, su_list, su_list, beq_dec]; try rfl) | (rw [binOp_string_geq, su_list, su_list]; try rfl)) | cases hr
/-- s[lo:hi]. -/
theorem xusl2 {t : TypeId} {x lo hi : Operand} {k k' : IntKind} {zs : Str} {jl jh : Int} (l h : Nat) (ht : isS t = true) (hx : evo env x = some (.string (su zs))) (hlo : evo env lo = some (.int k jl)) (hhi : evo env hi = some (.int k' jh)) (el : jl = l) (eh : jh = h) (h1 : l ≤ h) (h2 : h ≤ zs.length)
    (hc : xs Tryz.prog isI isS hs H full K rest ((d, .string (su ((zs.drop l).take (h - l)))) :: env) w) :
    xs Tryz.prog isI isS hs H full K (⟨some d, .slice t x (some lo) (some hi) none, ty, pos, af, none⟩ :: rest) env w := by
  subst el; subst eh
  refine x_gen rfl (by simp [opsOK, Op.operands, hx, hlo, hhi]) ⟨_, fun w' => ?_, hc⟩
  have := run_slice_string (P := Tryz.prog) w' t (su zs) k k' l h (str_spec ht) (by omega) (by omega) (by rw [su_size]; omega)
  rw [Int.toNat_natCast, Int.toNat_natCast, su_cut] at this
  simp [execOp, ev_of hx, ev_of hlo, ev_of hhi, run_sliceAt_string w' t _ _ _ _ (str_spec ht), this]
/-- s[lo:]. -/
theorem xusl1 {t : TypeId} {x lo : Operand} {k : IntKind} {zs : Str} {jl : Int} (l : Nat) (ht : isS t = true) (hx : evo env x = some (.string (su zs))) (hlo : evo env lo = some (.int k jl)) (el : jl = l) (h1 : l ≤ zs.length)
    (hc : xs Tryz.prog isI isS hs H full K rest ((d, .string (su (zs.drop l))) :: env) w) :
    xs Tryz.prog isI isS hs H full K (⟨some d, .slice t x (some lo) none none, ty, pos, af, none⟩ :: rest) env w := by
  subst el
  refine x_gen rfl (by simp [opsOK, Op.operands, hx, hlo]) ⟨_, fun w' => ?_, hc⟩
  have := run_slice_string_l (P := Tryz.prog) w' t (su zs) (str_spec ht) k l (by omega) (by rw [su_size]; omega)
  rw [Int.toNat_natCast, su_size, su_cut, List.take_of_length_le (by rw [List.length_drop]; omega)] at this
  simp [execOp, ev_of hx, ev_of hlo, run_sliceAt_string w' t _ _ _ _ (str_spec ht), this]
/-- s[:hi]. -/
theorem xusl0 {t : TypeId} {x hi : Operand} {k' : IntKind} {zs : Str} {jh : Int} (h : Nat) (ht : isS t = true) (hx : evo env x = some (.string (su zs))) (hhi : evo env hi = some (.int k' jh)) (eh : jh = h) (h2 : h ≤ zs.length)
    (hc : xs Tryz.prog isI isS hs H full K rest ((d, .string (su (zs.take h))) :: env) w) :
    xs Tryz.prog isI isS hs H full K (⟨some d, .slice t x none (some hi) none, ty, pos, af, none⟩ :: rest) env w := by
  subst eh
  refine x_gen rfl (by simp [opsOK, Op.operands, hx, hhi]) ⟨_, fun w' => ?_, hc⟩
  have := run_slice_string_h (P := Tryz.prog) w' t (su zs) (str_spec ht) k' h (by omega) (by rw [su_size]; omega)
  rw [Int.toNat_natCast, su_cut, List.drop_zero, Nat.sub_zero] at this
  simp [execOp, ev_of hx, ev_of hhi, run_sliceAt_string w' t _ _ _ _ (str_spec ht), this]
theorem run_ui {P : Program} {w : World} {t : TypeId} {k : IntKind} {zs : Str} {j : Nat} {z : UInt8} (ht : P.underlying t = some .string) (hz : zs[j]? = some z) : (Instr.index t (.string (su zs)) (.int k (j : Int))).run P w = .ok (.int .u8 (z.toNat : Int)) w := by
  have hlt : j < zs.length := (List.getElem?_eq_some_iff.1 hz).1
  have hsz := su_size zs
  have hv : ∀ (i : Nat), i = j → ∀ (h : i < (su zs).size), (su zs)[i]'h = z := by
    rintro i rfl h
    have : (su zs)[i] = (su zs).data[i]'h := rfl
    rw [this]
    have hz' : zs[i] = z := Option.some.inj ((List.getElem?_eq_getElem hlt).symm.trans hz)
    simp only [su, List.getElem_toArray]
    exact hz'
  rw [run_index_string w t (su zs) k (j : Int) ht, dif_pos ⟨by omega, by omega⟩, hv _ (by omega)]
/-- A byte of a string. -/
theorem xui {t : TypeId} {x i : Operand} {k : IntKind} {zs : Str} {jz : Int} {z : UInt8} (j : Nat) (ht : isS t = true) (hx : evo env x = some (.string (su zs))) (hi : evo env i = some (.int k jz)) (hj : jz = j) (hz : zs[j]? = some z)
    (h : xs Tryz.prog isI isS hs H full K rest ((d, .int .u8 (z.toNat : Int)) :: env) w) : xs Tryz.prog isI isS hs H full K (⟨some d, .index t x i, ty, pos, af, none⟩ :: rest) env w := by
  subst hj
  refine x_gen rfl (by simp [opsOK, Op.operands, hx, hi]) ⟨_, fun w' => ?_, h⟩
  have hr := run_ui (P := Tryz.prog) (w := w') (t := t) (k := k) (str_spec ht) hz
  simp [execOp, ev_of hx, ev_of hi, hr]
end
end Eng
end Go.Proofs.YtalnkjpgnkfedaaGreatDoor
