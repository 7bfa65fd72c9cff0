/-
  Rules for strings.
-/
import Derived.Test.YtighkjohpmlemaaMem
import Derived.Laws.BytesArg
namespace Go.Proofs.Ytighkjohpmlemaa
open Go.RowKit
namespace Eng

variable {hs : List Nat} {H : World → Prop} {full : Array Oper} {K : Env → World → Prop} {rest : List Oper} {env : Env} {w : World} {d : Tmp} {ty : TypeId} {pos : String} {af : Array Edge}

theorem run_cbs {P : Program} {w : World} {A : Option Addr} {n c : Nat} {xs : List Int} {src e dst : TypeId} (hu : P.underlying src = some (.slice e)) (he : P.underlying e = some (.int .u8)) (hd : P.underlying dst = some .string) (hr : BRow w (.slice A n c) xs) :
    (convert src dst (.slice A n c)).run P w = .ok (.string (strOfNums xs)) w := by
  obtain ⟨A', c', e1, _, _, hA⟩ := hr
  injection e1 with e1 e2 e3
  subst e1; subst e3
  rcases Nat.eq_zero_or_pos xs.length with h0 | h0
  · have hx : xs = [] := List.eq_nil_of_length_eq_zero h0
    subst hx
    cases A with
    | none => rw [e2, run_convert_bytes_nil w src e hu he _ _ dst hd]; rfl
    | some a =>
      rw [e2, run_convert_bytes_string w src dst e _ _ _ hu he hd]
      simp [Conv.bytesToString, loadCells, loadCellsFrom]
      rfl
  · obtain ⟨b, o, rfl, _, hc⟩ := hA h0
    refine run_convert_bytes_arg w src e hu he b o n c xs e2.symm (fun i hi => ?_) dst hd
    exact hc i _ (by rw [List.getElem?_map, List.getElem?_eq_getElem (by omega), List.getD_eq_getElem?_getD, List.getElem?_eq_getElem (by omega)]; rfl)

/-- A string out of bytes. -/
theorem xcbs {x : Operand} {A : Option Addr} {n c : Nat} {zs : List Int} (hx : evo env x = some (.slice A n c)) (hr : BRow w (.slice A n c) zs)
    (h : xs Try.prog isI isS hs H full K rest ((d, .string (strOfNums zs)) :: env) w) (hm : memb hs (some d) = false := by rfl) : xs Try.prog isI isS hs H full K (⟨some d, .convert 23 9 x, ty, pos, af, none⟩ :: rest) env w := by
  refine x_gen rfl (by simp [opsOK, Op.operands, hx]) ?_
  have hcl : clsO isI isS hs ⟨some d, .convert 23 9 x, ty, pos, af, none⟩ = .r := by
    have h1 : isI 23 = false := by kernel_rfl
    have h2 : isS 9 = true := by kernel_rfl
    simp [clsO, cls, h1, h2, hm]
  rw [hcl]
  exact ⟨.string (strOfNums zs), by simp [execOp, ev_of hx, run_cbs Try.underlying23 Try.underlying5 Try.underlying9 hr], h⟩
/-- Two strings compared. -/
theorem xseq {t yt : TypeId} {x y : Operand} {a b : ByteArray} (hx : evo env x = some (.string a)) (hy : evo env y = some (.string b))
    (h : xs Try.prog isI isS hs H full K rest ((d, .bool (a.toList == b.toList)) :: env) w) : xs Try.prog isI isS hs H full K (⟨some d, .binOp .eql t x y yt, ty, pos, af, none⟩ :: rest) env w :=
  x_bin hx hy (eqGuard_at_string ..) (fun w' => by rw [binOp_string_eql]; simp) h
theorem xsne {t yt : TypeId} {x y : Operand} {a b : ByteArray} (hx : evo env x = some (.string a)) (hy : evo env y = some (.string b))
    (h : xs Try.prog isI isS hs H full K rest ((d, .bool !(a.toList == b.toList)) :: env) w) : xs Try.prog isI isS hs H full K (⟨some d, .binOp .neq t x y yt, ty, pos, af, none⟩ :: rest) env w :=
  x_bin hx hy (eqGuard_at_string ..) (fun w' => by rw [binOp_string_neq]; simp) h
end Eng
end Go.Proofs.Ytighkjohpmlemaa
