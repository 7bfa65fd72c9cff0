/-
  The library's Itoa.
-/
import Derived.Test.YtalnkjpgnkfedaaGreatDoorMem
import Derived.Test.YtalnkjpgnkfedaaGreatDoorWa
import Derived.Test.YtalnkjpgnkfedaaGreatDoorIlay
namespace Go.Proofs.YtalnkjpgnkfedaaGreatDoor
open Go.RowKit
namespace Eng
/-- The library's table of powers of ten is there. -/
def PowT (w : World) : Prop := Lib.TabIs Tryz.prog w "internal/strconv.uint64pow10" .u64 Lib.pow10Tab
theorem PowT.ext {w w' : World} (h : PowT w) (hE : Ext w w') : PowT w' := by
  unfold PowT Lib.TabIs at h ⊢
  rw [← h]
  unfold World.var? at h ⊢
  cases hg : Tryz.prog.globalNamed "internal/strconv.uint64pow10" with
  | none => rfl
  | some g =>
    rw [hg] at h
    have hlt : g < w.heap.size := by
      rcases Nat.lt_or_ge g w.heap.size with hh | hh
      · exact hh
      · simp only [Option.bind_some, Array.getElem?_eq_none hh] at h
        cases h
    simp only [Option.bind_some, hE.block g hlt (fun hh => hh)]
/-- Decimal numerals. -/
def decS (n : Nat) : Str := Lib.itoa (n : Int)
theorem itoa_does (w : World) (n : Nat) (hn : n ≤ 9223372036854775807) (hP : PowT w) : Does Tryz.prog 48 #[.int .i64 (n : Int)] w fun r w' => r = .string (su (decS n)) ∧ Ext w w' := by
  refine Calls.mono (Any.strconv_Itoa laysItoa (n : Int) (by omega) (by omega) w hP) fun e w' ⟨he, k, os, hw⟩ => ?_
  refine ⟨_, he, rfl, ?_⟩
  subst hw
  refine ⟨rfl, rfl, rfl, by simp, fun j hj _ => ?_⟩
  exact Go.Sort.heap_grow_old _ _ (by simpa using hj)
end Eng
end Go.Proofs.YtalnkjpgnkfedaaGreatDoor
