/- The law HuffShort returns true for every input, and the input reads as it did. No conditions. -/
import Derived.Test.YtighkjohpmlemaaHm
import Derived.Test.YtighkjohpmlemaaRow
namespace Go.Proofs.Ytighkjohpmlemaa
open Go.ChangeShapes Go.WideShapes Go.ChangeAt Go.RowKit Eng

theorem cells_int : Try.prog.cellsOf 3 = 1 := by kernel_rfl

set_option maxRecDepth 100000 in
theorem huffShort_lifted (os : Os) (started : os.Started) (H : Type) (enc : TypeId × Value → H) :
    ReturnsInHanded {} Try.checked os 4 .any (Rows.huffShortSpec.pre6 enc Try.prog Try.f4 Rows.huffShortRow.domain false) (Rows.huffShortSpec.post enc Try.prog Try.f4 false true false false) := by
  refine returnsInHanded_of_change (C := Try.checked) own_ started (by kernel_rfl) Try.func4
    (ChangeSpec.witness6 (enc := enc) (C := Try.checked) false ⟨#[], #[.slice none 0 0], []⟩ 8 (by kernel_rfl) (by kernel_rfl) (by kernel_rfl) (by kernel_rfl)) ?_
  intro W base args ds gs before hval0 hW _ _
  have hval : ∀ (j : Nat) t v, Try.f4.params[j]? = some t → args[j]? = some v → Value.okWide Try.prog W .any base t v := hval0
  have hW' := hW
  obtain ⟨p, q, hA0, hV, rfl, hfz, hnd⟩ := hW
  have hA : DataW.TrodAll enc Try.prog W 0 (fun _ => true) true Try.f4.params.toList args.toList ds p := hA0
  rw [Try.params4] at hA hval
  obtain ⟨v0, d0, rfl, rfl, h0⟩ := trodAll_one hA
  obtain ⟨rfl, rfl⟩ := trodVars_none hV
  obtain ⟨zs, hrow, _⟩ := irow_of Try.underlying22 Try.underlying3 cells_int (hval 0 22 v0 rfl rfl) h0
  clear hA0 hval0
  refine Calls.mono (huffShort_does W v0 zs hrow) fun e W' ⟨v, he, hr, hE⟩ => ?_
  subst hr
  exact ⟨_, he, post_law rfl rfl (by kernel_rfl) (by kernel_rfl) hW' hE⟩

theorem huffShort_holds : Rows.HuffShortSaid :=
  OpenClaim.holds_of_wide 4 Try.f4 rfl rfl rfl rfl rfl rfl rfl ⟨rfl, rfl, rfl, rfl, rfl⟩ rfl rfl rfl rfl rfl (by kernel_rfl) Try.func4 (by kernel_rfl)
    (of_decide_eq_true (by kernel_rfl)) (by unfold Func.isWrapper; first | (rw [if_pos (by decide +kernel)]; kernel_rfl) | (rw [if_neg (by decide +kernel)]; exact ⟨rfl, rfl⟩))
    (fun os started H enc _ => huffShort_lifted os started H enc)
#print axioms huffShort_holds
end Go.Proofs.Ytighkjohpmlemaa
