/-
  Parts of the proof: Lffr.
-/
import Derived.Lay
import Derived.SevenTiedAt
import Derived.Stop.Joined
import Derived.Test.YtiebbecknfpdeaaGreatDoorCards
import Derived.Test.YtiebbecknfpdeaaGreatDoorTie
import Derived.Test.YtiebbecknfpdeaaGreatDoorNB0b
import Derived.Test.YtiebbecknfpdeaaGreatDoorNB12b
namespace Go.Proofs.YtiebbecknfpdeaaGreatDoor
open Go.ChangeShapes Go.WideShapes Go.ChangeAt Go.RowKit Eng
set_option maxRecDepth 100000 in
theorem fsFrom_lifted (os : Os) (started : os.Started) (H : Type) (enc : TypeId × Value → H) :
    ReturnsInHanded {} Tryz.checked os 12 .any (fun w args => (Rows.fsFromSpec.pre enc Tryz.prog Tryz.f12 Rows.fsFromRow.domain false w args ∧ laidMetH Tryz.prog Rows.fsFromRow.laid w) ∧ sizedMet enc Tryz.prog Tryz.f12 (OpenSpec.ofChange Rows.fsFromSpec) false w args)
      (Rows.fsFromSpec.post enc Tryz.prog Tryz.f12 false true false false) := by
  refine returnsInHanded_of_change_and (C := Tryz.checked) (X := fun w _ => laidMetH Tryz.prog Rows.fsFromRow.laid w) (fun _ _ _ hh h => h.of_heap hh) own_ started (by kernel_rfl) Tryz.func12
    (ChangeSpec.witness_shaped (enc := enc) (C := Tryz.checked) (os := os) (X := fun w _ => laidMetH Tryz.prog Rows.fsFromRow.laid w) false (World.laidAll Tryz.prog os Rows.fsFromRow.laid) #[.agg #[.slice none 0 0, .slice none 0 0], .int .i64 0, .slice none 0 0] 8 (World.laidAll_os _ _ _)
      (World.shaped_of_ZipB (by kernel_rfl) (by kernel_rfl)) (by kernel_rfl) (by kernel_rfl) (by kernel_rfl)
      (by rw [MakeChecks.laidMetH_plain _ _ _ (by kernel_rfl)]; exact laidMet_laidAll _ (by kernel_rfl) (by kernel_rfl))) ?_
  intro W base args ds gs before hval0 hW _ _ _ _
  have hval : ∀ (j : Nat) t v, Tryz.f12.params[j]? = some t → args[j]? = some v → Value.okWide Tryz.prog W .any base t v := hval0
  have hW' := hW
  obtain ⟨p, q, hA0, hV, rfl, hfz, hnd⟩ := hW
  have hA : DataW.TrodAll enc Tryz.prog W 0 (fun _ => true) true Tryz.f12.params.toList args.toList ds p := hA0
  rw [Tryz.params12] at hA hval
  obtain ⟨v0, v1, v2, d0, d1, d2, p0, p1, p2, rfl, rfl, rfl, h0, h1, h2⟩ := trodAll_three hA
  obtain ⟨rfl, rfl⟩ := trodVars_none hV
  obtain ⟨ve0, vn0, l0, t0, rfl, r0⟩ := tree_of (hval 0 29 v0 rfl rfl) h0
  obtain ⟨z1, rfl, rfl, rfl, x1⟩ := open_int Tryz.underlying3 (hval 1 3 v1 rfl rfl) h1
  obtain ⟨z2, r2, o2⟩ := oprow_of (hval 2 85 v2 rfl rfl) h2
  clear hA0 hval0
  refine Calls.mono (fsFrom_core W ve0 vn0 v2 l0 t0 z1 z2 r0 r2 o2) fun e W' ⟨v, he, hr, hE⟩ => ?_
  subst hr
  exact ⟨_, he, post_law rfl rfl (by kernel_rfl) (by kernel_rfl) hW' hE⟩
set_option maxRecDepth 100000 in
theorem fsFrom_facts : joinedFacts Tryz.prog 12 Tryz.f12 Rows.fsFromSpec Rows.fsFromRow = true := by kernel_rfl
set_option maxRecDepth 100000 in
theorem fsFrom_stand : (Tryz.f12.params.toList.all fun u => !Tryz.prog.wantsStandIn u) = true := by kernel_rfl
set_option maxRecDepth 100000 in
theorem fsFrom_look : false = Tryz.checked.prog.looks [] := by kernel_rfl
set_option maxRecDepth 100000 in
theorem fsFrom_goes : false = Rows.fsFromRow.goesBy Tryz.checked.prog := by kernel_rfl
set_option maxRecDepth 100000 in
theorem fsFrom_wf : Rows.fsFromRow.wfByText (OpenSpec.ofChange Rows.fsFromSpec) = true := by kernel_rfl
set_option maxRecDepth 100000 in
theorem fsFrom_row : Rows.FsFromSaid :=
  OpenClaim.holds_of_wide 12 Tryz.f12 rfl rfl rfl rfl rfl rfl rfl ⟨rfl, rfl, rfl, rfl, rfl⟩ rfl rfl rfl rfl rfl (by kernel_rfl) Tryz.func12 fsFrom_facts
    (of_decide_eq_true (by kernel_rfl)) (by unfold Func.isWrapper; first | (rw [if_pos (by decide +kernel)]; kernel_rfl) | (rw [if_neg (by decide +kernel)]; exact ⟨rfl, rfl⟩))
    (fun os started H enc _ => fsFrom_lifted os started H enc)
set_option maxRecDepth 100000 in
theorem fsFrom_holds : Rows.FsFromCardSaid :=
  Claim7.holds_tied_plain_at .later [] [.data, .pinned] true (true, "732ee1b984e4be7c1850de9231cbf0e6bd452a78a846cf651d50674f53505f3e") false fsFrom_row (fun _ h => by cases h) fsFrom_wf (fun _ h => by cases h) fsFrom_row_tie rfl ⟨rfl, rfl⟩ (by kernel_rfl) rfl
    (fun f fn hf hfn => by
      obtain rfl : f = 12 := Option.some.inj ((show Tryz.prog.funcNamed "steamer/steamerlaw7.FsFrom" = some 12 by kernel_rfl).symm.trans hf) |>.symm
      obtain rfl : fn = Tryz.f12 := (Option.some.inj (Tryz.func12.symm.trans hfn)).symm
      exact ⟨fsFrom_look, fun j t ht => by
        rw [Tryz.params12] at ht
        have hm := Array.mem_of_getElem? ht
        have hall := fsFrom_stand
        rw [Tryz.params12] at hall
        exact (show Tryz.prog.wantsStandIn t = false by simpa using List.all_eq_true.1 hall t (by simpa using hm))⟩)
    fsFrom_goes
#print axioms fsFrom_holds
end Go.Proofs.YtiebbecknfpdeaaGreatDoor
