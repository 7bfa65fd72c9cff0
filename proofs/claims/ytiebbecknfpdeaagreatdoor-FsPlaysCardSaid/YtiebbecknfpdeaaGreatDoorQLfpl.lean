/-
  Parts of the proof: Lfpl.
-/
import Derived.Lay
import Derived.SevenTiedAt
import Derived.Stop.Joined
import Derived.Test.YtiebbecknfpdeaaGreatDoorCards
import Derived.Test.YtiebbecknfpdeaaGreatDoorTie
import Derived.Test.YtiebbecknfpdeaaGreatDoorQB0b
import Derived.Test.YtiebbecknfpdeaaGreatDoorQB12b
namespace Go.Proofs.YtiebbecknfpdeaaGreatDoor
open Go.ChangeShapes Go.WideShapes Go.ChangeAt Go.RowKit Eng
set_option maxRecDepth 100000 in
theorem fsPlays_lifted (os : Os) (started : os.Started) (H : Type) (enc : TypeId × Value → H) :
    ReturnsInHanded {} Tryz.checked os 13 .any (fun w args => (Rows.fsPlaysSpec.pre enc Tryz.prog Tryz.f13 Rows.fsPlaysRow.domain false w args ∧ laidMetH Tryz.prog Rows.fsPlaysRow.laid w) ∧ sizedMet enc Tryz.prog Tryz.f13 (OpenSpec.ofChange Rows.fsPlaysSpec) false w args)
      (Rows.fsPlaysSpec.post enc Tryz.prog Tryz.f13 false true false false) := by
  refine returnsInHanded_of_change_and (C := Tryz.checked) (X := fun w _ => laidMetH Tryz.prog Rows.fsPlaysRow.laid w) (fun _ _ _ hh h => h.of_heap hh) own_ started (by kernel_rfl) Tryz.func13
    (ChangeSpec.witness_shaped (enc := enc) (C := Tryz.checked) (os := os) (X := fun w _ => laidMetH Tryz.prog Rows.fsPlaysRow.laid w) false (World.laidAll Tryz.prog os Rows.fsPlaysRow.laid) #[.int .i64 0, .slice none 0 0, .slice none 0 0] 8 (World.laidAll_os _ _ _)
      (World.shaped_of_ZipB (by kernel_rfl) (by kernel_rfl)) (by kernel_rfl) (by kernel_rfl) (by kernel_rfl)
      (by rw [MakeChecks.laidMetH_plain _ _ _ (by kernel_rfl)]; exact laidMet_laidAll _ (by kernel_rfl) (by kernel_rfl))) ?_
  intro W base args ds gs before hval0 hW _ _ _ _
  have hval : ∀ (j : Nat) t v, Tryz.f13.params[j]? = some t → args[j]? = some v → Value.okWide Tryz.prog W .any base t v := hval0
  have hW' := hW
  obtain ⟨p, q, hA0, hV, rfl, hfz, hnd⟩ := hW
  have hA : DataW.TrodAll enc Tryz.prog W 0 (fun _ => true) true Tryz.f13.params.toList args.toList ds p := hA0
  rw [Tryz.params13] at hA hval
  obtain ⟨v0, v1, v2, d0, d1, d2, p0, p1, p2, rfl, rfl, rfl, h0, h1, h2⟩ := trodAll_three hA
  obtain ⟨rfl, rfl⟩ := trodVars_none hV
  obtain ⟨z0, rfl, rfl, rfl, x0⟩ := open_int Tryz.underlying3 (hval 0 3 v0 rfl rfl) h0
  obtain ⟨z1, r1⟩ := flrow_of (hval 1 23 v1 rfl rfl) h1
  obtain ⟨z2, r2, o2⟩ := oprow_of (hval 2 85 v2 rfl rfl) h2
  clear hA0 hval0
  refine Calls.mono (fsPlays_core W v1 v2 z0 z1 z2 r1 r2 o2) fun e W' ⟨v, he, hr, hE⟩ => ?_
  subst hr
  exact ⟨_, he, post_law rfl rfl (by kernel_rfl) (by kernel_rfl) hW' hE⟩
set_option maxRecDepth 100000 in
theorem fsPlays_facts : joinedFacts Tryz.prog 13 Tryz.f13 Rows.fsPlaysSpec Rows.fsPlaysRow = true := by kernel_rfl
set_option maxRecDepth 100000 in
theorem fsPlays_stand : (Tryz.f13.params.toList.all fun u => !Tryz.prog.wantsStandIn u) = true := by kernel_rfl
set_option maxRecDepth 100000 in
theorem fsPlays_look : false = Tryz.checked.prog.looks [] := by kernel_rfl
set_option maxRecDepth 100000 in
theorem fsPlays_goes : false = Rows.fsPlaysRow.goesBy Tryz.checked.prog := by kernel_rfl
set_option maxRecDepth 100000 in
theorem fsPlays_wf : Rows.fsPlaysRow.wfByText (OpenSpec.ofChange Rows.fsPlaysSpec) = true := by kernel_rfl
set_option maxRecDepth 100000 in
theorem fsPlays_row : Rows.FsPlaysSaid :=
  OpenClaim.holds_of_wide 13 Tryz.f13 rfl rfl rfl rfl rfl rfl rfl ⟨rfl, rfl, rfl, rfl, rfl⟩ rfl rfl rfl rfl rfl (by kernel_rfl) Tryz.func13 fsPlays_facts
    (of_decide_eq_true (by kernel_rfl)) (by unfold Func.isWrapper; first | (rw [if_pos (by decide +kernel)]; kernel_rfl) | (rw [if_neg (by decide +kernel)]; exact ⟨rfl, rfl⟩))
    (fun os started H enc _ => fsPlays_lifted os started H enc)
set_option maxRecDepth 100000 in
theorem fsPlays_holds : Rows.FsPlaysCardSaid :=
  Claim7.holds_tied_plain_at .later [] [.data, .pinned] true (true, "732ee1b984e4be7c1850de9231cbf0e6bd452a78a846cf651d50674f53505f3e") false fsPlays_row (fun _ h => by cases h) fsPlays_wf (fun _ h => by cases h) fsPlays_row_tie rfl ⟨rfl, rfl⟩ (by kernel_rfl) rfl
    (fun f fn hf hfn => by
      obtain rfl : f = 13 := Option.some.inj ((show Tryz.prog.funcNamed "steamer/steamerlaw7.FsPlays" = some 13 by kernel_rfl).symm.trans hf) |>.symm
      obtain rfl : fn = Tryz.f13 := (Option.some.inj (Tryz.func13.symm.trans hfn)).symm
      exact ⟨fsPlays_look, fun j t ht => by
        rw [Tryz.params13] at ht
        have hm := Array.mem_of_getElem? ht
        have hall := fsPlays_stand
        rw [Tryz.params13] at hall
        exact (show Tryz.prog.wantsStandIn t = false by simpa using List.all_eq_true.1 hall t (by simpa using hm))⟩)
    fsPlays_goes
#print axioms fsPlays_holds
end Go.Proofs.YtiebbecknfpdeaaGreatDoor
