/-
  Parts of the proof: Lare.
-/
import Derived.Lay
import Derived.Lib.LaidTab
import Derived.SevenTiedAt
import Derived.Stop.Joined
import Derived.Stop.LaidErr
import Derived.Test.YtbpmlbjapapoaaaGreatDoorCards
import Derived.Test.YtbpmlbjapapoaaaGreatDoorTie
import Derived.Test.YtbpmlbjapapoaaaGreatDoorQAn
import Derived.Test.YtbpmlbjapapoaaaGreatDoorQB0d
import Derived.Test.YtbpmlbjapapoaaaGreatDoorQTld
namespace Go.Proofs.YtbpmlbjapapoaaaGreatDoor
open Go.ChangeShapes Go.WideShapes Go.ChangeAt Go.RowKit Eng
set_option maxRecDepth 100000 in
theorem archRecs_lifted (os : Os) (started : os.Started) (H : Type) (enc : TypeId × Value → H) :
    ReturnsInHanded {} Tryz.checked os 3 .any (fun w args => (Rows.archRecsSpec.pre enc Tryz.prog Tryz.f3 Rows.archRecsRow.domain false w args ∧ laidMetH Tryz.prog Rows.archRecsRow.laid w) ∧ sizedMet enc Tryz.prog Tryz.f3 (OpenSpec.ofChange Rows.archRecsSpec) false w args)
      (Rows.archRecsSpec.post enc Tryz.prog Tryz.f3 false true false false) := by
  refine returnsInHanded_of_change_and (C := Tryz.checked) (X := fun w _ => laidMetH Tryz.prog Rows.archRecsRow.laid w) (fun _ _ _ hh h => h.of_heap hh) own_ started (by kernel_rfl) Tryz.func3
    (ChangeSpec.witness_shaped (enc := enc) (C := Tryz.checked) (os := os) (X := fun w _ => laidMetH Tryz.prog Rows.archRecsRow.laid w) false (World.laidAll Tryz.prog os Rows.archRecsRow.laid) #[.agg #[.slice none 0 0, .slice none 0 0]] 8 (World.laidAll_os _ _ _)
      (World.shaped_of_ZipB (by kernel_rfl) (by kernel_rfl)) (by kernel_rfl) (by kernel_rfl) (by kernel_rfl)
      (by rw [MakeChecks.laidMetH_plain _ _ _ (by kernel_rfl)]; exact laidMet_laidAll _ (by kernel_rfl) (by kernel_rfl))) ?_
  intro W base args ds gs before hval0 hW _ _ hL _
  have hval : ∀ (j : Nat) t v, Tryz.f3.params[j]? = some t → args[j]? = some v → Value.okWide Tryz.prog W .any base t v := hval0
  have hW' := hW
  obtain ⟨p, q, hA0, hV, rfl, hfz, hnd⟩ := hW
  have hA : DataW.TrodAll enc Tryz.prog W 0 (fun _ => true) true Tryz.f3.params.toList args.toList ds p := hA0
  rw [Tryz.params3] at hA hval
  obtain ⟨v0, d0, rfl, rfl, h0⟩ := trodAll_one hA
  obtain ⟨rfl, rfl⟩ := trodVars_none hV
  obtain ⟨ve0, vn0, l0, t0, rfl, r0⟩ := tree_of (hval 0 25 v0 rfl rfl) h0
  have hP : PowT W := by
    have hL' : laidMet Tryz.prog Rows.archRecsRow.laid W := by
      have h := hL
      rw [MakeChecks.laidMetH_plain _ _ _ (by kernel_rfl)] at h
      exact h
    exact Lib.tabIs_of_head (g := (Tryz.prog.globalNamed "internal/strconv.uint64pow10").getD 0) (by kernel_rfl) (by kernel_rfl) Tryz.underlying220 Tryz.underlying99 (by kernel_rfl) (by kernel_rfl) hL'.tail.tail
  clear hA0 hval0
  refine Calls.mono (archRecs_core Rn.told_does W ve0 vn0 l0 t0 r0 hP) fun e W' ⟨v, he, hr, hE⟩ => ?_
  subst hr
  exact ⟨_, he, post_law rfl rfl (by kernel_rfl) (by kernel_rfl) hW' hE⟩
set_option maxRecDepth 100000 in
theorem archRecs_facts : joinedFacts Tryz.prog 3 Tryz.f3 Rows.archRecsSpec Rows.archRecsRow = true := by kernel_rfl
set_option maxRecDepth 100000 in
theorem archRecs_stand : (Tryz.f3.params.toList.all fun u => !Tryz.prog.wantsStandIn u) = true := by kernel_rfl
set_option maxRecDepth 100000 in
theorem archRecs_look : true = Tryz.checked.prog.looks [] := by kernel_rfl
set_option maxRecDepth 100000 in
theorem archRecs_goes : false = Rows.archRecsRow.goesBy Tryz.checked.prog := by kernel_rfl
set_option maxRecDepth 100000 in
theorem archRecs_wf : Rows.archRecsRow.wfByText (OpenSpec.ofChange Rows.archRecsSpec) = true := by kernel_rfl
set_option maxRecDepth 100000 in
theorem archRecs_row : Rows.ArchRecsSaid :=
  OpenClaim.holds_of_wide 3 Tryz.f3 rfl rfl rfl rfl rfl rfl rfl ⟨rfl, rfl, rfl, rfl, rfl⟩ rfl rfl rfl rfl rfl (by kernel_rfl) Tryz.func3 archRecs_facts
    (of_decide_eq_true (by kernel_rfl)) (by unfold Func.isWrapper; first | (rw [if_pos (by decide +kernel)]; kernel_rfl) | (rw [if_neg (by decide +kernel)]; exact ⟨rfl, rfl⟩))
    (fun os started H enc _ => archRecs_lifted os started H enc)
set_option maxRecDepth 100000 in
theorem archRecs_holds : Rows.ArchRecsCardSaid :=
  Claim7.holds_tied_plain_at .later [] [.data, .data, .data, .sentinel, .sentinel] true (true, "06fbb43b1eaffaa157105eaa2c3fc3656114fe88355f8e7a1189cbd2e0fc80a2") true archRecs_row (fun _ h => by cases h) archRecs_wf (fun _ h => by cases h) archRecs_row_tie rfl ⟨rfl, rfl⟩ (by kernel_rfl) rfl
    (fun f fn hf hfn => by
      obtain rfl : f = 3 := Option.some.inj ((show Tryz.prog.funcNamed "steamer/steamerlaw22.ArchRecs" = some 3 by kernel_rfl).symm.trans hf) |>.symm
      obtain rfl : fn = Tryz.f3 := (Option.some.inj (Tryz.func3.symm.trans hfn)).symm
      exact ⟨archRecs_look, fun j t ht => by
        rw [Tryz.params3] at ht
        have hm := Array.mem_of_getElem? ht
        have hall := archRecs_stand
        rw [Tryz.params3] at hall
        exact (show Tryz.prog.wantsStandIn t = false by simpa using List.all_eq_true.1 hall t (by simpa using hm))⟩)
    archRecs_goes
#print axioms archRecs_holds
end Go.Proofs.YtbpmlbjapapoaaaGreatDoor
