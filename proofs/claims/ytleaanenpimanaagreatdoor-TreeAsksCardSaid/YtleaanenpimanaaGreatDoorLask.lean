/- The law TreeAsks returns true for every input, and the input reads as it did; what the row lists of Go's library is tied to the program's text. No conditions. -/
import Derived.Test.YtleaanenpimanaaGreatDoorYn
import Derived.Test.YtleaanenpimanaaGreatDoorYo
import Derived.Test.YtleaanenpimanaaGreatDoorRow
import Derived.Test.YtleaanenpimanaaGreatDoorTie
import Derived.Test.YtleaanenpimanaaGreatDoorCards
import Derived.Lay
import Derived.SevenTiedAt
import Derived.Stop.Joined
namespace Go.Proofs.YtleaanenpimanaaGreatDoor
open Go.ChangeShapes Go.WideShapes Go.ChangeAt Go.RowKit Eng

set_option maxRecDepth 100000 in
theorem treeAsks_lifted (os : Os) (started : os.Started) (H : Type) (enc : TypeId × Value → H) :
    ReturnsInHanded {} Tryz.checked os 3 .any (fun w args => (Rows.treeAsksSpec.pre enc Tryz.prog Tryz.f3 Rows.treeAsksRow.domain false w args ∧ laidMetH Tryz.prog Rows.treeAsksRow.laid w) ∧ sizedMet enc Tryz.prog Tryz.f3 (OpenSpec.ofChange Rows.treeAsksSpec) false w args)
      (Rows.treeAsksSpec.post enc Tryz.prog Tryz.f3 false true false false) := by
  refine returnsInHanded_of_change_and (C := Tryz.checked) (X := fun w _ => laidMetH Tryz.prog Rows.treeAsksRow.laid w) (fun _ _ _ hh h => h.of_heap hh) own_ started (by kernel_rfl) Tryz.func3
    (ChangeSpec.witness_shaped (enc := enc) (C := Tryz.checked) (os := os) (X := fun w _ => laidMetH Tryz.prog Rows.treeAsksRow.laid w) false (World.laidAll Tryz.prog os Rows.treeAsksRow.laid) #[.agg #[.slice none 0 0, .slice none 0 0], .agg #[.slice none 0 0, .slice none 0 0], .string ⟨#[]⟩, .slice none 0 0] 8 (World.laidAll_os _ _ _)
      (World.shaped_of_ZipB (by kernel_rfl) (by kernel_rfl)) (by kernel_rfl) (by kernel_rfl) (by kernel_rfl)
      (by rw [MakeChecks.laidMetH_plain _ _ _ (by kernel_rfl)]; exact laidMet_laidAll _ (by kernel_rfl) (by kernel_rfl))) ?_
  intro W base args ds gs before hval0 hW _ _ _ _
  have hval : ∀ (j : Nat) t v, Tryz.f3.params[j]? = some t → args[j]? = some v → Value.okWide Tryz.prog W .any base t v := hval0
  have hW' := hW
  obtain ⟨p, q, hA0, hV, rfl, hfz, hnd⟩ := hW
  have hA : DataW.TrodAll enc Tryz.prog W 0 (fun _ => true) true Tryz.f3.params.toList args.toList ds p := hA0
  rw [Tryz.params3] at hA hval
  obtain ⟨v0, v1, v2, v3, d0, d1, d2, d3, p0, p1, p2, p3, rfl, rfl, rfl, h0, h1, h2, h3⟩ := trodAll_four hA
  obtain ⟨rfl, rfl⟩ := trodVars_none hV
  obtain ⟨ve0, vn0, l0, t0, rfl, r0⟩ := tree_of (hval 0 25 v0 rfl rfl) h0
  obtain ⟨ve1, vn1, l1, t1, rfl, r1⟩ := tree_of (hval 1 25 v1 rfl rfl) h1
  obtain ⟨z2, rfl⟩ := str_of (hval 2 9 v2 rfl rfl) h2
  obtain ⟨z3, r3⟩ := srow_of (hval 3 26 v3 rfl rfl) h3
  clear hA0 hval0
  refine Calls.mono (treeAsks_core W ve0 vn0 ve1 vn1 v3 l0 l1 t0 t1 z2 z3 r0 r1 r3) fun e W' ⟨v, he, hr, hE⟩ => ?_
  subst hr
  exact ⟨_, he, post_law rfl rfl (by kernel_rfl) (by kernel_rfl) hW' hE⟩

theorem treeAsks_row : Rows.TreeAsksSaid :=
  OpenClaim.holds_of_wide 3 Tryz.f3 rfl rfl rfl rfl rfl rfl rfl ⟨rfl, rfl, rfl, rfl, rfl⟩ rfl rfl rfl rfl rfl (by kernel_rfl) Tryz.func3 (by kernel_rfl)
    (of_decide_eq_true (by kernel_rfl)) (by unfold Func.isWrapper; first | (rw [if_pos (by decide +kernel)]; kernel_rfl) | (rw [if_neg (by decide +kernel)]; exact ⟨rfl, rfl⟩))
    (fun os started H enc _ => treeAsks_lifted os started H enc)
theorem treeAsks_holds : Rows.TreeAsksCardSaid :=
  Claim7.holds_tied_plain_at .later [] [.data, .pinned] true (true, "92aeb82cd1d3dab98b9de4a3e2dd6acda68c9ddf19efd73e3a46c300c3f2383f") false treeAsks_row (fun _ h => by cases h) (by kernel_rfl) (fun _ h => by cases h) treeAsks_row_tie rfl ⟨rfl, rfl⟩ (by kernel_rfl) rfl
    (fun f fn hf hfn => by
      obtain rfl : f = 3 := Option.some.inj ((show Tryz.prog.funcNamed "steamer/steamerlaw6.TreeAsks" = some 3 by kernel_rfl).symm.trans hf) |>.symm
      obtain rfl : fn = Tryz.f3 := (Option.some.inj (Tryz.func3.symm.trans hfn)).symm
      exact ⟨by kernel_rfl, fun j t ht => by
        rw [Tryz.params3] at ht
        have hm := Array.mem_of_getElem? ht
        have hall : (Tryz.f3.params.toList.all fun u => !Tryz.prog.wantsStandIn u) = true := by kernel_rfl
        rw [Tryz.params3] at hall
        exact (show Tryz.prog.wantsStandIn t = false by simpa using List.all_eq_true.1 hall t (by simpa using hm))⟩)
    (by kernel_rfl)
#print axioms treeAsks_holds
end Go.Proofs.YtleaanenpimanaaGreatDoor
