/-
  Parts of the proof: Lohd.
-/
import Derived.Lay
import Derived.Lib.LaidTab
import Derived.SevenTiedAt
import Derived.Stop.Joined
import Derived.Stop.LaidErr
import Derived.Test.YtoheknblphcloaaGreatDoorCards
import Derived.Test.YtoheknblphcloaaGreatDoorTie
import Derived.Test.YtoheknblphcloaaGreatDoorQB0d
import Derived.Test.YtoheknblphcloaaGreatDoorQB6
namespace Go.Proofs.YtoheknblphcloaaGreatDoor
open Go.ChangeShapes Go.WideShapes Go.ChangeAt Go.RowKit Eng
set_option maxRecDepth 100000 in
theorem openHeads_lifted (os : Os) (started : os.Started) (H : Type) (enc : TypeId × Value → H) :
    ReturnsInHanded {} Tryz.checked os 3 .any (fun w args => (Rows.openHeadsSpec.pre enc Tryz.prog Tryz.f3 Rows.openHeadsRow.domain false w args ∧ laidMetH Tryz.prog Rows.openHeadsRow.laid w) ∧ sizedMet enc Tryz.prog Tryz.f3 (OpenSpec.ofChange Rows.openHeadsSpec) false w args)
      (Rows.openHeadsSpec.post enc Tryz.prog Tryz.f3 false true false false) := by
  refine returnsInHanded_of_change_and (C := Tryz.checked) (X := fun w _ => laidMetH Tryz.prog Rows.openHeadsRow.laid w) (fun _ _ _ hh h => h.of_heap hh) own_ started (by kernel_rfl) Tryz.func3
    (ChangeSpec.witness_shaped (enc := enc) (C := Tryz.checked) (os := os) (X := fun w _ => laidMetH Tryz.prog Rows.openHeadsRow.laid w) false (World.laidAll Tryz.prog os Rows.openHeadsRow.laid) #[.agg #[.int .u8 0, .int .u8 0, .int .u8 0, .int .u8 0, .int .u8 0, .int .u8 0, .int .u8 0, .int .u8 0], .int .i64 0, .int .i64 0, .int .u8 0, .int .i64 0] 8 (World.laidAll_os _ _ _)
      (World.shaped_of_ZipB (by kernel_rfl) (by kernel_rfl)) (by kernel_rfl) (by kernel_rfl) (by kernel_rfl)
      (by rw [MakeChecks.laidMetH_plain _ _ _ (by kernel_rfl)]; exact laidMet_laidAll _ (by kernel_rfl) (by kernel_rfl))) ?_
  intro W base args ds gs before hval0 hW _ _ hL _
  have hval : ∀ (j : Nat) t v, Tryz.f3.params[j]? = some t → args[j]? = some v → Value.okWide Tryz.prog W .any base t v := hval0
  have hW' := hW
  obtain ⟨p, q, hA0, hV, rfl, hfz, hnd⟩ := hW
  have hA : DataW.TrodAll enc Tryz.prog W 0 (fun _ => true) true Tryz.f3.params.toList args.toList ds p := hA0
  rw [Tryz.params3] at hA hval
  obtain ⟨v0, v1, v2, v3, v4, d0, d1, d2, d3, d4, p0, p1, p2, p3, p4, rfl, rfl, rfl, h0, h1, h2, h3, h4⟩ := trodAll_five' hA
  obtain ⟨rfl, rfl⟩ := trodVars_none hV
  obtain ⟨a0, b0, c0, e0, f0, g0, i0, j0, rfl⟩ := arr8_of (hval 0 22 v0 rfl rfl)
  obtain ⟨z1, rfl, rfl, rfl, x1⟩ := open_int Tryz.underlying3 (hval 1 3 v1 rfl rfl) h1
  obtain ⟨z2, rfl, rfl, rfl, x2⟩ := open_int Tryz.underlying3 (hval 2 3 v2 rfl rfl) h2
  obtain ⟨z3, rfl⟩ := u8_of (hval 3 5 v3 rfl rfl)
  obtain ⟨z4, rfl, rfl, rfl, x4⟩ := open_int Tryz.underlying3 (hval 4 3 v4 rfl rfl) h4
  have hP : PowT W := by
    have hL' : laidMet Tryz.prog Rows.openHeadsRow.laid W := by
      have h := hL
      rw [MakeChecks.laidMetH_plain _ _ _ (by kernel_rfl)] at h
      exact h
    exact Lib.tabIs_of_head (g := (Tryz.prog.globalNamed "internal/strconv.uint64pow10").getD 0) (by kernel_rfl) (by kernel_rfl) Tryz.underlying363 Tryz.underlying71 (by kernel_rfl) (by kernel_rfl) hL'.tail.tail
  clear hA0 hval0
  refine Calls.mono (openHeads_core W a0 b0 c0 e0 f0 g0 i0 j0 z1 z2 z3 z4 hP) fun e W' ⟨v, he, hr, hE⟩ => ?_
  subst hr
  exact ⟨_, he, post_law rfl rfl (by kernel_rfl) (by kernel_rfl) hW' hE⟩
set_option maxRecDepth 100000 in
theorem openHeads_in : (Rows.openHeadsRow.inPlace == Tryz.prog.inPlace 3) = true := by kernel_rfl
set_option maxRecDepth 100000 in
theorem openHeads_un : (Rows.openHeadsRow.unfollowed == Tryz.prog.unfollowed 3) = true := by kernel_rfl
set_option maxRecDepth 100000 in
theorem openHeads_re : (Rows.openHeadsRow.recurses == Tryz.prog.recurses 3) = true := by kernel_rfl
set_option maxRecDepth 100000 in
theorem openHeads_va : (Rows.openHeadsRow.named == Tryz.prog.varsNamed 3) = true := by kernel_rfl
set_option maxRecDepth 100000 in
theorem openHeads_facts : joinedFacts Tryz.prog 3 Tryz.f3 Rows.openHeadsSpec Rows.openHeadsRow = true := by
  unfold joinedFacts
  rw [openHeads_in, openHeads_un, openHeads_re, openHeads_va]
  kernel_rfl
set_option maxRecDepth 100000 in
theorem openHeads_stand : (Tryz.f3.params.toList.all fun u => !Tryz.prog.wantsStandIn u) = true := by kernel_rfl
set_option maxRecDepth 100000 in
theorem openHeads_look : true = Tryz.checked.prog.looks [] := by kernel_rfl
theorem goes_none {P : Program} {c : OpenClaim} (h : (P.funcs.toList.all fun f => !f.goes) = true) (hs : c.start = .entering) : false = c.goesBy P := by
  have h0 : ∀ f ∈ P.funcs.toList, f.goes = false := fun f hf => by simpa using List.all_eq_true.1 h f hf
  have ha : P.funcs.any Func.goes = false := by
    rw [← Array.any_toList, List.any_eq_false]
    exact fun f hf => by rw [h0 f hf]; exact Bool.false_ne_true
  have hb : ∀ g : Nat, (P.funcs[g]?).any Func.goes = false := fun g => by
    cases hg : P.funcs[g]? with
    | none => rfl
    | some f => exact h0 f (Array.mem_toList_iff.2 (Array.mem_of_getElem? hg))
  have h1 : ∀ f, P.goes f = false := fun f => by
    unfold Program.goes
    simp [hb, ha]
  unfold OpenClaim.goesBy Program.goesAt Program.goesFrom
  rw [hs]
  cases P.funcNamed c.func with
  | none => rfl
  | some f => simp [h1]
set_option maxRecDepth 100000 in
theorem openHeads_goes : false = Rows.openHeadsRow.goesBy Tryz.checked.prog := goes_none (show (Tryz.prog.funcs.toList.all fun f => !f.goes) = true by kernel_rfl) rfl
set_option maxRecDepth 100000 in
theorem openHeads_wf : Rows.openHeadsRow.wfByText (OpenSpec.ofChange Rows.openHeadsSpec) = true := by kernel_rfl
set_option maxRecDepth 100000 in
theorem openHeads_row : Rows.OpenHeadsSaid :=
  OpenClaim.holds_of_wide 3 Tryz.f3 rfl rfl rfl rfl rfl rfl rfl ⟨rfl, rfl, rfl, rfl, rfl⟩ rfl rfl rfl rfl rfl (by kernel_rfl) Tryz.func3 openHeads_facts
    (of_decide_eq_true (by kernel_rfl)) (by unfold Func.isWrapper; first | (rw [if_pos (by decide +kernel)]; kernel_rfl) | (rw [if_neg (by decide +kernel)]; exact ⟨rfl, rfl⟩))
    (fun os started H enc _ => openHeads_lifted os started H enc)
set_option maxRecDepth 100000 in
theorem openHeads_holds : Rows.OpenHeadsCardSaid :=
  Claim7.holds_tied_plain_at .later [] [.data, .data, .data, .sentinel, .sentinel] true (true, "04503aa241cafa8220cd870fa33776e9b66d47a63b25470f13220ff38479e8cc") true openHeads_row (fun _ h => by cases h) openHeads_wf (fun _ h => by cases h) openHeads_row_tie rfl ⟨rfl, rfl⟩ (by kernel_rfl) rfl
    (fun f fn hf hfn => by
      obtain rfl : f = 3 := Option.some.inj ((show Tryz.prog.funcNamed "steamer/steamerlaw23.OpenHeads" = some 3 by kernel_rfl).symm.trans hf) |>.symm
      obtain rfl : fn = Tryz.f3 := (Option.some.inj (Tryz.func3.symm.trans hfn)).symm
      exact ⟨openHeads_look, fun j t ht => by
        rw [Tryz.params3] at ht
        have hm := Array.mem_of_getElem? ht
        have hall := openHeads_stand
        rw [Tryz.params3] at hall
        exact (show Tryz.prog.wantsStandIn t = false by simpa using List.all_eq_true.1 hall t (by simpa using hm))⟩)
    openHeads_goes
#print axioms openHeads_holds
end Go.Proofs.YtoheknblphcloaaGreatDoor
