/-
  Parts of the proof: Lpcl.
-/
import Derived.Lay
import Derived.Lib.LaidTab
import Derived.SevenTiedAt
import Derived.Stop.Joined
import Derived.Stop.LaidErr
import Derived.Test.YtpfelapckcojjaaGreatDoorCards
import Derived.Test.YtpfelapckcojjaaGreatDoorTie
import Derived.Test.YtpfelapckcojjaaGreatDoorQB0d
import Derived.Test.YtpfelapckcojjaaGreatDoorQPc
namespace Go.Proofs.YtpfelapckcojjaaGreatDoor
open Go.ChangeShapes Go.WideShapes Go.ChangeAt Go.RowKit Eng
set_option maxRecDepth 100000 in
theorem putClash_lifted (os : Os) (started : os.Started) (H : Type) (enc : TypeId × Value → H) :
    ReturnsInHanded {} Tryz.checked os 3 .any (fun w args => (Rows.putClashSpec.pre enc Tryz.prog Tryz.f3 Rows.putClashRow.domain false w args ∧ laidMetH Tryz.prog Rows.putClashRow.laid w) ∧ sizedMet enc Tryz.prog Tryz.f3 (OpenSpec.ofChange Rows.putClashSpec) false w args)
      (Rows.putClashSpec.post enc Tryz.prog Tryz.f3 false true false false) := by
  refine returnsInHanded_of_change_and (C := Tryz.checked) (X := fun w _ => laidMetH Tryz.prog Rows.putClashRow.laid w) (fun _ _ _ hh h => h.of_heap hh) own_ started (by kernel_rfl) Tryz.func3
    (ChangeSpec.witness_shaped (enc := enc) (C := Tryz.checked) (os := os) (X := fun w _ => laidMetH Tryz.prog Rows.putClashRow.laid w) false (World.laidAll Tryz.prog os Rows.putClashRow.laid) #[.int .i64 0, .bool false] 8 (World.laidAll_os _ _ _)
      (World.shaped_of_ZipB (by kernel_rfl) (by kernel_rfl)) (by kernel_rfl) (by kernel_rfl) (by kernel_rfl)
      (by rw [MakeChecks.laidMetH_plain _ _ _ (by kernel_rfl)]; exact laidMet_laidAll _ (by kernel_rfl) (by kernel_rfl))) ?_
  intro W base args ds gs before hval0 hW _ _ hL _
  have hval : ∀ (j : Nat) t v, Tryz.f3.params[j]? = some t → args[j]? = some v → Value.okWide Tryz.prog W .any base t v := hval0
  have hW' := hW
  obtain ⟨p, q, hA0, hV, rfl, hfz, hnd⟩ := hW
  have hA : DataW.TrodAll enc Tryz.prog W 0 (fun _ => true) true Tryz.f3.params.toList args.toList ds p := hA0
  rw [Tryz.params3] at hA hval
  obtain ⟨v0, v1, d0, d1, p0, p1, rfl, rfl, rfl, h0, h1⟩ := trodAll_two hA
  obtain ⟨rfl, rfl⟩ := trodVars_none hV
  obtain ⟨z0, rfl, rfl, rfl, x0⟩ := open_int Tryz.underlying3 (hval 0 3 v0 rfl rfl) h0
  obtain ⟨z1, rfl, rfl, rfl⟩ := open_bool Tryz.underlying4 (hval 1 4 v1 rfl rfl) h1
  have hP : PowT W := by
    have hL' : laidMet Tryz.prog Rows.putClashRow.laid W := by
      have h := hL
      rw [MakeChecks.laidMetH_plain _ _ _ (by kernel_rfl)] at h
      exact h
    exact Lib.tabIs_of_head (g := (Tryz.prog.globalNamed "internal/strconv.uint64pow10").getD 0) (by kernel_rfl) (by kernel_rfl) Tryz.underlying483 Tryz.underlying118 (by kernel_rfl) (by kernel_rfl) hL'.tail.tail
  clear hA0 hval0
  refine Calls.mono (putClash_core W z0 z1 hP) fun e W' ⟨v, he, hr, hE⟩ => ?_
  subst hr
  exact ⟨_, he, post_law rfl rfl (by kernel_rfl) (by kernel_rfl) hW' hE⟩
set_option maxRecDepth 100000 in
theorem putClash_in : (Rows.putClashRow.inPlace == Tryz.prog.inPlace 3) = true := by kernel_rfl
set_option maxRecDepth 100000 in
theorem putClash_un : (Rows.putClashRow.unfollowed == Tryz.prog.unfollowed 3) = true := by kernel_rfl
set_option maxRecDepth 100000 in
theorem putClash_re : (Rows.putClashRow.recurses == Tryz.prog.recurses 3) = true := by kernel_rfl
set_option maxRecDepth 100000 in
theorem putClash_va : (Rows.putClashRow.named == Tryz.prog.varsNamed 3) = true := by kernel_rfl
set_option maxRecDepth 100000 in
theorem putClash_facts : joinedFacts Tryz.prog 3 Tryz.f3 Rows.putClashSpec Rows.putClashRow = true := by
  unfold joinedFacts
  rw [putClash_in, putClash_un, putClash_re, putClash_va]
  kernel_rfl
set_option maxRecDepth 100000 in
theorem putClash_stand : (Tryz.f3.params.toList.all fun u => !Tryz.prog.wantsStandIn u) = true := by kernel_rfl
set_option maxRecDepth 100000 in
theorem putClash_look : true = Tryz.checked.prog.looks [] := by kernel_rfl
theorem goes_none {P : Program} {c : OpenClaim} (h : (P.funcs.toList.all fun f => !f.goes) = true) (hs : c.start = .entering) : false = c.goesBy P := by
  have h0 : ∀ f ∈ P.funcs.toList, f.goes = false := fun f hf => by simpa using List.all_eq_true.1 h f hf
  have ha : P.funcs.any Func.goes = false := by
    rw [← Array.any_toList, List.any_eq_false]
    exact fun f hf => by rw [h0 f hf]; exact Bool.false_ne_true
  have hb : ∀ g : Nat, (P.funcs[g]?).any Func.goes = false := fun g => by
    cases hg : P.funcs[g]? with
    | none => rfl
    | some f => exact h0 f (Array.mem_toList_iff.2 (Array.mem_of_getElem? hg))
  have h1 : ∀ f, P.goes f = false := fun f => by
    unfold Program.goes
    simp [hb, ha]
  unfold OpenClaim.goesBy Program.goesAt Program.goesFrom
  rw [hs]
  cases P.funcNamed c.func with
  | none => rfl
  | some f => simp [h1]
set_option maxRecDepth 100000 in
theorem putClash_goes : false = Rows.putClashRow.goesBy Tryz.checked.prog := goes_none (show (Tryz.prog.funcs.toList.all fun f => !f.goes) = true by kernel_rfl) rfl
set_option maxRecDepth 100000 in
theorem putClash_wf : Rows.putClashRow.wfByText (OpenSpec.ofChange Rows.putClashSpec) = true := by kernel_rfl
set_option maxRecDepth 100000 in
theorem putClash_row : Rows.PutClashSaid :=
  OpenClaim.holds_of_wide 3 Tryz.f3 rfl rfl rfl rfl rfl rfl rfl ⟨rfl, rfl, rfl, rfl, rfl⟩ rfl rfl rfl rfl rfl (by kernel_rfl) Tryz.func3 putClash_facts
    (of_decide_eq_true (by kernel_rfl)) (by unfold Func.isWrapper; first | (rw [if_pos (by decide +kernel)]; kernel_rfl) | (rw [if_neg (by decide +kernel)]; exact ⟨rfl, rfl⟩))
    (fun os started H enc _ => putClash_lifted os started H enc)
set_option maxRecDepth 100000 in
theorem putClash_holds : Rows.PutClashCardSaid :=
  Claim7.holds_tied_plain_at .later [] [.data, .data, .data, .data, .sentinel, .sentinel, .pinned] true (true, "8a055244774ce283c8a099e012b4f2443d96c843d39ccb887bf423b4cbce553b") true putClash_row (fun _ h => by cases h) putClash_wf (fun _ h => by cases h) putClash_row_tie rfl ⟨rfl, rfl⟩ (by kernel_rfl) rfl
    (fun f fn hf hfn => by
      obtain rfl : f = 3 := Option.some.inj ((show Tryz.prog.funcNamed "steamer/steamerlaw25.PutClash" = some 3 by kernel_rfl).symm.trans hf) |>.symm
      obtain rfl : fn = Tryz.f3 := (Option.some.inj (Tryz.func3.symm.trans hfn)).symm
      exact ⟨putClash_look, fun j t ht => by
        rw [Tryz.params3] at ht
        have hm := Array.mem_of_getElem? ht
        have hall := putClash_stand
        rw [Tryz.params3] at hall
        exact (show Tryz.prog.wantsStandIn t = false by simpa using List.all_eq_true.1 hall t (by simpa using hm))⟩)
    putClash_goes
#print axioms putClash_holds
end Go.Proofs.YtpfelapckcojjaaGreatDoor
