/-
  Parts of the proof: Lrwa.
-/
import Derived.Lay
import Derived.Lib.LaidTab
import Derived.SevenTiedAt
import Derived.Stop.Joined
import Derived.Stop.LaidErr
import Derived.Test.YtbpmlbjapapoaaaGreatDoorCards
import Derived.Test.YtbpmlbjapapoaaaGreatDoorTie
import Derived.Test.YtbpmlbjapapoaaaGreatDoorRAq
import Derived.Test.YtbpmlbjapapoaaaGreatDoorRB0d
import Derived.Test.YtbpmlbjapapoaaaGreatDoorRTld
namespace Go.Proofs.YtbpmlbjapapoaaaGreatDoor
open Go.ChangeShapes Go.WideShapes Go.ChangeAt Go.RowKit Eng
set_option maxRecDepth 100000 in
theorem archRaw_lifted (os : Os) (started : os.Started) (H : Type) (enc : TypeId × Value → H) :
    ReturnsInHanded {} Tryz.checked os 4 .any (fun w args=>(Rows.archRawSpec.pre enc Tryz.prog Tryz.f4 Rows.archRawRow.domain false w args ∧ laidMetH Tryz.prog Rows.archRawRow.laid w) ∧ sizedMet enc Tryz.prog Tryz.f4 (OpenSpec.ofChange Rows.archRawSpec) false w args)
      (Rows.archRawSpec.post enc Tryz.prog Tryz.f4 false true false false):=by
  refine returnsInHanded_of_change_and (C:=Tryz.checked) (X:=fun w _=>laidMetH Tryz.prog Rows.archRawRow.laid w) (fun _ _ _ hh h=>h.of_heap hh) own_ started (by kernel_rfl) Tryz.func4
    (ChangeSpec.witness_shaped (enc:=enc) (C:=Tryz.checked) (os:=os) (X:=fun w _=>laidMetH Tryz.prog Rows.archRawRow.laid w) false (World.laidAll Tryz.prog os Rows.archRawRow.laid) #[.slice none 0 0,.int .i64 0,.int .i64 0,.int .i64 0] 8 (World.laidAll_os _ _ _)
      (World.shaped_of_ZipB (by kernel_rfl) (by kernel_rfl)) (by kernel_rfl) (by kernel_rfl) (by kernel_rfl)
      (by rw [MakeChecks.laidMetH_plain _ _ _ (by kernel_rfl)];exact laidMet_laidAll _ (by kernel_rfl) (by kernel_rfl))) ?_
  intro W base args ds gs before hval0 hW _ _ hL _
  have hval : ∀ (j : Nat) t v,Tryz.f4.params[j]? = some t → args[j]? = some v → Value.okWide Tryz.prog W .any base t v:=hval0
  have hW':=hW
  obtain ⟨p,q,hA0,hV,rfl,hfz,hnd⟩:=hW
  have hA : DataW.TrodAll enc Tryz.prog W 0 (fun _=>true) true Tryz.f4.params.toList args.toList ds p:=hA0
  rw [Tryz.params4] at hA hval
  obtain ⟨v0,v1,v2,v3,d0,d1,d2,d3,p0,p1,p2,p3,rfl,rfl,rfl,h0,h1,h2,h3⟩:=trodAll_four hA
  obtain ⟨rfl,rfl⟩:=trodVars_none hV
  obtain ⟨z0,r0,x0⟩:=irow_of Tryz.underlying38 Tryz.underlying3 (by kernel_rfl) (hval 0 38 v0 rfl rfl) h0
  obtain ⟨z1,rfl,rfl,rfl,x1⟩:=open_int Tryz.underlying3 (hval 1 3 v1 rfl rfl) h1
  obtain ⟨z2,rfl,rfl,rfl,x2⟩:=open_int Tryz.underlying3 (hval 2 3 v2 rfl rfl) h2
  obtain ⟨z3,rfl,rfl,rfl,x3⟩:=open_int Tryz.underlying3 (hval 3 3 v3 rfl rfl) h3
  have hP : PowT W:=by
    have hL' : laidMet Tryz.prog Rows.archRawRow.laid W:=by
      have h:=hL
      rw [MakeChecks.laidMetH_plain _ _ _ (by kernel_rfl)] at h
      exact h
    exact Lib.tabIs_of_head (g:=(Tryz.prog.globalNamed "internal/strconv.uint64pow10").getD 0) (by kernel_rfl) (by kernel_rfl) Tryz.underlying220 Tryz.underlying99 (by kernel_rfl) (by kernel_rfl) hL'.tail.tail
  clear hA0 hval0
  refine Calls.mono (archRaw_core Rn.told_does W v0 z0 r0 z1 z2 z3 hP) fun e W' ⟨v,he,hr,hE⟩=>?_
  subst hr
  exact ⟨_,he,post_law rfl rfl (by kernel_rfl) (by kernel_rfl) hW' hE⟩
set_option maxRecDepth 100000 in
theorem archRaw_facts : joinedFacts Tryz.prog 4 Tryz.f4 Rows.archRawSpec Rows.archRawRow = true:=by kernel_rfl
set_option maxRecDepth 100000 in
theorem archRaw_stand : (Tryz.f4.params.toList.all fun u=>!Tryz.prog.wantsStandIn u) = true:=by kernel_rfl
set_option maxRecDepth 100000 in
theorem archRaw_look : true = Tryz.checked.prog.looks []:=by kernel_rfl
set_option maxRecDepth 100000 in
theorem archRaw_goes : false = Rows.archRawRow.goesBy Tryz.checked.prog:=by kernel_rfl
set_option maxRecDepth 100000 in
theorem archRaw_wf : Rows.archRawRow.wfByText (OpenSpec.ofChange Rows.archRawSpec) = true:=by kernel_rfl
set_option maxRecDepth 100000 in
theorem archRaw_row : Rows.ArchRawSaid:=
  OpenClaim.holds_of_wide 4 Tryz.f4 rfl rfl rfl rfl rfl rfl rfl ⟨rfl,rfl,rfl,rfl,rfl⟩ rfl rfl rfl rfl rfl (by kernel_rfl) Tryz.func4 archRaw_facts
    (of_decide_eq_true (by kernel_rfl)) (by unfold Func.isWrapper;first | (rw [if_pos (by decide +kernel)];kernel_rfl) | (rw [if_neg (by decide +kernel)];exact ⟨rfl,rfl⟩))
    (fun os started H enc _=>archRaw_lifted os started H enc)
set_option maxRecDepth 100000 in
theorem archRaw_holds : Rows.ArchRawCardSaid:=
  Claim7.holds_tied_plain_at .later [] [.data,.data,.data,.sentinel,.sentinel] true (true,"06fbb43b1eaffaa157105eaa2c3fc3656114fe88355f8e7a1189cbd2e0fc80a2") true archRaw_row (fun _ h=>by cases h) archRaw_wf (fun _ h=>by cases h) archRaw_row_tie rfl ⟨rfl,rfl⟩ (by kernel_rfl) rfl
    (fun f fn hf hfn=>by
      obtain rfl : f = 4:=Option.some.inj ((show Tryz.prog.funcNamed "steamer/steamerlaw22.ArchRaw" = some 4 by kernel_rfl).symm.trans hf) |>.symm
      obtain rfl : fn = Tryz.f4:=(Option.some.inj (Tryz.func4.symm.trans hfn)).symm
      exact ⟨archRaw_look,fun j t ht=>by
        rw [Tryz.params4] at ht
        have hm:=Array.mem_of_getElem? ht
        have hall:=archRaw_stand
        rw [Tryz.params4] at hall
        exact (show Tryz.prog.wantsStandIn t = false by simpa using List.all_eq_true.1 hall t (by simpa using hm))⟩)
    archRaw_goes
#print axioms archRaw_holds
end Go.Proofs.YtbpmlbjapapoaaaGreatDoor
