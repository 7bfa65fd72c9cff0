/- The law PutSteps returns true for every input, and the input reads as it did; what the row lists of Go's library is tied to the program's text. No conditions. -/
import Derived.Lay
import Derived.SevenTiedAt
import Derived.Stop.Joined
import Derived.Stop.LaidErr
import Derived.Test.YtecaahegomdbbaaGreatDoorCards
import Derived.Test.YtecaahegomdbbaaGreatDoorTie
import Derived.Test.YtecaahegomdbbaaGreatDoorRfB0e
import Derived.Test.YtecaahegomdbbaaGreatDoorRfBps
import Derived.Test.YtecaahegomdbbaaGreatDoorRfKst
import Derived.Test.YtecaahegomdbbaaGreatDoorRfYe
set_option linter.all false
namespace Go.Proofs.YtecaahegomdbbaaGreatDoor
open Go.Proofs.Tryz
open Go.ChangeShapes Go.WideShapes Go.ChangeAt Go.RowKit gp
set_option maxRecDepth 100000 in
theorem xL (os:Os) (started:os.Started) (H:Type) (enc:TypeId×Value->H):
    ReturnsInHanded {} checked os 3 .any (λw args=>(Rows.putStepsSpec.pre enc prog Tryz.f3 Rows.putStepsRow.domain false w args/\laidMetH prog Rows.putStepsRow.laid w)/\sizedMet enc prog Tryz.f3 (OpenSpec.ofChange Rows.putStepsSpec) false w args)
      (Rows.putStepsSpec.post enc prog Tryz.f3 false true false false):=by
  refine returnsInHanded_of_change_and (C:=checked) (X:=λw _=>laidMetH prog Rows.putStepsRow.laid w) (λ_ _ _ E h=>h.of_heap E) Z1 started fF func3
    (ChangeSpec.witness_shaped (enc:=enc) (C:=checked) (os:=os) (X:=λw _=>laidMetH prog Rows.putStepsRow.laid w) false (World.laidAll prog os Rows.putStepsRow.laid) #[.slice none 0 0] 8 (World.laidAll_os _ _ _)
      (World.shaped_of_ZipB fF fF) fF fF fF
      (by rw[MakeChecks.laidMetH_plain _ _ _ fF];exact laidMet_laidAll _ fF fF)) ?_
  intro W base args ds gs before n f _ _ u _;have m:∀(j:Nat) t v,Tryz.f3.params[j]? =some t->args[j]? =some v->Value.okWide prog W .any base t v:=n;have D:=f;obtain⟨p,q,d,B,rfl,I,J⟩:=f;have a:DataW.TrodAll enc prog W 0 (λ_=>true) true Tryz.f3.params.toList args.toList ds p:=d;rw[params3]at a m;obtain⟨v0,d0,rfl,rfl,h0⟩:=trodAll_one a;obtain⟨rfl,rfl⟩:=trodVars_none B;obtain⟨z0,r0,K⟩:=KE underlying22 underlying3 fF (m 0 22 v0 rfl rfl) h0
  have y:Dp W:=by
    have x:laidMet prog Rows.putStepsRow.laid W:=by
      have h:=u;rw[MakeChecks.laidMetH_plain _ _ _ fF]at h;exact h
    exact y37
  clear d n;refine pP (Bq L2 QE W v0 z0 r0 y) λe G ⟨v,he,F,s⟩=>?_
  subst F;exact⟨_,he,Gr fx fx fF fF D s⟩
set_option maxRecDepth 100000 in
theorem EC:Rows.PutStepsSaid:=
  OpenClaim.holds_of_wide 3 Tryz.f3 rfl rfl rfl rfl rfl rfl rfl ⟨rfl,rfl,rfl,rfl,rfl⟩ rfl rfl rfl rfl rfl fF func3 yF
    (of_decide_eq_true fF) (by unfold Func.isWrapper;first|(rw[if_pos (by decide+kernel)];kernel_rfl)|(rw[if_neg (by decide+kernel)];exact⟨rfl,rfl⟩))
    (λos started H enc _=>xL os started H enc)
set_option maxRecDepth 100000 in
theorem putSteps_holds:Rows.PutStepsCardSaid:=
  Claim7.holds_tied_plain_at .later [] [.data,.data,.data,.data,.sentinel,.sentinel,.pinned] true (true, "e52e13cf40da334dce1fddebb9ee70c602f3950b7b8ee0d6414b9599e03695cc") true EC (λ_ h=>by cases h) Fa (λ_ h=>by cases h) putSteps_row_tie rfl ⟨rfl,rfl⟩ fF rfl
    (λf fn d g=>by
      obtain rfl:f=3:=jk ((show prog.funcNamed "steamer/steamerlaw25.PutSteps" =some 3 by kernel_rfl).symm.trans d)|>.symm
      obtain rfl:fn=Tryz.f3:=(jk (func3.symm.trans g)).symm
      exact⟨Bf,λj t ht=>by
        rw[params3]at ht;have hm:=Ff ht;have a:=zi;rw[params3]at a
        exact(show prog.wantsStandIn t=false by simpa using lj.1 a t (by simpa using hm))⟩)
    A5
#print axioms putSteps_holds
end Go.Proofs.YtecaahegomdbbaaGreatDoor
