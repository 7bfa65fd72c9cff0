/- The law PutWhole returns true for every input, and the input reads as it did; what the row lists of Go's library is tied to the program's text. No conditions. -/
import Derived.Lay
import Derived.SevenTiedAt
import Derived.Stop.Joined
import Derived.Stop.LaidErr
import Derived.Test.YtecaahegomdbbaaGreatDoorCards
import Derived.Test.YtecaahegomdbbaaGreatDoorTie
import Derived.Test.YtecaahegomdbbaaGreatDoorRfB0e
import Derived.Test.YtecaahegomdbbaaGreatDoorRfBq
import Derived.Test.YtecaahegomdbbaaGreatDoorRfKwh
import Derived.Test.YtecaahegomdbbaaGreatDoorRfYe
set_option linter.all false
namespace Go.Proofs.YtecaahegomdbbaaGreatDoor
open Go.Proofs.Tryz
open Go.ChangeShapes Go.WideShapes Go.ChangeAt Go.RowKit gp
set_option maxRecDepth 100000 in
theorem xF (os:Os) (started:os.Started) (H:Type) (enc:TypeId×Value->H):
    ReturnsInHanded {} checked os 4 .any (λw args=>(Rows.putWholeSpec.pre enc prog Tryz.f4 Rows.putWholeRow.domain false w args/\laidMetH prog Rows.putWholeRow.laid w)/\sizedMet enc prog Tryz.f4 (OpenSpec.ofChange Rows.putWholeSpec) false w args)
      (Rows.putWholeSpec.post enc prog Tryz.f4 false true false false):=by
  refine returnsInHanded_of_change_and (C:=checked) (X:=λw _=>laidMetH prog Rows.putWholeRow.laid w) (λ_ _ _ E h=>h.of_heap E) Z1 started fF func4
    (ChangeSpec.witness_shaped (enc:=enc) (C:=checked) (os:=os) (X:=λw _=>laidMetH prog Rows.putWholeRow.laid w) false (World.laidAll prog os Rows.putWholeRow.laid) #[.slice none 0 0] 8 (World.laidAll_os _ _ _)
      (World.shaped_of_ZipB fF fF) fF fF fF
      (by rw[MakeChecks.laidMetH_plain _ _ _ fF];exact laidMet_laidAll _ fF fF)) ?_
  intro W base args ds gs before n f _ _ u _;have m:∀(j:Nat) t v,Tryz.f4.params[j]? =some t->args[j]? =some v->Value.okWide prog W .any base t v:=n;have D:=f;obtain⟨p,q,d,B,rfl,I,J⟩:=f;have a:DataW.TrodAll enc prog W 0 (λ_=>true) true Tryz.f4.params.toList args.toList ds p:=d;rw[params4]at a m;obtain⟨v0,d0,rfl,rfl,h0⟩:=trodAll_one a;obtain⟨rfl,rfl⟩:=trodVars_none B;obtain⟨z0,r0,K⟩:=KE underlying22 underlying3 fF (m 0 22 v0 rfl rfl) h0
  have y:Dp W:=by
    have x:laidMet prog Rows.putWholeRow.laid W:=by
      have h:=u;rw[MakeChecks.laidMetH_plain _ _ _ fF]at h;exact h
    exact y37
  clear d n;refine pP (Ba L2 QE W v0 z0 r0 y) λe G ⟨v,he,F,s⟩=>?_
  subst F;exact⟨_,he,Gr fx fx fF fF D s⟩
set_option maxRecDepth 100000 in
theorem Ey:Rows.PutWholeSaid:=
  OpenClaim.holds_of_wide 4 Tryz.f4 rfl rfl rfl rfl rfl rfl rfl ⟨rfl,rfl,rfl,rfl,rfl⟩ rfl rfl rfl rfl rfl fF func4 Ay
    (of_decide_eq_true fF) (by unfold Func.isWrapper;first|(rw[if_pos (by decide+kernel)];kernel_rfl)|(rw[if_neg (by decide+kernel)];exact⟨rfl,rfl⟩))
    (λos started H enc _=>xF os started H enc)
set_option maxRecDepth 100000 in
theorem putWhole_holds:Rows.PutWholeCardSaid:=
  Claim7.holds_tied_plain_at .later [] [.data,.data,.data,.data,.sentinel,.sentinel,.pinned] true (true, "e52e13cf40da334dce1fddebb9ee70c602f3950b7b8ee0d6414b9599e03695cc") true Ey (λ_ h=>by cases h) Gd (λ_ h=>by cases h) putWhole_row_tie rfl ⟨rfl,rfl⟩ fF rfl
    (λf fn d g=>by
      obtain rfl:f=4:=jk ((show prog.funcNamed "steamer/steamerlaw25.PutWhole" =some 4 by kernel_rfl).symm.trans d)|>.symm
      obtain rfl:fn=Tryz.f4:=(jk (func4.symm.trans g)).symm
      exact⟨Bz,λj t ht=>by
        rw[params4]at ht;have hm:=Ff ht;have a:=yR;rw[params4]at a
        exact(show prog.wantsStandIn t=false by simpa using lj.1 a t (by simpa using hm))⟩)
    A8
#print axioms putWhole_holds
end Go.Proofs.YtecaahegomdbbaaGreatDoor
