/- Parts of the proof. -/
import Derived.Lay
import Derived.SevenTiedAt
import Derived.Stop.Joined
import Derived.Stop.LaidErr
import Derived.Test.YtecaahegomdbbaaGreatDoorCards
import Derived.Test.YtecaahegomdbbaaGreatDoorTie
import Derived.Test.YtecaahegomdbbaaGreatDoorRfB0e
set_option linter.all false
namespace Go.Proofs.YtecaahegomdbbaaGreatDoor
open Go.Proofs.Tryz
open Go.ChangeShapes Go.WideShapes Go.ChangeAt Go.RowKit gp
set_option maxRecDepth 100000 in
theorem Hp:(Rows.putStepsRow.inPlace==prog.inPlace 3)=true:=by kernel_rfl
set_option maxRecDepth 100000 in
theorem E2:(Rows.putStepsRow.unfollowed==prog.unfollowed 3)=true:=by kernel_rfl
set_option maxRecDepth 100000 in
theorem F5:(Rows.putStepsRow.recurses==prog.recurses 3)=true:=by kernel_rfl
set_option maxRecDepth 100000 in
theorem GN:(Rows.putStepsRow.named==prog.varsNamed 3)=true:=by kernel_rfl
set_option maxRecDepth 100000 in
theorem yF:joinedFacts prog 3 Tryz.f3 Rows.putStepsSpec Rows.putStepsRow=true:=by
  unfold joinedFacts;rw[Hp,E2,F5,GN]
  kernel_rfl
set_option maxRecDepth 100000 in
theorem zi:(Tryz.f3.params.toList.all λu=>!prog.wantsStandIn u)=true:=by kernel_rfl
set_option maxRecDepth 100000 in
theorem Bf:true=checked.prog.looks []:=by kernel_rfl
theorem vO {P:Program} {c:OpenClaim} (h:(P.funcs.toList.all λf=>!f.goes)=true) (hs:c.start= .entering):false=c.goesBy P:=by
  have h0:∀f∈P.funcs.toList,f.goes=false:=λf a=>by simpa using lj.1 h f a
  have d:P.funcs.any Func.goes=false:=by
    rw[←Array.any_toList,Rq];exact λf a=>by rw[h0 f a];exact Wv
  have m:∀g:Nat,(P.funcs[g]?).any Func.goes=false:=λg=>by
    cases n:P.funcs[g]? with
    |none=>rfl
    |some f=>exact h0 f (U3.2 (Ff n))
  have h1:∀f,P.goes f=false:=λf=>by
    unfold Program.goes;simp[m,d]
  unfold OpenClaim.goesBy Program.goesAt Program.goesFrom;rw[hs];cases P.funcNamed c.func with
  |none=>rfl
  |some f=>simp[h1]
set_option maxRecDepth 100000 in
theorem A5:false=Rows.putStepsRow.goesBy checked.prog:=vO (show(prog.funcs.toList.all λf=>!f.goes)=true by kernel_rfl) rfl
set_option maxRecDepth 100000 in
theorem Fa:Rows.putStepsRow.wfByText (OpenSpec.ofChange Rows.putStepsSpec)=true:=by kernel_rfl
end Go.Proofs.YtecaahegomdbbaaGreatDoor
