/- Parts of the proof. -/
import Derived.Lay
import Derived.SevenTiedAt
import Derived.Stop.Joined
import Derived.Stop.LaidErr
import Derived.Test.YtecaahegomdbbaaGreatDoorCards
import Derived.Test.YtecaahegomdbbaaGreatDoorTie
import Derived.Test.YtecaahegomdbbaaGreatDoorRfB0e
set_option linter.all false
namespace Go.Proofs.YtecaahegomdbbaaGreatDoor
open Go.Proofs.Tryz
open Go.ChangeShapes Go.WideShapes Go.ChangeAt Go.RowKit gp
set_option maxRecDepth 100000 in
theorem G6:(Rows.putWholeRow.inPlace==prog.inPlace 4)=true:=by kernel_rfl
set_option maxRecDepth 100000 in
theorem GH:(Rows.putWholeRow.unfollowed==prog.unfollowed 4)=true:=by kernel_rfl
set_option maxRecDepth 100000 in
theorem Ht:(Rows.putWholeRow.recurses==prog.recurses 4)=true:=by kernel_rfl
set_option maxRecDepth 100000 in
theorem Fy:(Rows.putWholeRow.named==prog.varsNamed 4)=true:=by kernel_rfl
set_option maxRecDepth 100000 in
theorem Ay:joinedFacts prog 4 Tryz.f4 Rows.putWholeSpec Rows.putWholeRow=true:=by
  unfold joinedFacts;rw[G6,GH,Ht,Fy]
  kernel_rfl
set_option maxRecDepth 100000 in
theorem yR:(Tryz.f4.params.toList.all λu=>!prog.wantsStandIn u)=true:=by kernel_rfl
set_option maxRecDepth 100000 in
theorem Bz:true=checked.prog.looks []:=by kernel_rfl
theorem vO {P:Program} {c:OpenClaim} (h:(P.funcs.toList.all λf=>!f.goes)=true) (hs:c.start= .entering):false=c.goesBy P:=by
  have h0:∀f∈P.funcs.toList,f.goes=false:=λf a=>by simpa using lj.1 h f a
  have d:P.funcs.any Func.goes=false:=by
    rw[←Array.any_toList,Rq];exact λf a=>by rw[h0 f a];exact Wv
  have m:∀g:Nat,(P.funcs[g]?).any Func.goes=false:=λg=>by
    cases n:P.funcs[g]? with
    |none=>rfl
    |some f=>exact h0 f (U3.2 (Ff n))
  have h1:∀f,P.goes f=false:=λf=>by
    unfold Program.goes;simp[m,d]
  unfold OpenClaim.goesBy Program.goesAt Program.goesFrom;rw[hs];cases P.funcNamed c.func with
  |none=>rfl
  |some f=>simp[h1]
set_option maxRecDepth 100000 in
theorem A8:false=Rows.putWholeRow.goesBy checked.prog:=vO (show(prog.funcs.toList.all λf=>!f.goes)=true by kernel_rfl) rfl
set_option maxRecDepth 100000 in
theorem Gd:Rows.putWholeRow.wfByText (OpenSpec.ofChange Rows.putWholeSpec)=true:=by kernel_rfl
end Go.Proofs.YtecaahegomdbbaaGreatDoor
