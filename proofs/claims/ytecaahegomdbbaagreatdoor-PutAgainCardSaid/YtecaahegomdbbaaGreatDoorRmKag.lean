/- Parts of the proof. -/
import Derived.Lay
import Derived.SevenTiedAt
import Derived.Stop.Joined
import Derived.Test.YtecaahegomdbbaaGreatDoorCards
import Derived.Test.YtecaahegomdbbaaGreatDoorTie
import Derived.Test.YtecaahegomdbbaaGreatDoorRmB0e
set_option linter.all false
namespace Go.Proofs.YtecaahegomdbbaaGreatDoor
open Go.Proofs.Tryz
open Go.ChangeShapes Go.WideShapes Go.ChangeAt Go.RowKit gr
set_option maxRecDepth 100000 in
theorem Il:(Rows.putAgainRow.inPlace==prog.inPlace 5)=true:=by kernel_rfl
set_option maxRecDepth 100000 in
theorem Iy:(Rows.putAgainRow.unfollowed==prog.unfollowed 5)=true:=by kernel_rfl
set_option maxRecDepth 100000 in
theorem G5:(Rows.putAgainRow.recurses==prog.recurses 5)=true:=by kernel_rfl
set_option maxRecDepth 100000 in
theorem GM:(Rows.putAgainRow.named==prog.varsNamed 5)=true:=by kernel_rfl
set_option maxRecDepth 100000 in
theorem Av:joinedFacts prog 5 Tryz.f5 Rows.putAgainSpec Rows.putAgainRow=true:=by
  unfold joinedFacts;rw[Il,Iy,G5,GM]
  kernel_rfl
set_option maxRecDepth 100000 in
theorem Bf:(Tryz.f5.params.toList.all λu=>!prog.wantsStandIn u)=true:=by kernel_rfl
set_option maxRecDepth 100000 in
theorem BD:true=checked.prog.looks []:=by kernel_rfl
theorem wY {P:Program} {c:OpenClaim} (h:(P.funcs.toList.all λf=>!f.goes)=true) (hs:c.start= .entering):false=c.goesBy P:=by
  have h0:∀f∈P.funcs.toList,f.goes=false:=λf d=>by simpa using ld.1 h f d
  have m:P.funcs.any Func.goes=false:=by
    rw[<-Array.any_toList,Sv];exact λf d=>by rw[h0 f d];exact Wu
  have n:∀g:Nat,(P.funcs[g]?).any Func.goes=false:=λg=>by
    cases t:P.funcs[g]? with
    |none=>rfl
    |some f=>exact h0 f (VJ.2 (H5 t))
  have h1:∀f,P.goes f=false:=λf=>by
    unfold Program.goes;simp[n,m]
  unfold OpenClaim.goesBy Program.goesAt Program.goesFrom;rw[hs];cases P.funcNamed c.func with
  |none=>rfl
  |some f=>simp[h1]
set_option maxRecDepth 100000 in
theorem BY:false=Rows.putAgainRow.goesBy checked.prog:=wY (show(prog.funcs.toList.all λf=>!f.goes)=true by kernel_rfl) rfl
set_option maxRecDepth 100000 in
theorem H2:Rows.putAgainRow.wfByText (OpenSpec.ofChange Rows.putAgainSpec)=true:=by kernel_rfl
end Go.Proofs.YtecaahegomdbbaaGreatDoor
