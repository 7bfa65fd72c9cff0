/- Parts of the proof. -/
import Derived.Lay
import Derived.SevenTiedAt
import Derived.Stop.Joined
import Derived.Test.YtecaahegomdbbaaGreatDoorCards
import Derived.Test.YtecaahegomdbbaaGreatDoorTie
import Derived.Test.YtecaahegomdbbaaGreatDoorRmB0e
set_option linter.all false
namespace Go.Proofs.YtecaahegomdbbaaGreatDoor
open Go.Proofs.Tryz
open Go.ChangeShapes Go.WideShapes Go.ChangeAt Go.RowKit gr
set_option maxRecDepth 100000 in
theorem E1:(Rows.putOthersRow.inPlace==prog.inPlace 6)=true:=by kernel_rfl
set_option maxRecDepth 100000 in
theorem Fl:(Rows.putOthersRow.unfollowed==prog.unfollowed 6)=true:=by kernel_rfl
set_option maxRecDepth 100000 in
theorem EI:(Rows.putOthersRow.recurses==prog.recurses 6)=true:=by kernel_rfl
set_option maxRecDepth 100000 in
theorem E0:(Rows.putOthersRow.named==prog.varsNamed 6)=true:=by kernel_rfl
set_option maxRecDepth 100000 in
theorem yi:joinedFacts prog 6 Tryz.f6 Rows.putOthersSpec Rows.putOthersRow=true:=by
  unfold joinedFacts;rw[E1,Fl,EI,E0]
  kernel_rfl
set_option maxRecDepth 100000 in
theorem xZ:(Tryz.f6.params.toList.all λu=>!prog.wantsStandIn u)=true:=by kernel_rfl
set_option maxRecDepth 100000 in
theorem AE:true=checked.prog.looks []:=by kernel_rfl
theorem wY {P:Program} {c:OpenClaim} (h:(P.funcs.toList.all λf=>!f.goes)=true) (hs:c.start= .entering):false=c.goesBy P:=by
  have h0:∀f∈P.funcs.toList,f.goes=false:=λf d=>by simpa using ld.1 h f d
  have m:P.funcs.any Func.goes=false:=by
    rw[<-Array.any_toList,Sv];exact λf d=>by rw[h0 f d];exact Wu
  have n:∀g:Nat,(P.funcs[g]?).any Func.goes=false:=λg=>by
    cases t:P.funcs[g]? with
    |none=>rfl
    |some f=>exact h0 f (VJ.2 (H5 t))
  have h1:∀f,P.goes f=false:=λf=>by
    unfold Program.goes;simp[n,m]
  unfold OpenClaim.goesBy Program.goesAt Program.goesFrom;rw[hs];cases P.funcNamed c.func with
  |none=>rfl
  |some f=>simp[h1]
set_option maxRecDepth 100000 in
theorem Bb:false=Rows.putOthersRow.goesBy checked.prog:=wY (show(prog.funcs.toList.all λf=>!f.goes)=true by kernel_rfl) rfl
set_option maxRecDepth 100000 in
theorem ET:Rows.putOthersRow.wfByText (OpenSpec.ofChange Rows.putOthersSpec)=true:=by kernel_rfl
end Go.Proofs.YtecaahegomdbbaaGreatDoor
