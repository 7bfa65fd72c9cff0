/- Parts of the proof. -/
import Derived.Test.YtecaahegomdbbaaGreatDoorRfB1
set_option linter.all false
set_option maxRecDepth 100000
set_option maxHeartbeats 64000000
namespace Go.Proofs.YtecaahegomdbbaaGreatDoor.gp.Rn
open Go.Proofs.Tryz
open Go.RowKit
section
theorem WJ:lu t0 100 7 me0=true:=by kernel_rfl
theorem Xi:lu t3 100 129 me3=true:=by kernel_rfl
theorem WD:lu t6 100 78 me6=true:=by kernel_rfl
theorem XO:lu t9 100 139 me9=true:=by kernel_rfl
theorem Tp:lu t12 100 139 Ya=true:=by kernel_rfl
theorem S9:lu t15 100 368 X1=true:=by kernel_rfl
theorem Ue:lu t18 100 293 Xz=true:=by kernel_rfl
theorem Uc:lu t21 100 368 ZL=true:=by kernel_rfl
theorem Sf:lu t24 100 293 Zw=true:=by kernel_rfl
theorem TJ:lu t27 100 34 Z9=true:=by kernel_rfl
end
end Go.Proofs.YtecaahegomdbbaaGreatDoor.gp.Rn
