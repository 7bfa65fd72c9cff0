/- Parts of the proof. -/
import Derived.Test.YtecaahegomdbbaaGreatDoorRfB1
set_option linter.all false
set_option maxRecDepth 100000
set_option maxHeartbeats 64000000
namespace Go.Proofs.YtecaahegomdbbaaGreatDoor.gp.Rn
open Go.Proofs.Tryz
open Go.RowKit
section
theorem WZ:lu t1 100 9 me1=true:=by kernel_rfl
theorem X6:lu t4 100 132 me4=true:=by kernel_rfl
theorem Wz:lu t7 100 78 me7=true:=by kernel_rfl
theorem TP:lu t10 100 80 X0=true:=by kernel_rfl
theorem Un:lu t13 100 200 XU=true:=by kernel_rfl
theorem SH:lu t16 100 370 Xm=true:=by kernel_rfl
theorem SI:lu t19 100 252 aar=true:=by kernel_rfl
theorem T7:lu t22 100 370 aaW=true:=by kernel_rfl
theorem S2:lu t25 100 80 Z0=true:=by kernel_rfl
theorem Us:lu t28 100 9 aaP=true:=by kernel_rfl
end
end Go.Proofs.YtecaahegomdbbaaGreatDoor.gp.Rn
