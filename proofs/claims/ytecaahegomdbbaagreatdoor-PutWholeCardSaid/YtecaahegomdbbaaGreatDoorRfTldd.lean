/- Parts of the proof. -/
import Derived.Test.YtecaahegomdbbaaGreatDoorRfB1
set_option linter.all false
set_option maxRecDepth 100000
set_option maxHeartbeats 64000000
namespace Go.Proofs.YtecaahegomdbbaaGreatDoor.gp.Rn
open Go.Proofs.Tryz
open Go.RowKit
section
theorem WA:lu t2 100 72 me2=true:=by kernel_rfl
theorem WR:lu t5 100 77 me5=true:=by kernel_rfl
theorem XZ:lu t8 100 33 me8=true:=by kernel_rfl
theorem Ug:lu t11 100 34 XT=true:=by kernel_rfl
theorem Tx:lu t14 100 200 ZO=true:=by kernel_rfl
theorem Ua:lu t17 100 340 XG=true:=by kernel_rfl
theorem Tt:lu t20 100 139 Y2=true:=by kernel_rfl
theorem UE:lu t23 100 340 Y7=true:=by kernel_rfl
theorem Sy:lu t26 100 9 X5=true:=by kernel_rfl
theorem SP:ok (run (lD r0 r28 r2 r3 r4 r5 r7 r8 R3 ZA r27 Ib Tl Vx XA Yj Q8 rI) 100 10 [] ⟨0,.nil,[]⟩)=true:=by kernel_rfl
end
end Go.Proofs.YtecaahegomdbbaaGreatDoor.gp.Rn
