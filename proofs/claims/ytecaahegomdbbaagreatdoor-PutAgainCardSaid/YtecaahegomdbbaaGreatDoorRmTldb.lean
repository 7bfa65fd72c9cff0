/- Parts of the proof. -/
import Derived.Test.YtecaahegomdbbaaGreatDoorRmB1
set_option linter.all false
set_option maxRecDepth 99999
set_option maxHeartbeats 0
namespace Go.Proofs.YtecaahegomdbbaaGreatDoor.gr.Rn
open Go.Proofs.Tryz
open Go.RowKit
def Yw:lD t0 100 7 me0=true:=by kernel_rfl
def XN:lD t3 100 129 me3=true:=by kernel_rfl
def YF:lD t6 100 78 me6=true:=by kernel_rfl
def X8:lD t9 100 139 me9=true:=by kernel_rfl
def Tm:lD t12 100 139 XQ=true:=by kernel_rfl
def TM:lD t15 100 368 Yk=true:=by kernel_rfl
def Vb:lD t18 100 293 Yb=true:=by kernel_rfl
def Ta:lD t21 100 368 abn=true:=by kernel_rfl
def Us:lD t24 100 293 aa6=true:=by kernel_rfl
def Vy:lD t27 100 34 aah=true:=by kernel_rfl
