/- Parts of the proof. -/
import Derived.Test.YtecaahegomdbbaaGreatDoorRmB1
set_option linter.all false
set_option maxRecDepth 99999
set_option maxHeartbeats 0
namespace Go.Proofs.YtecaahegomdbbaaGreatDoor.gr.Rn
open Go.Proofs.Tryz
open Go.RowKit
def YC:lD t2 100 72 me2=true:=by kernel_rfl
def Yy:lD t5 100 77 me5=true:=by kernel_rfl
def X5:lD t8 100 33 me8=true:=by kernel_rfl
def S8:lD t11 100 34 YU=true:=by kernel_rfl
def UM:lD t14 100 200 aag=true:=by kernel_rfl
def UU:lD t17 100 340 XI=true:=by kernel_rfl
def S5:lD t20 100 139 aaq=true:=by kernel_rfl
def Tl:lD t23 100 340 Z2=true:=by kernel_rfl
def Vk:lD t26 100 9 Yn=true:=by kernel_rfl
def Vg:ok (run (lP r0 r28 r2 r3 r4 r5 r7 r8 SX Z5 r27 I1 VA V8 YQ Zm Qi qK) 100 10 [] ⟨0,.nil,[]⟩)=true:=by kernel_rfl
