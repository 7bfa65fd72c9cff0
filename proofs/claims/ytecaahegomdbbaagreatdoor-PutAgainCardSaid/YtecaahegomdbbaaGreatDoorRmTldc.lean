/- Parts of the proof. -/
import Derived.Test.YtecaahegomdbbaaGreatDoorRmB1
set_option linter.all false
set_option maxRecDepth 99999
set_option maxHeartbeats 0
namespace Go.Proofs.YtecaahegomdbbaaGreatDoor.gr.Rn
open Go.Proofs.Tryz
open Go.RowKit
def Yx:lD t1 100 9 me1=true:=by kernel_rfl
def XE:lD t4 100 132 me4=true:=by kernel_rfl
def Yu:lD t7 100 78 me7=true:=by kernel_rfl
def Ty:lD t10 100 80 XB=true:=by kernel_rfl
def TO:lD t13 100 200 XC=true:=by kernel_rfl
def Uq:lD t16 100 370 Xu=true:=by kernel_rfl
def T0:lD t19 100 252 aaR=true:=by kernel_rfl
def Ub:lD t22 100 370 abO=true:=by kernel_rfl
def Ud:lD t25 100 80 Z3=true:=by kernel_rfl
def TC:lD t28 100 9 abq=true:=by kernel_rfl
