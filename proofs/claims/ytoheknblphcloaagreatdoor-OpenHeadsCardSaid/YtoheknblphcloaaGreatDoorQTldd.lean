/-
  Parts of the proof: Tldd.
-/
import Derived.Test.YtoheknblphcloaaGreatDoorQB2
set_option maxRecDepth 100000
set_option maxHeartbeats 64000000
namespace Go.Proofs.YtoheknblphcloaaGreatDoor
open Go.RowKit
namespace Eng
namespace Rn
set_option maxRecDepth 100000
theorem me2_ok : ranB (tabG (.orc (memoO [me0])) (.orc (memoO [me1])) c2 c3 c4 c5 c6 c7 c8 c9 c10 c11 c12 c13 c14 c15 c16) 100 47 me2 = true := by kernel_rfl
theorem me5_ok : ranB (tabG (.orc (memoO [me0])) (.orc (memoO [me1])) (.orc (memoO [me2])) (.orc (memoO [me3])) (.orc (memoO [me4])) c5 c6 c7 c8 c9 c10 c11 c12 c13 c14 c15 c16) 100 21 me5 = true := by kernel_rfl
theorem me8_ok : ranB (tabG (.orc (memoO [me0])) (.orc (memoO [me1])) (.orc (memoO [me2])) (.orc (memoO [me3])) (.orc (memoO [me4])) (.orc (memoO [me6, me5])) (.orc (memoO [me7])) c7 c8 c9 c10 c11 c12 c13 c14 c15 c16) 100 59 me8 = true := by kernel_rfl
theorem me11_ok : ranB (tabG (.orc (memoO [me0])) (.orc (memoO [me1])) (.orc (memoO [me2])) (.orc (memoO [me3])) (.orc (memoO [me4])) (.orc (memoO [me6, me5])) (.orc (memoO [me7])) (.orc (memoO [me8])) (.orc (memoO [me10, me9])) c9 c10 c11 c12 c13 c14 c15 c16) 100 191 me11 = true := by kernel_rfl
theorem me14_ok : ranB (tabG (.orc (memoO [me0])) (.orc (memoO [me1])) (.orc (memoO [me2])) (.orc (memoO [me3])) (.orc (memoO [me4])) (.orc (memoO [me6, me5])) (.orc (memoO [me7])) (.orc (memoO [me8])) (.orc (memoO [me10, me9])) (.orc (memoO [me11])) (.orc (memoO [me12])) (.orc (memoO [me13])) c12 c13 c14 c15 c16) 100 145 me14 = true := by kernel_rfl
theorem me17_ok : ranB (tabG (.orc (memoO [me0])) (.orc (memoO [me1])) (.orc (memoO [me2])) (.orc (memoO [me3])) (.orc (memoO [me4])) (.orc (memoO [me6, me5])) (.orc (memoO [me7])) (.orc (memoO [me16, me8])) (.orc (memoO [me10, me9])) c9 (.orc (memoO [me12])) (.orc (memoO [me13])) (.orc (memoO [me14])) (.orc (memoO [me15])) c14 c15 c16) 100 191 me17 = true := by kernel_rfl
theorem me20_ok : ranB (tabG (.orc (memoO [me0])) (.orc (memoO [me1])) (.orc (memoO [me2])) (.orc (memoO [me3])) (.orc (memoO [me4])) (.orc (memoO [me6, me5])) (.orc (memoO [me7])) (.orc (memoO [me16, me8])) (.orc (memoO [me10, me9])) (.orc (memoO [me17, me11])) (.orc (memoO [me18, me12])) (.orc (memoO [me19, me13])) c12 (.orc (memoO [me15])) c14 c15 c16) 100 145 me20 = true := by kernel_rfl
theorem me23_ok : ranB (tabG (.orc (memoO [me0])) (.orc (memoO [me1])) (.orc (memoO [me2])) (.orc (memoO [me3])) (.orc (memoO [me4])) (.orc (memoO [me6, me5])) (.orc (memoO [me7])) (.orc (memoO [me16, me8])) (.orc (memoO [me10, me9])) (.orc (memoO [me17, me11])) (.orc (memoO [me18, me12])) (.orc (memoO [me19, me13])) (.orc (memoO [me20, me14])) (.orc (memoO [me15])) (.orc (memoO [me22, me21])) c15 c16) 100 25 me23 = true := by kernel_rfl
theorem me26_ok : ranB (tabG (.orc (memoO [me0])) (.orc (memoO [me1])) (.orc (memoO [me2])) (.orc (memoO [me3])) (.orc (memoO [me4])) (.orc (memoO [me6, me5])) (.orc (memoO [me7])) c7 (.orc (memoO [me10, me9])) (.orc (memoO [me17, me11])) (.orc (memoO [me18, me12])) (.orc (memoO [me19, me13])) (.orc (memoO [me20, me14])) (.orc (memoO [me15])) (.orc (memoO [me22, me21])) (.orc (memoO [me25, me23])) c16) 100 59 me26 = true := by kernel_rfl
theorem me29_ok : ranB (tabG (.orc (memoO [me0])) (.orc (memoO [me1])) (.orc (memoO [me2])) (.orc (memoO [me3])) (.orc (memoO [me4])) (.orc (memoO [me6, me5])) (.orc (memoO [me7])) (.orc (memoO [me26, me24, me16, me8])) (.orc (memoO [me28, me27, me10, me9])) (.orc (memoO [me17, me11])) (.orc (memoO [me18, me12])) (.orc (memoO [me19, me13])) (.orc (memoO [me20, me14])) (.orc (memoO [me15])) (.orc (memoO [me22, me21])) c15 c16) 100 25 me29 = true := by kernel_rfl
theorem me32_ok : ranB (tabG (.orc (memoO [me0])) (.orc (memoO [me1])) (.orc (memoO [me2])) (.orc (memoO [me3])) (.orc (memoO [me4])) (.orc (memoO [me6, me5])) (.orc (memoO [me7])) (.orc (memoO [me30, me26, me24, me16, me8])) c8 (.orc (memoO [me17, me11])) (.orc (memoO [me18, me12])) (.orc (memoO [me19, me13])) (.orc (memoO [me20, me14])) (.orc (memoO [me15])) (.orc (memoO [me22, me21])) (.orc (memoO [me29, me25, me23])) c16) 100 89 me32 = true := by kernel_rfl
end Rn
end Eng
end Go.Proofs.YtoheknblphcloaaGreatDoor
