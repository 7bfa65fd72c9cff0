/-
  Parts of the proof: Tldc.
-/
import Derived.Test.YtpfelapckcojjaaGreatDoorQB2
set_option maxRecDepth 100000
set_option maxHeartbeats 64000000
namespace Go.Proofs.YtpfelapckcojjaaGreatDoor
open Go.RowKit
namespace Eng
namespace Rn
set_option maxRecDepth 100000
theorem me1_ok : ranB (tabG (.orc (memoO [me0])) c1 c2 c3 c4 c5 c6 c7 c8 c9 c10 c11 c12 c13 c14 c15 c16 c17) 100 7 me1 = true := by kernel_rfl
theorem me4_ok : ranB (tabG (.orc (memoO [me0])) (.orc (memoO [me1])) (.orc (memoO [me2])) (.orc (memoO [me3])) c4 c5 c6 c7 c8 c9 c10 c11 c12 c13 c14 c15 c16 c17) 100 117 me4 = true := by kernel_rfl
theorem me7_ok : ranB (tabG (.orc (memoO [me0])) (.orc (memoO [me1])) (.orc (memoO [me2])) (.orc (memoO [me3])) (.orc (memoO [me4])) (.orc (memoO [me5])) c6 c7 c8 c9 c10 c11 c12 c13 c14 c15 c16 c17) 100 63 me7 = true := by kernel_rfl
theorem me10_ok : ranB (tabG (.orc (memoO [me0])) (.orc (memoO [me1])) (.orc (memoO [me2])) (.orc (memoO [me3])) (.orc (memoO [me4])) (.orc (memoO [me5])) (.orc (memoO [me7, me6])) (.orc (memoO [me8])) (.orc (memoO [me9])) c9 c10 c11 c12 c13 c14 c15 c16 c17) 100 65 me10 = true := by kernel_rfl
theorem me13_ok : ranB (tabG (.orc (memoO [me0])) (.orc (memoO [me1])) (.orc (memoO [me2])) (.orc (memoO [me3])) (.orc (memoO [me4])) (.orc (memoO [me5])) (.orc (memoO [me7, me6])) (.orc (memoO [me8])) (.orc (memoO [me12, me9])) (.orc (memoO [me10])) (.orc (memoO [me11])) c11 c12 c13 c14 c15 c16 c17) 100 187 me13 = true := by kernel_rfl
theorem me16_ok : ranB (tabG (.orc (memoO [me0])) (.orc (memoO [me1])) (.orc (memoO [me2])) (.orc (memoO [me3])) (.orc (memoO [me4])) (.orc (memoO [me5])) (.orc (memoO [me7, me6])) (.orc (memoO [me8])) (.orc (memoO [me12, me9])) (.orc (memoO [me10])) (.orc (memoO [me11])) (.orc (memoO [me14, me13])) (.orc (memoO [me15])) c13 c14 c15 c16 c17) 100 359 me16 = true := by kernel_rfl
theorem me19_ok : ranB (tabG (.orc (memoO [me0])) (.orc (memoO [me1])) (.orc (memoO [me2])) (.orc (memoO [me3])) (.orc (memoO [me4])) (.orc (memoO [me5])) (.orc (memoO [me7, me6])) (.orc (memoO [me8])) (.orc (memoO [me12, me9])) (.orc (memoO [me10])) (.orc (memoO [me11])) (.orc (memoO [me14, me13])) (.orc (memoO [me15])) (.orc (memoO [me16])) (.orc (memoO [me17])) (.orc (memoO [me18])) c16 c17) 100 238 me19 = true := by kernel_rfl
theorem me22_ok : ranB (tabG (.orc (memoO [me0])) (.orc (memoO [me1])) (.orc (memoO [me2])) (.orc (memoO [me3])) (.orc (memoO [me4])) (.orc (memoO [me5])) (.orc (memoO [me7, me6])) (.orc (memoO [me8])) (.orc (memoO [me20, me12, me9])) (.orc (memoO [me10])) (.orc (memoO [me11])) (.orc (memoO [me14, me13])) (.orc (memoO [me21, me15])) c13 (.orc (memoO [me17])) (.orc (memoO [me18])) (.orc (memoO [me19])) c17) 100 359 me22 = true := by kernel_rfl
theorem me25_ok : ranB (tabG (.orc (memoO [me0])) (.orc (memoO [me1])) (.orc (memoO [me2])) (.orc (memoO [me3])) (.orc (memoO [me4])) (.orc (memoO [me5])) (.orc (memoO [me7, me6])) (.orc (memoO [me8])) (.orc (memoO [me20, me12, me9])) c9 (.orc (memoO [me11])) (.orc (memoO [me14, me13])) (.orc (memoO [me21, me15])) (.orc (memoO [me22, me16])) (.orc (memoO [me23, me17])) (.orc (memoO [me24, me18])) (.orc (memoO [me19])) c17) 100 65 me25 = true := by kernel_rfl
theorem me28_ok : ranB (tabG (.orc (memoO [me0])) c1 (.orc (memoO [me2])) (.orc (memoO [me3])) (.orc (memoO [me4])) (.orc (memoO [me5])) (.orc (memoO [me7, me6])) (.orc (memoO [me8])) (.orc (memoO [me20, me12, me9])) (.orc (memoO [me25, me10])) (.orc (memoO [me27, me11])) (.orc (memoO [me14, me13])) (.orc (memoO [me21, me15])) (.orc (memoO [me22, me16])) (.orc (memoO [me23, me17])) (.orc (memoO [me24, me18])) (.orc (memoO [me19])) c17) 100 7 me28 = true := by kernel_rfl
end Rn
end Eng
end Go.Proofs.YtpfelapckcojjaaGreatDoor
