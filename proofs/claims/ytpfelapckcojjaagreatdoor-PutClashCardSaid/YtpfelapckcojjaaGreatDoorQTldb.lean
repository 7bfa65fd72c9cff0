/-
  Parts of the proof: Tldb.
-/
import Derived.Test.YtpfelapckcojjaaGreatDoorQB2
set_option maxRecDepth 100000
set_option maxHeartbeats 64000000
namespace Go.Proofs.YtpfelapckcojjaaGreatDoor
open Go.RowKit
namespace Eng
namespace Rn
set_option maxRecDepth 100000
theorem me0_ok : ranB (tabG c0 c1 c2 c3 c4 c5 c6 c7 c8 c9 c10 c11 c12 c13 c14 c15 c16 c17) 100 23 me0 = true := by kernel_rfl
theorem me3_ok : ranB (tabG (.orc (memoO [me0])) (.orc (memoO [me1])) (.orc (memoO [me2])) c3 c4 c5 c6 c7 c8 c9 c10 c11 c12 c13 c14 c15 c16 c17) 100 114 me3 = true := by kernel_rfl
theorem me6_ok : ranB (tabG (.orc (memoO [me0])) (.orc (memoO [me1])) (.orc (memoO [me2])) (.orc (memoO [me3])) (.orc (memoO [me4])) (.orc (memoO [me5])) c6 c7 c8 c9 c10 c11 c12 c13 c14 c15 c16 c17) 100 63 me6 = true := by kernel_rfl
theorem me9_ok : ranB (tabG (.orc (memoO [me0])) (.orc (memoO [me1])) (.orc (memoO [me2])) (.orc (memoO [me3])) (.orc (memoO [me4])) (.orc (memoO [me5])) (.orc (memoO [me7, me6])) (.orc (memoO [me8])) c8 c9 c10 c11 c12 c13 c14 c15 c16 c17) 100 124 me9 = true := by kernel_rfl
theorem me12_ok : ranB (tabG (.orc (memoO [me0])) (.orc (memoO [me1])) (.orc (memoO [me2])) (.orc (memoO [me3])) (.orc (memoO [me4])) (.orc (memoO [me5])) (.orc (memoO [me7, me6])) (.orc (memoO [me8])) c8 (.orc (memoO [me10])) (.orc (memoO [me11])) c11 c12 c13 c14 c15 c16 c17) 100 124 me12 = true := by kernel_rfl
theorem me15_ok : ranB (tabG (.orc (memoO [me0])) (.orc (memoO [me1])) (.orc (memoO [me2])) (.orc (memoO [me3])) (.orc (memoO [me4])) (.orc (memoO [me5])) (.orc (memoO [me7, me6])) (.orc (memoO [me8])) (.orc (memoO [me12, me9])) (.orc (memoO [me10])) (.orc (memoO [me11])) (.orc (memoO [me14, me13])) c12 c13 c14 c15 c16 c17) 100 357 me15 = true := by kernel_rfl
theorem me18_ok : ranB (tabG (.orc (memoO [me0])) (.orc (memoO [me1])) (.orc (memoO [me2])) (.orc (memoO [me3])) (.orc (memoO [me4])) (.orc (memoO [me5])) (.orc (memoO [me7, me6])) (.orc (memoO [me8])) (.orc (memoO [me12, me9])) (.orc (memoO [me10])) (.orc (memoO [me11])) (.orc (memoO [me14, me13])) (.orc (memoO [me15])) (.orc (memoO [me16])) (.orc (memoO [me17])) c15 c16 c17) 100 277 me18 = true := by kernel_rfl
theorem me21_ok : ranB (tabG (.orc (memoO [me0])) (.orc (memoO [me1])) (.orc (memoO [me2])) (.orc (memoO [me3])) (.orc (memoO [me4])) (.orc (memoO [me5])) (.orc (memoO [me7, me6])) (.orc (memoO [me8])) (.orc (memoO [me20, me12, me9])) (.orc (memoO [me10])) (.orc (memoO [me11])) (.orc (memoO [me14, me13])) c12 (.orc (memoO [me16])) (.orc (memoO [me17])) (.orc (memoO [me18])) (.orc (memoO [me19])) c17) 100 357 me21 = true := by kernel_rfl
theorem me24_ok : ranB (tabG (.orc (memoO [me0])) (.orc (memoO [me1])) (.orc (memoO [me2])) (.orc (memoO [me3])) (.orc (memoO [me4])) (.orc (memoO [me5])) (.orc (memoO [me7, me6])) (.orc (memoO [me8])) (.orc (memoO [me20, me12, me9])) (.orc (memoO [me10])) (.orc (memoO [me11])) (.orc (memoO [me14, me13])) (.orc (memoO [me21, me15])) (.orc (memoO [me22, me16])) (.orc (memoO [me23, me17])) c15 (.orc (memoO [me19])) c17) 100 277 me24 = true := by kernel_rfl
theorem me27_ok : ranB (tabG (.orc (memoO [me0])) (.orc (memoO [me26, me1])) (.orc (memoO [me2])) (.orc (memoO [me3])) (.orc (memoO [me4])) (.orc (memoO [me5])) (.orc (memoO [me7, me6])) (.orc (memoO [me8])) (.orc (memoO [me20, me12, me9])) (.orc (memoO [me25, me10])) c10 (.orc (memoO [me14, me13])) (.orc (memoO [me21, me15])) (.orc (memoO [me22, me16])) (.orc (memoO [me23, me17])) (.orc (memoO [me24, me18])) (.orc (memoO [me19])) c17) 100 25 me27 = true := by kernel_rfl
end Rn
end Eng
end Go.Proofs.YtpfelapckcojjaaGreatDoor
