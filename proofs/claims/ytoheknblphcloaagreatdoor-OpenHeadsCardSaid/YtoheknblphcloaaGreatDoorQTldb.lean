/-
  Parts of the proof: Tldb.
-/
import Derived.Test.YtoheknblphcloaaGreatDoorQB2
set_option maxRecDepth 100000
set_option maxHeartbeats 64000000
namespace Go.Proofs.YtoheknblphcloaaGreatDoor
open Go.RowKit
namespace Eng
namespace Rn
set_option maxRecDepth 100000
theorem me0_ok : ranB (tabG c0 c1 c2 c3 c4 c5 c6 c7 c8 c9 c10 c11 c12 c13 c14 c15 c16) 100 4 me0 = true := by kernel_rfl
theorem me3_ok : ranB (tabG (.orc (memoO [me0])) (.orc (memoO [me1])) (.orc (memoO [me2])) c3 c4 c5 c6 c7 c8 c9 c10 c11 c12 c13 c14 c15 c16) 100 50 me3 = true := by kernel_rfl
theorem me6_ok : ranB (tabG (.orc (memoO [me0])) (.orc (memoO [me1])) (.orc (memoO [me2])) (.orc (memoO [me3])) (.orc (memoO [me4])) c5 c6 c7 c8 c9 c10 c11 c12 c13 c14 c15 c16) 100 21 me6 = true := by kernel_rfl
theorem me9_ok : ranB (tabG (.orc (memoO [me0])) (.orc (memoO [me1])) (.orc (memoO [me2])) (.orc (memoO [me3])) (.orc (memoO [me4])) (.orc (memoO [me6, me5])) (.orc (memoO [me7])) (.orc (memoO [me8])) c8 c9 c10 c11 c12 c13 c14 c15 c16) 100 89 me9 = true := by kernel_rfl
theorem me12_ok : ranB (tabG (.orc (memoO [me0])) (.orc (memoO [me1])) (.orc (memoO [me2])) (.orc (memoO [me3])) (.orc (memoO [me4])) (.orc (memoO [me6, me5])) (.orc (memoO [me7])) (.orc (memoO [me8])) (.orc (memoO [me10, me9])) (.orc (memoO [me11])) c10 c11 c12 c13 c14 c15 c16) 100 193 me12 = true := by kernel_rfl
theorem me15_ok : ranB (tabG (.orc (memoO [me0])) (.orc (memoO [me1])) (.orc (memoO [me2])) (.orc (memoO [me3])) (.orc (memoO [me4])) (.orc (memoO [me6, me5])) (.orc (memoO [me7])) (.orc (memoO [me8])) (.orc (memoO [me10, me9])) (.orc (memoO [me11])) (.orc (memoO [me12])) (.orc (memoO [me13])) (.orc (memoO [me14])) c13 c14 c15 c16) 100 117 me15 = true := by kernel_rfl
theorem me18_ok : ranB (tabG (.orc (memoO [me0])) (.orc (memoO [me1])) (.orc (memoO [me2])) (.orc (memoO [me3])) (.orc (memoO [me4])) (.orc (memoO [me6, me5])) (.orc (memoO [me7])) (.orc (memoO [me16, me8])) (.orc (memoO [me10, me9])) (.orc (memoO [me17, me11])) c10 (.orc (memoO [me13])) (.orc (memoO [me14])) (.orc (memoO [me15])) c14 c15 c16) 100 193 me18 = true := by kernel_rfl
theorem me21_ok : ranB (tabG (.orc (memoO [me0])) (.orc (memoO [me1])) (.orc (memoO [me2])) (.orc (memoO [me3])) (.orc (memoO [me4])) (.orc (memoO [me6, me5])) (.orc (memoO [me7])) (.orc (memoO [me16, me8])) (.orc (memoO [me10, me9])) (.orc (memoO [me17, me11])) (.orc (memoO [me18, me12])) (.orc (memoO [me19, me13])) (.orc (memoO [me20, me14])) (.orc (memoO [me15])) c14 c15 c16) 100 100 me21 = true := by kernel_rfl
theorem me24_ok : ranB (tabG (.orc (memoO [me0])) (.orc (memoO [me1])) (.orc (memoO [me2])) (.orc (memoO [me3])) (.orc (memoO [me4])) (.orc (memoO [me6, me5])) (.orc (memoO [me7])) c7 (.orc (memoO [me10, me9])) (.orc (memoO [me17, me11])) (.orc (memoO [me18, me12])) (.orc (memoO [me19, me13])) (.orc (memoO [me20, me14])) (.orc (memoO [me15])) (.orc (memoO [me22, me21])) (.orc (memoO [me23])) c16) 100 59 me24 = true := by kernel_rfl
theorem me27_ok : ranB (tabG (.orc (memoO [me0])) (.orc (memoO [me1])) (.orc (memoO [me2])) (.orc (memoO [me3])) (.orc (memoO [me4])) (.orc (memoO [me6, me5])) (.orc (memoO [me7])) (.orc (memoO [me26, me24, me16, me8])) c8 (.orc (memoO [me17, me11])) (.orc (memoO [me18, me12])) (.orc (memoO [me19, me13])) (.orc (memoO [me20, me14])) (.orc (memoO [me15])) (.orc (memoO [me22, me21])) (.orc (memoO [me25, me23])) c16) 100 89 me27 = true := by kernel_rfl
theorem me30_ok : ranB (tabG (.orc (memoO [me0])) (.orc (memoO [me1])) (.orc (memoO [me2])) (.orc (memoO [me3])) (.orc (memoO [me4])) (.orc (memoO [me6, me5])) (.orc (memoO [me7])) c7 (.orc (memoO [me28, me27, me10, me9])) (.orc (memoO [me17, me11])) (.orc (memoO [me18, me12])) (.orc (memoO [me19, me13])) (.orc (memoO [me20, me14])) (.orc (memoO [me15])) (.orc (memoO [me22, me21])) (.orc (memoO [me29, me25, me23])) c16) 100 59 me30 = true := by kernel_rfl
theorem me33_ok : ranB (tabG (.orc (memoO [me0])) (.orc (memoO [me1])) (.orc (memoO [me2])) (.orc (memoO [me3])) (.orc (memoO [me4])) (.orc (memoO [me6, me5])) (.orc (memoO [me7])) (.orc (memoO [me30, me26, me24, me16, me8])) (.orc (memoO [me32, me31, me28, me27, me10, me9])) (.orc (memoO [me17, me11])) (.orc (memoO [me18, me12])) (.orc (memoO [me19, me13])) (.orc (memoO [me20, me14])) (.orc (memoO [me15])) (.orc (memoO [me22, me21])) c15 c16) 100 25 me33 = true := by kernel_rfl
end Rn
end Eng
end Go.Proofs.YtoheknblphcloaaGreatDoor
