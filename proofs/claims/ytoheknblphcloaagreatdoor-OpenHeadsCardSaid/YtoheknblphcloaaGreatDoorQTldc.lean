/-
  Parts of the proof: Tldc.
-/
import Derived.Test.YtoheknblphcloaaGreatDoorQB2
set_option maxRecDepth 100000
set_option maxHeartbeats 64000000
namespace Go.Proofs.YtoheknblphcloaaGreatDoor
open Go.RowKit
namespace Eng
namespace Rn
set_option maxRecDepth 100000
theorem me1_ok : ranB (tabG (.orc (memoO [me0])) c1 c2 c3 c4 c5 c6 c7 c8 c9 c10 c11 c12 c13 c14 c15 c16) 100 15 me1 = true := by kernel_rfl
theorem me4_ok : ranB (tabG (.orc (memoO [me0])) (.orc (memoO [me1])) (.orc (memoO [me2])) (.orc (memoO [me3])) c4 c5 c6 c7 c8 c9 c10 c11 c12 c13 c14 c15 c16) 100 20 me4 = true := by kernel_rfl
theorem me7_ok : ranB (tabG (.orc (memoO [me0])) (.orc (memoO [me1])) (.orc (memoO [me2])) (.orc (memoO [me3])) (.orc (memoO [me4])) (.orc (memoO [me6, me5])) c6 c7 c8 c9 c10 c11 c12 c13 c14 c15 c16) 100 5 me7 = true := by kernel_rfl
theorem me10_ok : ranB (tabG (.orc (memoO [me0])) (.orc (memoO [me1])) (.orc (memoO [me2])) (.orc (memoO [me3])) (.orc (memoO [me4])) (.orc (memoO [me6, me5])) (.orc (memoO [me7])) (.orc (memoO [me8])) c8 c9 c10 c11 c12 c13 c14 c15 c16) 100 89 me10 = true := by kernel_rfl
theorem me13_ok : ranB (tabG (.orc (memoO [me0])) (.orc (memoO [me1])) (.orc (memoO [me2])) (.orc (memoO [me3])) (.orc (memoO [me4])) (.orc (memoO [me6, me5])) (.orc (memoO [me7])) (.orc (memoO [me8])) (.orc (memoO [me10, me9])) (.orc (memoO [me11])) (.orc (memoO [me12])) c11 c12 c13 c14 c15 c16) 100 169 me13 = true := by kernel_rfl
theorem me16_ok : ranB (tabG (.orc (memoO [me0])) (.orc (memoO [me1])) (.orc (memoO [me2])) (.orc (memoO [me3])) (.orc (memoO [me4])) (.orc (memoO [me6, me5])) (.orc (memoO [me7])) c7 (.orc (memoO [me10, me9])) (.orc (memoO [me11])) (.orc (memoO [me12])) (.orc (memoO [me13])) (.orc (memoO [me14])) (.orc (memoO [me15])) c14 c15 c16) 100 59 me16 = true := by kernel_rfl
theorem me19_ok : ranB (tabG (.orc (memoO [me0])) (.orc (memoO [me1])) (.orc (memoO [me2])) (.orc (memoO [me3])) (.orc (memoO [me4])) (.orc (memoO [me6, me5])) (.orc (memoO [me7])) (.orc (memoO [me16, me8])) (.orc (memoO [me10, me9])) (.orc (memoO [me17, me11])) (.orc (memoO [me18, me12])) c11 (.orc (memoO [me14])) (.orc (memoO [me15])) c14 c15 c16) 100 169 me19 = true := by kernel_rfl
theorem me22_ok : ranB (tabG (.orc (memoO [me0])) (.orc (memoO [me1])) (.orc (memoO [me2])) (.orc (memoO [me3])) (.orc (memoO [me4])) (.orc (memoO [me6, me5])) (.orc (memoO [me7])) (.orc (memoO [me16, me8])) (.orc (memoO [me10, me9])) (.orc (memoO [me17, me11])) (.orc (memoO [me18, me12])) (.orc (memoO [me19, me13])) (.orc (memoO [me20, me14])) (.orc (memoO [me15])) c14 c15 c16) 100 100 me22 = true := by kernel_rfl
theorem me25_ok : ranB (tabG (.orc (memoO [me0])) (.orc (memoO [me1])) (.orc (memoO [me2])) (.orc (memoO [me3])) (.orc (memoO [me4])) (.orc (memoO [me6, me5])) (.orc (memoO [me7])) (.orc (memoO [me24, me16, me8])) (.orc (memoO [me10, me9])) (.orc (memoO [me17, me11])) (.orc (memoO [me18, me12])) (.orc (memoO [me19, me13])) (.orc (memoO [me20, me14])) (.orc (memoO [me15])) (.orc (memoO [me22, me21])) c15 c16) 100 25 me25 = true := by kernel_rfl
theorem me28_ok : ranB (tabG (.orc (memoO [me0])) (.orc (memoO [me1])) (.orc (memoO [me2])) (.orc (memoO [me3])) (.orc (memoO [me4])) (.orc (memoO [me6, me5])) (.orc (memoO [me7])) (.orc (memoO [me26, me24, me16, me8])) c8 (.orc (memoO [me17, me11])) (.orc (memoO [me18, me12])) (.orc (memoO [me19, me13])) (.orc (memoO [me20, me14])) (.orc (memoO [me15])) (.orc (memoO [me22, me21])) (.orc (memoO [me25, me23])) c16) 100 89 me28 = true := by kernel_rfl
theorem me31_ok : ranB (tabG (.orc (memoO [me0])) (.orc (memoO [me1])) (.orc (memoO [me2])) (.orc (memoO [me3])) (.orc (memoO [me4])) (.orc (memoO [me6, me5])) (.orc (memoO [me7])) (.orc (memoO [me30, me26, me24, me16, me8])) c8 (.orc (memoO [me17, me11])) (.orc (memoO [me18, me12])) (.orc (memoO [me19, me13])) (.orc (memoO [me20, me14])) (.orc (memoO [me15])) (.orc (memoO [me22, me21])) (.orc (memoO [me29, me25, me23])) c16) 100 89 me31 = true := by kernel_rfl
theorem told_ok : ok (run (tabG (.orc (memoO [me0])) (.orc (memoO [me1])) (.orc (memoO [me2])) (.orc (memoO [me3])) (.orc (memoO [me4])) (.orc (memoO [me6, me5])) (.orc (memoO [me7])) (.orc (memoO [me30, me26, me24, me16, me8])) (.orc (memoO [me32, me31, me28, me27, me10, me9])) (.orc (memoO [me17, me11])) (.orc (memoO [me18, me12])) (.orc (memoO [me19, me13])) (.orc (memoO [me20, me14])) (.orc (memoO [me15])) (.orc (memoO [me22, me21])) (.orc (memoO [me33, me29, me25, me23])) c16) 100 7 [] ⟨0, .nil, []⟩) = true := by kernel_rfl
end Rn
end Eng
end Go.Proofs.YtoheknblphcloaaGreatDoor
