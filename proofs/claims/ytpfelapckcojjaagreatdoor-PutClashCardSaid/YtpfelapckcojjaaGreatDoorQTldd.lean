/-
  Parts of the proof: Tldd.
-/
import Derived.Test.YtpfelapckcojjaaGreatDoorQB2
set_option maxRecDepth 100000
set_option maxHeartbeats 64000000
namespace Go.Proofs.YtpfelapckcojjaaGreatDoor
open Go.RowKit
namespace Eng
namespace Rn
set_option maxRecDepth 100000
theorem me2_ok : ranB (tabG (.orc (memoO [me0])) (.orc (memoO [me1])) c2 c3 c4 c5 c6 c7 c8 c9 c10 c11 c12 c13 c14 c15 c16 c17) 100 57 me2 = true := by kernel_rfl
theorem me5_ok : ranB (tabG (.orc (memoO [me0])) (.orc (memoO [me1])) (.orc (memoO [me2])) (.orc (memoO [me3])) (.orc (memoO [me4])) c5 c6 c7 c8 c9 c10 c11 c12 c13 c14 c15 c16 c17) 100 62 me5 = true := by kernel_rfl
theorem me8_ok : ranB (tabG (.orc (memoO [me0])) (.orc (memoO [me1])) (.orc (memoO [me2])) (.orc (memoO [me3])) (.orc (memoO [me4])) (.orc (memoO [me5])) (.orc (memoO [me7, me6])) c7 c8 c9 c10 c11 c12 c13 c14 c15 c16 c17) 100 24 me8 = true := by kernel_rfl
theorem me11_ok : ranB (tabG (.orc (memoO [me0])) (.orc (memoO [me1])) (.orc (memoO [me2])) (.orc (memoO [me3])) (.orc (memoO [me4])) (.orc (memoO [me5])) (.orc (memoO [me7, me6])) (.orc (memoO [me8])) (.orc (memoO [me9])) (.orc (memoO [me10])) c10 c11 c12 c13 c14 c15 c16 c17) 100 25 me11 = true := by kernel_rfl
theorem me14_ok : ranB (tabG (.orc (memoO [me0])) (.orc (memoO [me1])) (.orc (memoO [me2])) (.orc (memoO [me3])) (.orc (memoO [me4])) (.orc (memoO [me5])) (.orc (memoO [me7, me6])) (.orc (memoO [me8])) (.orc (memoO [me12, me9])) (.orc (memoO [me10])) (.orc (memoO [me11])) c11 c12 c13 c14 c15 c16 c17) 100 187 me14 = true := by kernel_rfl
theorem me17_ok : ranB (tabG (.orc (memoO [me0])) (.orc (memoO [me1])) (.orc (memoO [me2])) (.orc (memoO [me3])) (.orc (memoO [me4])) (.orc (memoO [me5])) (.orc (memoO [me7, me6])) (.orc (memoO [me8])) (.orc (memoO [me12, me9])) (.orc (memoO [me10])) (.orc (memoO [me11])) (.orc (memoO [me14, me13])) (.orc (memoO [me15])) (.orc (memoO [me16])) c14 c15 c16 c17) 100 321 me17 = true := by kernel_rfl
theorem me20_ok : ranB (tabG (.orc (memoO [me0])) (.orc (memoO [me1])) (.orc (memoO [me2])) (.orc (memoO [me3])) (.orc (memoO [me4])) (.orc (memoO [me5])) (.orc (memoO [me7, me6])) (.orc (memoO [me8])) c8 (.orc (memoO [me10])) (.orc (memoO [me11])) (.orc (memoO [me14, me13])) (.orc (memoO [me15])) (.orc (memoO [me16])) (.orc (memoO [me17])) (.orc (memoO [me18])) (.orc (memoO [me19])) c17) 100 124 me20 = true := by kernel_rfl
theorem me23_ok : ranB (tabG (.orc (memoO [me0])) (.orc (memoO [me1])) (.orc (memoO [me2])) (.orc (memoO [me3])) (.orc (memoO [me4])) (.orc (memoO [me5])) (.orc (memoO [me7, me6])) (.orc (memoO [me8])) (.orc (memoO [me20, me12, me9])) (.orc (memoO [me10])) (.orc (memoO [me11])) (.orc (memoO [me14, me13])) (.orc (memoO [me21, me15])) (.orc (memoO [me22, me16])) c14 (.orc (memoO [me18])) (.orc (memoO [me19])) c17) 100 321 me23 = true := by kernel_rfl
theorem me26_ok : ranB (tabG (.orc (memoO [me0])) c1 (.orc (memoO [me2])) (.orc (memoO [me3])) (.orc (memoO [me4])) (.orc (memoO [me5])) (.orc (memoO [me7, me6])) (.orc (memoO [me8])) (.orc (memoO [me20, me12, me9])) (.orc (memoO [me25, me10])) (.orc (memoO [me11])) (.orc (memoO [me14, me13])) (.orc (memoO [me21, me15])) (.orc (memoO [me22, me16])) (.orc (memoO [me23, me17])) (.orc (memoO [me24, me18])) (.orc (memoO [me19])) c17) 100 7 me26 = true := by kernel_rfl
theorem told_ok : ok (run (tabG (.orc (memoO [me0])) (.orc (memoO [me28, me26, me1])) (.orc (memoO [me2])) (.orc (memoO [me3])) (.orc (memoO [me4])) (.orc (memoO [me5])) (.orc (memoO [me7, me6])) (.orc (memoO [me8])) (.orc (memoO [me20, me12, me9])) (.orc (memoO [me25, me10])) (.orc (memoO [me27, me11])) (.orc (memoO [me14, me13])) (.orc (memoO [me21, me15])) (.orc (memoO [me22, me16])) (.orc (memoO [me23, me17])) (.orc (memoO [me24, me18])) (.orc (memoO [me19])) c17) 100 8 [] ⟨0, .nil, []⟩) = true := by kernel_rfl
end Rn
end Eng
end Go.Proofs.YtpfelapckcojjaaGreatDoor
