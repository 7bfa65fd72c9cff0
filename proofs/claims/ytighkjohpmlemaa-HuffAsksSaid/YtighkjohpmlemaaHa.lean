/-
  Package huff: what May, symbol and the library's Min and Max return.
-/
import Derived.Test.YtighkjohpmlemaaMem
namespace Go.Proofs.Ytighkjohpmlemaa
open Go.RowKit
namespace Eng

/-- The valid lengths of a code. -/
def mayGo : List Int → Int → Int → Bool
  | [], codes, sum => if codes = 1 then decide (sum = 2048) else decide (codes = 0) || decide (sum = 4096)
  | n :: r, codes, sum => if n < 0 ∨ 12 < n then false else if 0 < n then mayGo r (codes + 1) (sum + p2 (12 - n)) else mayGo r codes sum
def mayB (zs : List Int) : Bool := decide (zs.length ≤ 400) && mayGo zs 0 0

structure MayI (zs : List Int) (w0 : World) (x : Nat × Int × Int) (w : World) : Prop where
  w : w = w0
  len : zs.length ≤ 400
  k : x.1 ≤ zs.length
  c0 : 0 ≤ x.2.1
  c1 : x.2.1 ≤ x.1
  s0 : 0 ≤ x.2.2
  s1 : x.2.2 ≤ 4096 * x.1
  go : mayGo (zs.drop x.1) x.2.1 x.2.2 = mayGo zs 0 0

theorem mayGo_nil (c s : Int) : mayGo [] c s = if c = 1 then decide (s = 2048) else decide (c = 0) || decide (s = 4096) := rfl
theorem mayGo_cons (n : Int) (r : List Int) (c s : Int) : mayGo (n :: r) c s = if n < 0 ∨ 12 < n then false else if 0 < n then mayGo r (c + 1) (s + p2 (12 - n)) else mayGo r c s := rfl

set_option maxRecDepth 20000 in
set_option maxHeartbeats 1000000 in
theorem may_does (w : World) (v : Value) (zs : List Int) (hv : IRow w v zs) : Does Try.prog 20 #[v] w fun r w' => r = .bool (mayB zs) ∧ w = w' := by
  obtain ⟨A, c, rfl, hc, hcm, hA⟩ := hv
  unfold maxLen at hcm
  refine does1 Try.func20 rfl (by kernel_rfl) ?_
  repeat' (first | refine xp rfl ?_ | refine xnil ?_ | refine xai rfl rfl rfl (by omega) (by omega) ?_ | refine xdi rfl rfl rfl (by omega) (by omega) (by omega) ?_ | refine xau rfl rfl rfl (by omega) (by omega) ?_ | refine xct rfl rfl rfl (by omega) ?_ | refine xcf rfl rfl rfl (by omega) ?_ | refine xgy rfl ?_ | refine xgn rfl ?_ | refine tseq ?_ | refine tct rfl ?_ | refine tcf rfl ?_ | refine tskip ?_ | refine treg (by kernel_rfl) ?_ | refine tdraw (by kernel_rfl) (by decide +kernel) ?_ | refine tblock ?_ | refine tblk ?_ | refine texit rfl ?_ | refine xixn rfl rfl rfl (by omega) ?_ | refine xld rfl rfl (by assumption) ?_)
  refine tscope1 (α := Nat × Int × Int) 0 rfl (fun x => [(0, .slice A zs.length c), (3, .int .i64 (x.1 : Int)), (4, .int .i64 x.2.1), (5, .int .i64 x.2.2)])
    (MayI zs w) (fun x => zs.length - x.1) ?_ ?_
  · rintro ⟨k, cd, sm⟩ w' ⟨rfl, h4, hk, hc0, hc1, hs0, hs1, hgo⟩
    dsimp only at h4 hk hc0 hc1 hs0 hs1 hgo ⊢
    by_cases hlt : k < zs.length
    · obtain ⟨b, o, z, rfl, hb, hz, hcell, hdrop⟩ := at_row hA hlt
      rw [hdrop, mayGo_cons] at hgo
      by_cases h0 : z < 0 ∨ 12 < z
      · rw [if_pos h0] at hgo
        repeat' (first | refine xp rfl ?_ | refine xnil ?_ | refine xai rfl rfl rfl (by omega) (by omega) ?_ | refine xdi rfl rfl rfl (by omega) (by omega) (by omega) ?_ | refine xau rfl rfl rfl (by omega) (by omega) ?_ | refine xct rfl rfl rfl (by omega) ?_ | refine xcf rfl rfl rfl (by omega) ?_ | refine xgy rfl ?_ | refine xgn rfl ?_ | refine tseq ?_ | refine tct rfl ?_ | refine tcf rfl ?_ | refine tskip ?_ | refine treg (by kernel_rfl) ?_ | refine tdraw (by kernel_rfl) (by decide +kernel) ?_ | refine tblock ?_ | refine tblk ?_ | refine texit rfl ?_ | refine xixn rfl rfl rfl (by omega) ?_ | refine xld rfl rfl (by assumption) ?_ | refine xcs rfl rfl rfl (fun hc => ?_) (fun hc => ?_))
        all_goals first | omega | exact tret1 rfl rfl ⟨by simp [mayB, ← hgo], rfl⟩
      · rw [if_neg h0] at hgo
        by_cases h1 : 0 < z
        · rw [if_pos h1] at hgo
          have hp := p2_pos (12 - z)
          have hp' : p2 (12 - z) ≤ 2 ^ 12 := p2_le (by omega)
          repeat' (first | refine xp rfl ?_ | refine xnil ?_ | refine xai rfl rfl rfl (by omega) (by omega) ?_ | refine xdi rfl rfl rfl (by omega) (by omega) (by omega) ?_ | refine xau rfl rfl rfl (by omega) (by omega) ?_ | refine xct rfl rfl rfl (by omega) ?_ | refine xcf rfl rfl rfl (by omega) ?_ | refine xgy rfl ?_ | refine xgn rfl ?_ | refine tseq ?_ | refine tct rfl ?_ | refine tcf rfl ?_ | refine tskip ?_ | refine treg (by kernel_rfl) ?_ | refine tdraw (by kernel_rfl) (by decide +kernel) ?_ | refine tblock ?_ | refine tblk ?_ | refine texit rfl ?_ | refine xixn rfl rfl rfl (by omega) ?_ | refine xld rfl rfl (by assumption) ?_)
          refine xshl (r := p2 (12 - z)) rfl rfl (by omega) (by simp [IntKind.bits]; omega) (by rw [Int.one_mul]; exact IntWalk.i64_in _ (by unfold p2 at *; omega)) ?_
          repeat' (first | refine xp rfl ?_ | refine xnil ?_ | refine xai rfl rfl rfl (by omega) (by omega) ?_ | refine xdi rfl rfl rfl (by omega) (by omega) (by omega) ?_ | refine xau rfl rfl rfl (by omega) (by omega) ?_ | refine xct rfl rfl rfl (by omega) ?_ | refine xcf rfl rfl rfl (by omega) ?_ | refine xgy rfl ?_ | refine xgn rfl ?_ | refine tseq ?_ | refine tct rfl ?_ | refine tcf rfl ?_ | refine tskip ?_ | refine treg (by kernel_rfl) ?_ | refine tdraw (by kernel_rfl) (by decide +kernel) ?_ | refine tblock ?_ | refine tblk ?_ | refine texit rfl ?_ | refine xixn rfl rfl rfl (by omega) ?_ | refine xld rfl rfl (by assumption) ?_)
          exact tgoto rfl ⟨_, by dsimp only; omega, rfl, (k + 1, cd + 1, sm + p2 (12 - z)), sub ⟨rfl, rfl, rfl, rfl⟩, ⟨rfl, h4, by dsimp only; omega, by dsimp only; omega, by dsimp only; omega, by dsimp only; omega, by dsimp only; omega, hgo⟩, rfl⟩
        · rw [if_neg h1] at hgo
          repeat' (first | refine xp rfl ?_ | refine xnil ?_ | refine xai rfl rfl rfl (by omega) (by omega) ?_ | refine xdi rfl rfl rfl (by omega) (by omega) (by omega) ?_ | refine xau rfl rfl rfl (by omega) (by omega) ?_ | refine xct rfl rfl rfl (by omega) ?_ | refine xcf rfl rfl rfl (by omega) ?_ | refine xgy rfl ?_ | refine xgn rfl ?_ | refine tseq ?_ | refine tct rfl ?_ | refine tcf rfl ?_ | refine tskip ?_ | refine treg (by kernel_rfl) ?_ | refine tdraw (by kernel_rfl) (by decide +kernel) ?_ | refine tblock ?_ | refine tblk ?_ | refine texit rfl ?_ | refine xixn rfl rfl rfl (by omega) ?_ | refine xld rfl rfl (by assumption) ?_)
          exact tgoto rfl ⟨_, by dsimp only; omega, rfl, (k + 1, cd, sm), sub ⟨rfl, rfl, rfl, rfl⟩, ⟨rfl, h4, by dsimp only; omega, by dsimp only; omega, by dsimp only; omega, by dsimp only; omega, by dsimp only; omega, hgo⟩, rfl⟩
    · rw [List.drop_eq_nil_of_le (by omega), mayGo_nil] at hgo
      have hm : mayB zs = if cd = 1 then decide (sm = 2048) else decide (cd = 0) || decide (sm = 4096) := by rw [hgo]; simp [mayB, h4]
      repeat' (first | refine xp rfl ?_ | refine xnil ?_ | refine xai rfl rfl rfl (by omega) (by omega) ?_ | refine xdi rfl rfl rfl (by omega) (by omega) (by omega) ?_ | refine xau rfl rfl rfl (by omega) (by omega) ?_ | refine xct rfl rfl rfl (by omega) ?_ | refine xcf rfl rfl rfl (by omega) ?_ | refine xgy rfl ?_ | refine xgn rfl ?_ | refine tseq ?_ | refine tct rfl ?_ | refine tcf rfl ?_ | refine tskip ?_ | refine treg (by kernel_rfl) ?_ | refine tdraw (by kernel_rfl) (by decide +kernel) ?_ | refine tblock ?_ | refine tblk ?_ | refine texit rfl ?_ | refine xixn rfl rfl rfl (by omega) ?_ | refine xld rfl rfl (by assumption) ?_ | refine xcs rfl rfl rfl (fun hc => ?_) (fun hc => ?_))
      all_goals exact tret1 rfl rfl ⟨by rw [hm]; simp [*], rfl⟩
  · intro H
    repeat' (first | refine xp rfl ?_ | refine xnil ?_ | refine xai rfl rfl rfl (by omega) (by omega) ?_ | refine xdi rfl rfl rfl (by omega) (by omega) (by omega) ?_ | refine xau rfl rfl rfl (by omega) (by omega) ?_ | refine xct rfl rfl rfl (by omega) ?_ | refine xcf rfl rfl rfl (by omega) ?_ | refine xgy rfl ?_ | refine xgn rfl ?_ | refine tseq ?_ | refine tct rfl ?_ | refine tcf rfl ?_ | refine tskip ?_ | refine treg (by kernel_rfl) ?_ | refine tdraw (by kernel_rfl) (by decide +kernel) ?_ | refine tblock ?_ | refine tblk ?_ | refine texit rfl ?_ | refine xixn rfl rfl rfl (by omega) ?_ | refine xld rfl rfl (by assumption) ?_ | refine xcs rfl rfl rfl (fun hc => ?_) (fun hc => ?_))
    · exact tret1 rfl rfl ⟨by simp [mayB]; omega, rfl⟩
    · refine tlabel ?_
      exact tweak (H (0, 0, 0) w ⟨rfl, by omega, by simp, by simp, by simp, by simp, by simp, by simp⟩) (sub ⟨rfl, rfl, rfl, rfl⟩)
end Eng
end Go.Proofs.Ytighkjohpmlemaa
