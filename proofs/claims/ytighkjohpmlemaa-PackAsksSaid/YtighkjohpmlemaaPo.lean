/-
  Laws of packed forms: PackRaw, PackTurned, PackBack, PackBlocks.
-/
import Derived.Test.YtighkjohpmlemaaPm
import Derived.Test.YtighkjohpmlemaaPn
namespace Go.Proofs.Ytighkjohpmlemaa
open Go.RowKit
namespace Eng
attribute [local irreducible] xs T

theorem str_ne {a b : List Int} (ha : Byts a) (hb : Byts b) : (!((strOfNums a).toList == (strOfNums b).toList)) = decide (a ≠ b) := by
  rw [str_eq ha hb]; by_cases h : a = b <;> simp [h]

/-- A slice of bytes as the walk shows it. -/
theorem Own.bform {w : World} {B : Nat} {e : TypeId} {v : Value} {zs : List Int} (h : Own w B e v (zs.map (Value.int .u8))) : ∃ A c, v = .slice A zs.length c ∧ zs.length ≤ c ∧ c ≤ 9223372036854775807 := by
  obtain ⟨A, c, h1, h2, h3⟩ := h.form
  rw [List.length_map] at h1 h2
  exact ⟨A, c, h1, h2, h3⟩
theorem Own.bform0 {w : World} {B : Nat} {e : TypeId} {v : Value} (h : Own w B e v (([] : List Int).map (Value.int .u8))) : ∃ A c, v = .slice A 0 c ∧ c ≤ 9223372036854775807 := by
  obtain ⟨A, c, h1, h2, h3⟩ := h.form
  exact ⟨A, c, h1, h3⟩
theorem BRow.form {w : World} {v : Value} {zs : List Int} (h : BRow w v zs) : ∃ A c, v = .slice A zs.length c ∧ zs.length ≤ c ∧ c ≤ 9223372036854775807 := by
  obtain ⟨A, c, h1, h2, h3, _⟩ := h.op
  exact ⟨A, c, h1, h2, h3⟩

set_option maxRecDepth 20000 in
set_option maxHeartbeats 4000000 in
theorem packRaw_does (w : World) (v : Value) (bs : List Int) (hv : BRow w v bs) (hb : Byts bs) (most : Int) (_hm : -9223372036854775808 ≤ most ∧ most ≤ 9223372036854775807) :
    Does Try.prog 6 #[v, .int .i64 most] w fun r w' => r = .bool true ∧ Ext w w' := by
  refine does2 Try.func6 rfl (by kernel_rfl) ?_
  obtain ⟨A, c, rfl, hcc, hcm⟩ := hv.form
  by_cases h0 : 300 < bs.length
  · refine goL ?_
    refine xcall rfl rfl (ptold_does w) (fun r w1 h1 => ?_)
    obtain ⟨rfl, hE1⟩ := h1
    refine goL ?_
    exact tret1 rfl rfl ⟨rfl, hE1⟩
  have hub := uw_bd most
  refine goLU ?_
  obtain ⟨m, hmm⟩ : ∃ m, m = uw most % 12001 := ⟨_, rfl⟩
  rw [← hmm]
  have hmb : 0 ≤ m ∧ m ≤ 12000 := by omega
  refine xcall rfl rfl (gget_does w _ bs m hv hb) (fun r w1 h1 => ?_)
  obtain ⟨v1, rfl, hown1, hE1⟩ := h1
  rcases gt_op hb m with hg | ⟨x, hx, lx, hp, hg⟩
  · rw [hg] at hown1 ⊢
    dsimp only at hown1 ⊢
    obtain ⟨A1, c1, rfl, hm1⟩ := hown1.bform0
    refine goL ?_
    refine xcall rfl rfl (ptold_does w1) (fun r w2 h2 => ?_)
    obtain ⟨rfl, hE2⟩ := h2
    refine goL ?_
    exact tret1 rfl rfl ⟨rfl, hE1.t hE2⟩
  by_cases hl : max m 0 < (x.length : Int)
  · rw [if_pos hl] at hg
    rw [hg] at hown1 ⊢
    dsimp only at hown1 ⊢
    obtain ⟨A1, c1, rfl, hm1⟩ := hown1.bform0
    refine goL ?_
    refine xcall rfl rfl (ptold_does w1) (fun r w2 h2 => ?_)
    obtain ⟨rfl, hE2⟩ := h2
    refine goL ?_
    exact tret1 rfl rfl ⟨rfl, hE1.t hE2⟩
  · rw [if_neg hl] at hg
    rw [hg] at hown1 ⊢
    dsimp only at hown1 ⊢
    obtain ⟨A1, c1, rfl, hc1, hm1⟩ := hown1.bform
    refine goL ?_
    refine xcall rfl rfl (put_does w1 _ x hown1.brow hx) (fun r w2 h2 => ?_)
    obtain ⟨v2, rfl, hown2, hE2⟩ := h2
    rw [ptE_ok lx]
    rw [ptB_ok lx, hp] at hown2
    obtain ⟨A2, c2, rfl, hc2, hm2⟩ := hown2.bform
    refine goL ?_
    refine xcall rfl rfl (ptold_does w2) (fun r w3 h3 => ?_)
    obtain ⟨rfl, hE3⟩ := h3
    have r2 := (hown2.ext hE3).brow
    have r0 := ((hv.ext hE1).ext hE2).ext hE3
    refine goL ?_
    refine xcbs rfl r2 ?_
    refine goL ?_
    refine xcbs rfl r0 ?_
    refine goL ?_
    refine xseqb rfl rfl (r := true) (by rw [str_eq hb hb]; simp) ?_
    refine goL ?_
    exact tret1 rfl rfl ⟨rfl, (hE1.t hE2).t hE3⟩

theorem bits_xor_u8 (a b : Nat) (ha : a < 256) (hb : b < 256) : bits .xor .u8 (a : Int) (b : Int) = ((a ^^^ b : Nat) : Int) := by
  have hx : a ^^^ b < 2 ^ 8 := Nat.xor_lt_two_pow ha hb
  have h1 : (BitVec.ofInt 8 (a : Int)).toNat = a := by
    rw [BitVec.ofInt_natCast, BitVec.toNat_ofNat]; exact Nat.mod_eq_of_lt (by omega)
  have h2 : (BitVec.ofInt 8 (b : Int)).toNat = b := by
    rw [BitVec.ofInt_natCast, BitVec.toNat_ofNat]; exact Nat.mod_eq_of_lt (by omega)
  show IntKind.u8.wrap ((BitVec.ofInt 8 (a : Int) ^^^ BitVec.ofInt 8 (b : Int)).toNat : Int) = _
  rw [BitVec.toNat_xor, h1, h2]
  simp only [IntKind.wrap, IntKind.bits, IntKind.signed]
  simp
  omega
theorem xor_bd {a b : Int} (ha : 0 ≤ a ∧ a < 256) (hb : 0 ≤ b ∧ b < 256) (h0 : b ≠ 0) : 0 ≤ bits .xor .u8 a b ∧ bits .xor .u8 a b < 256 ∧ bits .xor .u8 a b ≠ a := by
  obtain ⟨x, rfl⟩ := Int.eq_ofNat_of_zero_le ha.1
  obtain ⟨y, rfl⟩ := Int.eq_ofNat_of_zero_le hb.1
  have hx : x < 256 := by omega
  have hy : y < 256 := by omega
  have h3 : x ^^^ y < 2 ^ 8 := Nat.xor_lt_two_pow hx hy
  rw [bits_xor_u8 x y hx hy]
  refine ⟨by omega, by omega, fun e => h0 ?_⟩
  have e' : x ^^^ y = x := by omega
  have : x ^^^ (x ^^^ y) = x ^^^ x := by rw [e']
  rw [← Nat.xor_assoc, Nat.xor_self, Nat.zero_xor] at this
  omega
end Eng
end Go.Proofs.Ytighkjohpmlemaa
