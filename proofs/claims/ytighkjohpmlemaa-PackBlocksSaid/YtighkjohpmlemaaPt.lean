/-
  Laws of packed forms: PackBlocks.
-/
import Derived.Test.YtighkjohpmlemaaPo
namespace Go.Proofs.Ytighkjohpmlemaa
open Go.RowKit
namespace Eng
attribute [local irreducible] xs T

def repB (ps : List Int) : Nat → List Int
  | 0 => []
  | k + 1 => repB ps k ++ ps
theorem repB_len (ps : List Int) : ∀ k, (repB ps k).length = k * ps.length
  | 0 => by simp [repB]
  | k + 1 => by rw [repB, List.length_append, repB_len ps k, Nat.succ_mul]
theorem repB_byts {ps : List Int} (h : Byts ps) : ∀ k, Byts (repB ps k)
  | 0 => fun z hz => by cases hz
  | k + 1 => byts_app (repB_byts h k) h
theorem repB_get (ps : List Int) : ∀ (k j : Nat), j < k * ps.length → (repB ps k).getD j 0 = ps.getD (j % ps.length) 0
  | 0, j, h => by omega
  | k + 1, j, h => by
    rw [repB]
    by_cases hj : j < k * ps.length
    · rw [getD_app_left (by rw [repB_len]; exact hj), repB_get ps k j hj]
    · rw [Nat.succ_mul] at h
      rw [List.getD_eq_getElem?_getD, List.getElem?_append_right (by rw [repB_len]; omega), repB_len, ← List.getD_eq_getElem?_getD]
      congr 1
      have hq : j = (j - k * ps.length) + k * ps.length := by omega
      rw [hq, Nat.add_mul_mod_self_right, Nat.mod_eq_of_lt (by omega), Nat.add_sub_cancel]
theorem repB_per (ps : List Int) (k : Nat) : Per ps.length (repB ps k) := fun j hj => by
  rw [repB_len] at hj
  rw [repB_get ps k _ hj, repB_get ps k _ (by omega), Nat.add_mod_right]

structure BkI (ps : List Int) (N : Nat) (w0 : World) (x : Nat × Value) (w : World) : Prop where
  le : x.1 ≤ N
  own : Own w w0.heap.size 5 x.2 ((repB ps x.1).map (Value.int .u8))
  ext : Ext w0 w

set_option maxRecDepth 20000 in
set_option maxHeartbeats 4000000 in
theorem packBlocks_does (w : World) (v : Value) (ps : List Int) (hv : BRow w v ps) (hps : Byts ps) (n : Int) (_ha : -9223372036854775808 ≤ n ∧ n ≤ 9223372036854775807) :
    Does Try.prog 10 #[v, .int .i64 n] w fun r w' => r = .bool true ∧ Ext w w' := by
  refine does2 Try.func10 rfl (by kernel_rfl) ?_
  obtain ⟨A, c, rfl, hcc, hcm⟩ := hv.form
  by_cases h0 : ps.length < 1
  · refine goL ?_
    refine xcall rfl rfl (ptold_does w) (fun r w1 h1 => ?_)
    obtain ⟨rfl, hE1⟩ := h1
    refine goL ?_
    exact tret1 rfl rfl ⟨rfl, hE1⟩
  by_cases h1 : 20 < ps.length
  · refine goL ?_
    refine xcall rfl rfl (ptold_does w) (fun r w1 h1 => ?_)
    obtain ⟨rfl, hE1⟩ := h1
    refine goL ?_
    exact tret1 rfl rfl ⟨rfl, hE1⟩
  have hub := uw_bd n
  obtain ⟨N, hN⟩ : ∃ N : Nat, 20 + uw n % 41 = (N : Int) := ⟨(20 + uw n % 41).toNat, by omega⟩
  have hNb : 20 ≤ N ∧ N ≤ 60 := by omega
  have hmul : ∀ i, i ≤ N → i * ps.length ≤ 1200 := fun i hi => by
    have h2 : i * ps.length ≤ 60 * 20 := Nat.mul_le_mul (by omega) (by omega)
    omega
  refine goL ?_
  refine tloop (α := Nat × Value) (fun x => [(0, .slice A ps.length c), (1, .int .i64 n), (5, x.2), (6, .int .i64 (x.1 : Int))]) (BkI ps N w) (fun x => N - x.1) (0, .slice none 0 0) (sub ⟨rfl, rfl, rfl, rfl⟩) ⟨Nat.zero_le _, Own.nil _ _ _, Fr.refl _ _⟩ ?_
  rintro ⟨i, bv⟩ w1 ⟨hi, hown, hE⟩
  dsimp only at hi hown hE ⊢
  have hsz := hE.size
  have hrl := repB_len ps i
  have hm1 := hmul i hi
  by_cases hlt : i < N
  · refine goLU ?_
    have r1 : Row w1 (.slice A ps.length c) ps.length (ps.map (Value.int .u8)) := hv.ext hE
    refine xap sl_bytes rfl rfl hown rfl r1 (by rw [List.length_map]) map_u8_one (by unfold maxLen; rw [List.length_map]; omega) (by rw [List.length_map]; omega) (by omega) (fun v3 w3 hown3 hF3 hv3 => ?_)
    refine goL ?_
    refine tfin ⟨(i + 1, v3), sub ⟨rfl, rfl, rfl, rfl⟩, ⟨by dsimp only; omega, by dsimp only; rw [repB, List.map_append]; exact hown3, Ext.te hE hF3 fun j hj e => by have := (hown.blk e).1; omega⟩, (by show N - (i + 1) < N - i; omega)⟩
  obtain rfl : i = N := by omega
  have hbb := repB_byts hps i
  have hper := repB_per ps i
  obtain ⟨x, hx⟩ : ∃ x, x = repB ps i := ⟨_, rfl⟩
  rw [← hx] at hown hrl hbb hper
  obtain ⟨A1, c1, rfl, hc1, hm1'⟩ := hown.bform
  have hlx : x.length ≤ 12000 := by omega
  refine goLU ?_
  refine xcall rfl rfl (put_does w1 _ x hown.brow hbb) (fun r w2 h2 => ?_)
  obtain ⟨v2, rfl, hown2, hE2⟩ := h2
  rw [ptE_ok hlx]
  rw [ptB_ok hlx] at hown2
  have hpl := putB_len x
  have hpb := putB_byts hbb hlx
  have g1 := gt_put hbb hlx 5000
  rw [if_neg (by omega)] at g1
  have hshort : 400 ≤ x.length → (putB x).length < x.length := fun h4 => by
    have h5 := putB_le_sq x
    have h6 := put_per hbb hlx hper (by omega) (by omega)
    omega
  obtain ⟨p, hp⟩ : ∃ p, p = putB x := ⟨_, rfl⟩
  rw [← hp] at hown2 hpl hpb g1 hshort
  have hlp : p.length ≤ 12000 := by omega
  have g2 := gt_put hpb hlp 5000
  rw [if_neg (by omega)] at g2
  obtain ⟨A2, c2, rfl, hc2, hm2⟩ := hown2.bform
  refine goL ?_
  refine xcall rfl rfl (put_does w2 _ p hown2.brow hpb) (fun r w3 h3 => ?_)
  obtain ⟨v3, rfl, hown3, hE3⟩ := h3
  rw [ptE_ok hlp]
  rw [ptB_ok hlp] at hown3
  refine goL ?_
  refine xcall rfl rfl (gget_does w3 _ _ 5000 hown3.brow (putB_byts hpb hlp)) (fun r w4 h4 => ?_)
  obtain ⟨v4, rfl, hown4, hE4⟩ := h4
  rw [g2] at hown4 ⊢
  dsimp only at hown4 ⊢
  refine goL ?_
  refine xcall rfl rfl (gget_does w4 _ _ 5000 hown4.brow hpb) (fun r w5 h5 => ?_)
  obtain ⟨v5, rfl, hown5, hE5⟩ := h5
  rw [g1] at hown5 ⊢
  dsimp only at hown5 ⊢
  obtain ⟨A5, c5, rfl, hc5, hm5⟩ := hown5.bform
  refine goL ?_
  refine xcall rfl rfl (ptold_does w5) (fun r w6 h6 => ?_)
  obtain ⟨rfl, hE6⟩ := h6
  have hE16 : Ext w1 w6 := (hE2.t hE3).t ((hE4.t hE5).t hE6)
  have r5 := (hown5.ext hE6).brow
  have r1 := (hown.ext hE16).brow
  refine goL ?_
  refine xcbs rfl r5 ?_
  refine goL ?_
  refine xcbs rfl r1 ?_
  refine goL ?_
  refine xseqb rfl rfl (r := true) (by rw [str_eq hbb hbb]; simp) ?_
  by_cases h4 : x.length < 400
  · refine goL ?_
    exact tret1 rfl rfl ⟨rfl, hE.t hE16⟩
  · have := hshort (by omega)
    refine goL ?_
    exact tret1 rfl rfl ⟨rfl, hE.t hE16⟩
end Eng
end Go.Proofs.Ytighkjohpmlemaa
