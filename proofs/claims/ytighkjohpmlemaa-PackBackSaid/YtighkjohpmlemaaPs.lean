/-
  Laws of packed forms: PackBack.
-/
import Derived.Test.YtighkjohpmlemaaPp
namespace Go.Proofs.Ytighkjohpmlemaa
open Go.RowKit
namespace Eng
attribute [local irreducible] xs T

set_option maxRecDepth 20000 in
set_option maxHeartbeats 4000000 in
theorem packBack_does (w : World) (v : Value) (zs : List Int) (hv : IRow w v zs) (cut : Int) (_ha : -9223372036854775808 ≤ cut ∧ cut ≤ 9223372036854775807) :
    Does Try.prog 8 #[v, .int .i64 cut] w fun r w' => r = .bool true ∧ Ext w w' := by
  refine does2 Try.func8 rfl (by kernel_rfl) ?_
  refine goL ?_
  refine xcall rfl rfl (text_does w _ zs 800 hv (by decide)) (fun r w1 h1 => ?_)
  obtain ⟨x, rx, hx, lx, hE1⟩ := h1
  obtain ⟨A1, c1, rfl, hc1, hm1⟩ := rx.form
  refine goL ?_
  refine xcall rfl rfl (put_does w1 _ x rx hx) (fun r w2 h2 => ?_)
  obtain ⟨v2, rfl, hown2, hE2⟩ := h2
  rw [ptE_ok (by omega)]
  rw [ptB_ok (by omega)] at hown2
  have hpl := putB_len x
  have hlx : x.length ≤ 12000 := by omega
  have hpb := putB_byts hx hlx
  have g1 := gt_put hx hlx (x.length : Int)
  have g2 := gt_put hx hlx ((x.length : Int) - 1)
  have hone := putB_one (xs := x)
  have hcut := fun (y : List Int) (k : Nat) (hy : Byts y) (ly : y.length ≤ 12000) => put_cut (x := x) (y := y) (k := k) hx hy hlx ly
  have hext := fun (y : List Int) (c : Int) (hy : Byts y) (ly : y.length ≤ 12000) => put_ext (x := x) (y := y) (c := c) hx hy hlx ly
  obtain ⟨p, hp⟩ : ∃ p, p = putB x := ⟨_, rfl⟩
  rw [← hp] at hown2 hpl hpb g1 g2 hone hcut hext
  obtain ⟨A2, c2, rfl, hc2, hm2⟩ := hown2.bform
  rw [if_neg (by omega)] at g1
  refine goL ?_
  refine xcall rfl rfl (gget_does w2 _ p _ hown2.brow hpb) (fun r w3 h3 => ?_)
  obtain ⟨v3, rfl, hown3, hE3⟩ := h3
  rw [g1] at hown3 ⊢
  dsimp only at hown3 ⊢
  obtain ⟨A3, c3, rfl, hc3, hm3⟩ := hown3.bform
  refine goL ?_
  refine xcall rfl rfl (gget_does w3 _ p _ (hown2.ext hE3).brow hpb) (fun r w4 h4 => ?_)
  obtain ⟨v4, rfl, _, hE4⟩ := h4
  have r3 := (hown3.ext hE4).brow
  have r1 := rx.ext ((hE2.t hE3).t hE4)
  have hown4 := (hown2.ext hE3).ext hE4
  have hE04 : Ext w w4 := (hE1.t hE2).t (hE3.t hE4)
  obtain ⟨e2, he2⟩ : ∃ e2, e2 = (gtB p ((x.length : Int) - 1)).1 := ⟨_, rfl⟩
  rw [← he2]
  have he2' : 0 < x.length → e2 = 13 := fun h => by rw [he2, g2, if_pos (by omega)]
  clear g1 g2
  refine goL ?_
  refine xcbs rfl r3 ?_
  refine goL ?_
  refine xcbs rfl r1 ?_
  refine goL ?_
  refine xsneb rfl rfl (r := false) (by rw [str_ne hx hx]; simp) ?_
  obtain ⟨g, c4, e4, hg4, hgl4⟩ := hown4.lt_of (by rw [List.length_map]; omega)
  rw [List.length_map] at e4
  injection e4 with e4 _ e5
  subst e4; subst e5
  have hc0 := hown4.cell (k := 0) (by omega)
  have hb0 := byts_at hpb (k := 0) (by omega)
  have hzero : p.getD 0 0 = 0 ∨ p.getD 0 0 = 1 := hone.imp And.left And.left
  by_cases h0 : x.length = 0
  · have hz0 : p.getD 0 0 = 0 := by rw [hp, putB_short (by omega)]; rfl
    rw [hz0] at hc0
    have hp0 : p = 0 :: x := (hone.resolve_right (fun h => by have := h.1; omega)).2
    repeat' (first | refine xisq 0 0 rfl rfl rfl rfl rfl (by omega) ?_ | refine go1L ?_ | fail)
    refine xcall rfl rfl (ptold_does w4.drew) (fun r w5 h5 => ?_)
    obtain ⟨rfl, hE5'⟩ := h5
    have hE5 : Ext w4 w5 := (Fr.drew _ _).te hE5'
    have r5 : Row w5 (.slice (some ⟨g, 0, none⟩) p.length c2) p.length (p.map (Value.int .u8)) := (hown4.ext hE5).brow
    refine goL ?_
    refine xslr1 1 rfl rfl r5 rfl rfl (by omega) (fun A' hr' ho' => ?_)
    have hr2 := BRow.sub1 hr' rfl
    rw [hp0, List.drop_succ_cons, List.drop_zero] at hr2
    refine goL ?_
    refine xcbs rfl (by rw [hp0] at *; exact hr2) ?_
    refine goL ?_
    refine xcbs rfl (r1.ext hE5) ?_
    refine goL ?_
    refine xseqb rfl rfl (r := true) (by rw [str_eq hx hx]; simp) ?_
    refine goL ?_
    exact tret1 rfl rfl ⟨rfl, hE04.t hE5⟩
  have := he2' (by omega)
  subst this
  by_cases hz0 : p.getD 0 0 = 0
  · rw [hz0] at hc0
    have hp0 : p = 0 :: x := (hone.resolve_right (fun h => by have := h.1; omega)).2
    repeat' (first | refine xisq 0 0 rfl rfl rfl rfl rfl (by omega) ?_ | refine go1L ?_ | fail)
    refine xcall rfl rfl (ptold_does w4.drew) (fun r w5 h5 => ?_)
    obtain ⟨rfl, hE5'⟩ := h5
    have hE5 : Ext w4 w5 := (Fr.drew _ _).te hE5'
    have r5 : Row w5 (.slice (some ⟨g, 0, none⟩) p.length c2) p.length (p.map (Value.int .u8)) := (hown4.ext hE5).brow
    refine goL ?_
    refine xslr1 1 rfl rfl r5 rfl rfl (by omega) (fun A' hr' ho' => ?_)
    have hr2 := BRow.sub1 hr' rfl
    rw [hp0, List.drop_succ_cons, List.drop_zero] at hr2
    refine goL ?_
    refine xcbs rfl (by rw [hp0] at *; exact hr2) ?_
    refine goL ?_
    refine xcbs rfl (r1.ext hE5) ?_
    refine goL ?_
    refine xseqb rfl rfl (r := true) (by rw [str_eq hx hx]; simp) ?_
    refine goL ?_
    exact tret1 rfl rfl ⟨rfl, hE04.t hE5⟩
  have hub := uw_bd cut
  have q1 := Int.emod_nonneg (uw cut) (show (p.length : Int) ≠ 0 by omega)
  have q2 := Int.emod_lt_of_pos (uw cut) (show 0 < (p.length : Int) by omega)
  obtain ⟨k, hk⟩ := Int.eq_ofNat_of_zero_le q1
  have r4 : Row w4 (.slice (some ⟨g, 0, none⟩) p.length c2) p.length (p.map (Value.int .u8)) := hown4.brow
  repeat' (first | refine xisq 0 0 rfl rfl rfl rfl rfl (by omega) ?_ | refine go1LU ?_ | fail)
  refine xslr0 k rfl rfl r4 rfl hk (by omega) (fun A' hr' ho' => ?_)
  have hr2 := BRow.sub0 hr' (by omega)
  have hbt : Byts (p.take k) := fun z hz => hpb z (List.mem_of_mem_take hz)
  refine goL ?_
  refine xcall rfl rfl (gget_does w4 _ _ _ hr2 hbt) (fun r w5 h5 => ?_)
  obtain ⟨v5, rfl, _, hE5⟩ := h5
  rw [gt_no hbt fun y hy ly => hcut y k hy ly hz0 (by omega)]
  refine goL ?_
  refine xbs0 sl_bytes (fun w6 hB6 hE6 hs6 => ?_)
  have hown6 : Own w6 w5.heap.size 5 (.slice (some ⟨w5.heap.size, 0, none⟩) 0 0) [] := Own.of_blk (vs := []) hB6 (Nat.le_refl _) rfl (by decide)
  have r6 : Row w6 (.slice (some ⟨g, 0, none⟩) p.length c2) p.length (p.map (Value.int .u8)) := ((hown4.ext hE5).ext hE6).brow
  refine goL ?_
  refine xap sl_bytes rfl rfl hown6 rfl r6 (by rw [List.length_map]) map_u8_one (by unfold maxLen; simp; omega) (by simp; omega) (by omega) (fun v7 w7 hown7 hF7 hv7 => ?_)
  rw [List.nil_append] at hown7
  have hE57 : Ext w5 w7 := Ext.te hE6 hF7 fun j hj e => by have e' : (some w5.heap.size : Option Nat) = some j := e; injection e' with e'; omega
  refine goLU ?_
  have hbw := bw_bd cut
  obtain ⟨y, hy⟩ : ∃ y, y = bw cut := ⟨_, rfl⟩
  rw [← hy]
  rw [← hy] at hbw
  refine xbs sl_bytes rfl rfl (by decide) (by decide) (fun u hu => by simp at hu; subst hu; rfl) (fun w8 hB8 hE8 hs8 => ?_)
  have hBB := BB.new' [y] hB8 rfl
  refine xap sl_bytes rfl rfl (hown7.ext hE8) rfl (hBB.row (by show 1 ≤ maxLen; decide)) rfl map_u8_one (by unfold maxLen; rw [List.length_map]; omega) (by rw [List.length_map]; omega) (by have := hE57.size; have := hE8.size; omega) (fun v9 w9 hown9 hF9 hv9 => ?_)
  have hE59 : Ext w5 w9 := Ext.te (hE57.t hE8) hF9 fun j hj e => by have := (hown7.blk e).1; omega
  rw [← List.map_append] at hown9
  have hbe : Byts (p ++ [y]) := byts_app hpb (fun z hz => by simp at hz; subst hz; exact hbw)
  refine goL ?_
  refine xcall rfl rfl (gget_does w9 _ _ _ hown9.brow hbe) (fun r w10 h10 => ?_)
  obtain ⟨v10, rfl, _, hE10⟩ := h10
  rw [gt_no hbe fun y' hy' ly' => hext y' y hy' ly' hz0]
  refine goL ?_
  refine xcall rfl rfl (ptold_does w10) (fun r w11 h11 => ?_)
  obtain ⟨rfl, hE11⟩ := h11
  refine goL ?_
  exact tret1 rfl rfl ⟨rfl, hE04.t ((hE5.t hE59).t (hE10.t hE11))⟩
end Eng
end Go.Proofs.Ytighkjohpmlemaa
