/-
  The law PackAsks.
-/
import Derived.Test.YtighkjohpmlemaaTe
namespace Go.Proofs.Ytighkjohpmlemaa
open Go.RowKit
namespace Eng
attribute [local irreducible] xs T

theorem gtB_byts {bs : List Int} (hb : Byts bs) (most : Int) : Byts (gtB bs most).2 := by
  rcases gt_op hb most with h | ⟨x, hx, _, _, hg⟩
  · rw [h]; exact byts0
  · rw [hg]; split
    · exact byts0
    · exact hx

set_option maxRecDepth 20000 in
set_option maxHeartbeats 4000000 in
theorem packAsks_does (w : World) (v0 v1 : Value) (zs : List Int) (hv : IRow w v0 zs) (bs : List Int) (hvb : BRow w v1 bs) (hb : Byts bs) (t : Tkn) (most : Int) (_hm : -9223372036854775808 ≤ most ∧ most ≤ 9223372036854775807) :
    Does Try.prog 7 #[v0, v1, .agg (tkC t).toArray, .int .i64 most] w fun r w' => r = .bool true ∧ Ext w w' := by
  refine does4 Try.func7 rfl (by kernel_rfl) ?_
  obtain ⟨A, c, rfl, hcc, hcm⟩ := hvb.form
  refine goL ?_
  refine xbox rfl (fun w1 hB1 hE1 hs1 => ?_)
  have hB1' : Blk w1 w.heap.size 59 (tkC t).toArray := hB1
  by_cases h300 : 300 < bs.length
  · refine goL ?_
    refine xcall rfl rfl (ptold_does w1) (fun r w2 h2 => ?_)
    obtain ⟨rfl, hE2⟩ := h2
    refine goL ?_
    exact tret1 rfl rfl ⟨rfl, hE1.t hE2⟩
  refine goL ?_
  refine xcall rfl rfl (text_does w1 _ zs 600 (hv.ext hE1) (by decide)) (fun r w2 h2 => ?_)
  obtain ⟨x, rx, hx, lx, hE2⟩ := h2
  obtain ⟨A2, c2, rfl, hc2, hm2⟩ := rx.form
  refine goL ?_
  refine xcall rfl rfl (put_does w2 _ x rx hx) (fun r w3 h3 => ?_)
  obtain ⟨v3, rfl, hown3, hE3⟩ := h3
  obtain ⟨A3, c3, rfl, hc3, hm3⟩ := hown3.bform
  refine goL ?_
  refine xcbs rfl (rx.ext hE3) ?_
  refine xcall rfl rfl (rpack_does w3 x hx (by omega)) (fun r w4 h4 => ?_)
  obtain ⟨rfl, hE4⟩ := h4
  have hE14 : Ext w1 w4 := (hE2.t hE3).t hE4
  have rb4 := hvb.ext (hE1.t hE14)
  refine goL ?_
  refine xcall rfl rfl (put_does w4 _ bs rb4 hb) (fun r w5 h5 => ?_)
  obtain ⟨v5, rfl, hown5, hE5⟩ := h5
  obtain ⟨A5, c5, rfl, hc5, hm5⟩ := hown5.bform
  refine goL ?_
  refine xcbs rfl (rb4.ext hE5) ?_
  refine xcall rfl rfl (rpack_does w5 bs hb (by omega)) (fun r w6 h6 => ?_)
  obtain ⟨rfl, hE6⟩ := h6
  have rb6 := (rb4.ext hE5).ext hE6
  refine goL ?_
  refine xcall rfl rfl (gget_does w6 _ bs most rb6 hb) (fun r w7 h7 => ?_)
  obtain ⟨v7, rfl, hown7, hE7⟩ := h7
  obtain ⟨A7, c7, rfl, hc7, hm7⟩ := hown7.bform
  refine goL ?_
  refine xcbs rfl (rb6.ext hE7) ?_
  refine goL ?_
  refine xcall rfl rfl (runpack_does w7 bs most hb (by omega)) (fun r w8 h8 => ?_)
  obtain ⟨rfl, hE8⟩ := h8
  have hE48 : Ext w4 w8 := (hE5.t hE6).t (hE7.t hE8)
  have hE18 : Ext w1 w8 := hE14.t hE48
  refine goL ?_
  refine xlda (hB1'.ext hE18) rfl rfl ?_
  refine xcall rfl rfl (sym_does w8 t) (fun r w9 h9 => ?_)
  obtain ⟨rfl, hE9⟩ := h9
  have hB9 : Blk w9 w.heap.size 59 #[.int .i64 t.lit, .int .i64 t.back, .int .i64 t.long] := hB1'.ext (hE18.t hE9)
  have k0 : w9.cell? ⟨w.heap.size, 0, none⟩ = some (.int .i64 t.lit) := hB9.cell 0
  have k1 : w9.cell? ⟨w.heap.size, 1, none⟩ = some (.int .i64 t.back) := hB9.cell 1
  have k2 : w9.cell? ⟨w.heap.size, 2, none⟩ = some (.int .i64 t.long) := hB9.cell 2
  refine goL ?_
  refine xbd (cells := (tkC t).toArray) rfl (by kernel_rfl) ?_
  refine xcall rfl rfl (rsym_does w9 t) (fun r w10 h10 => ?_)
  obtain ⟨rfl, hE10⟩ := h10
  refine goL ?_
  refine xcall rfl rfl (ptold_does w10) (fun r w11 h11 => ?_)
  obtain ⟨rfl, hE11⟩ := h11
  have hE811 : Ext w8 w11 := (hE9.t hE10).t hE11
  have r3 := ((hown3.ext hE4).ext (hE48.t hE811)).brow
  have r5 := (((hown5.ext hE6).ext (hE7.t hE8)).ext hE811).brow
  have r7 := ((hown7.ext hE8).ext hE811).brow
  have bx := ptB_byts hx
  have bb := ptB_byts hb
  have bg := gtB_byts hb most
  refine goL ?_
  refine xcbs rfl r3 ?_
  refine goL ?_
  refine xseqb rfl rfl (r := true) (by rw [str_eq bx bx]; simp) ?_
  refine goL ?_
  refine xcbs rfl r5 ?_
  refine goL ?_
  refine xseqb rfl rfl (r := true) (by rw [str_eq bb bb]; simp) ?_
  refine goL ?_
  refine xcbs rfl r7 ?_
  refine goL ?_
  refine xseqb rfl rfl (r := true) (by rw [str_eq bg bg]; simp) ?_
  refine goL ?_
  exact tret1 rfl rfl ⟨rfl, (hE1.t hE18).t hE811⟩
end Eng
end Go.Proofs.Ytighkjohpmlemaa
