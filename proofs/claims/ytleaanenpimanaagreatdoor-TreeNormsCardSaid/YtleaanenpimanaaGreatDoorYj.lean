/-
  Laws of made trees: normal forms.
-/
import Derived.Test.YtleaanenpimanaaGreatDoorYg
namespace Go.Proofs.YtleaanenpimanaaGreatDoor
open Go.RowKit
namespace Eng
attribute [local irreducible] xs T

structure NoI (t : Tre) (nvs : List NdV) (g4 : Nat) (w0 : World) (x : Nat × Value) (w : World) : Prop where
  ext : Ext w0 w
  le : x.1 ≤ nvs.length
  blk : Blk w g4 25 #[.slice none 0 0, x.2]
  rw : Rw ndC w x.2 (nvs.take x.1).reverse
def mvT (t : Tre) : Int → Int := fun k => (t.ns.length : Int) - 1 - k
structure NoI2 (t : Tre) (nvs : List NdV) (g4 : Nat) (vN : Value) (w0 : World) (x : Nat × Value) (w : World) : Prop where
  ext : Ext w0 w
  le : x.1 ≤ t.es.length
  blk : Blk w g4 25 #[x.2, vN]
  rn : Rw ndC w vN nvs.reverse
  rw : Rw enC w x.2 ((t.es.take x.1).map (mvE (mvT t))).reverse

set_option maxRecDepth 20000 in
set_option maxHeartbeats 8000000 in
theorem treeNorms_core (mk : MkD) (w : World) (v : Value) (zs : List Int) (hv : IRow w v zs) : Does Tryz.prog 4 #[v] w fun r w' => r = .bool true ∧ Ext w w' := by
  refine does1 Tryz.func4 rfl (by kernel_rfl) ?_
  have hN : ∀ {a b c : World} {g : Nat}, Ext a b → Fr (· = g) b c → a.heap.size ≤ g → Ext a c := fun h1 h2 hg => h1.trans h2 fun j hj e => absurd hj (by omega)
  refine goL ?_
  refine xcallE rfl rfl (mk w v zs hv) (fun r w1 h1 => ?_)
  obtain ⟨ve, vn, nvs, rfl, hT1, hE1⟩ := h1
  have hmay := mkT_may (zs.map uN)
  have hlen26 := mkT_len (zs.map uN)
  obtain ⟨t, ht⟩ : ∃ t, t = mkT (zs.map uN) := ⟨_, rfl⟩
  rw [← ht] at hT1 hmay hlen26
  have hg := may_good hmay
  have hns := may_ns hmay
  obtain ⟨ok1, ok2, _⟩ := may_ok hmay
  have hT1' := hT1
  obtain ⟨A, c, rfl, hc1, hc2, hA⟩ := hT1.e.op enC_len
  obtain ⟨N, d, rfl, hd1, hd2, hAN⟩ := hT1.n.op ndC_len
  have hlen := hT1'.len
  refine goL ?_
  refine xalloc (z := .agg #[.slice none 0 0, .slice none 0 0]) (by kernel_rfl) (fun w2 hB2 hE2 hs2 => ?_)
  refine xsta hB2 rfl rfl (by kernel_rfl) rfl (one_cells (l := [.slice A t.es.length c, .slice N nvs.length d]) rfl) (fun w3 hB3 hF3 => ?_)
  have hE13 : Ext w1 w3 := hN hE2 hF3 (Nat.le_refl _)
  have hE03 := hE1.t hE13
  obtain ⟨g3, hg3⟩ : ∃ g3, g3 = w1.heap.size := ⟨_, rfl⟩
  rw [← hg3] at hB3 ⊢
  have hA3 := hA.ext hE13
  have hAN3 := hAN.ext hE13
  have hT3 := hT1'.ext hE13
  refine goL ?_
  refine xalloc (z := .agg #[.slice none 0 0, .slice none 0 0]) (by kernel_rfl) (fun w4 hB4 hE4 hs4 => ?_)
  have hB4' : Blk w4 w3.heap.size 25 #[.slice none 0 0, .slice none 0 0] := hB4
  have hge : w3.heap.size ≤ w3.heap.size := Nat.le_refl _
  obtain ⟨g4, hg4⟩ : ∃ g4, g4 = w3.heap.size := ⟨_, rfl⟩
  rw [← hg4] at hB4' ⊢
  have k1 : w4.cell? ⟨g3, 1, none⟩ = some (.slice N nvs.length d) := (Blk.ext hB3 hE4).cell 1
  refine goL ?_
  refine tloop (α := Nat × Value) (fun x => [(3, .pointer (some ⟨g3, 0, none⟩)), (4, .pointer (some ⟨g4, 0, none⟩)), (5, .int .i64 (nvs.length : Int)), (6, .int .i64 (x.1 : Int))]) (NoI t nvs g4 w3) (fun x => nvs.length - x.1) (0, .slice none 0 0) (sub ⟨rfl, rfl, rfl, rfl⟩) ⟨hE4, Nat.zero_le _, hB4', Rw.nil _ _ (by unfold maxLen; omega)⟩ ?_
  rintro ⟨i, vU⟩ w5 ⟨hE5, hi, hblk, hrw⟩
  dsimp only at hE5 hi hblk hrw ⊢
  by_cases hlt : i < nvs.length
  · obtain ⟨b, o, y, rfl, _, hy, _, hcy⟩ := hAN3.at_ hlt
    have hrw' := hrw
    obtain ⟨AU, cU, rfl, hcU1, hcU2, _⟩ := hrw.op ndC_len
    have hUl : ((nvs.take i).reverse).length = i := by rw [List.length_reverse, List.length_take]; omega
    have m1 : w5.drew.cell? ⟨g3, 1, none⟩ = some (.slice (some ⟨b, o, none⟩) nvs.length d) := (Blk.ext hB3 hE5.ed).cell 1
    have hnc : ∀ q z, (ndC y)[q]? = some z → w5.drew.cell? ⟨b, o + i * 12 + q, none⟩ = some z := fun q z hz => hE5.ed.cell (hcy q z hz)
    have hin := hT3.i y (List.mem_of_getElem? hy)
    have c27 : w5.drew.cell? ⟨g4, 1, none⟩ = some (.slice AU ((nvs.take i).reverse).length cU) := hblk.cell 1
    refine goL ?_
    refine tdrawC 8 [27] (fun w' => w'.cell? ⟨g4, 1, none⟩ = some (.slice AU ((nvs.take i).reverse).length cU)) (by kernel_rfl) (by decide +kernel) c27 ?_
    repeat' (first | refine xizq i (o + i * 12) rfl rfl rfl rfl rfl hlt ?_ | refine go1L ?_ | fail)
    refine xldz (cs := ndC y) rfl rfl hnc ?_
    refine xbz1 sl_nds rfl rfl (by decide) (by decide) (fun w6 hB6 hE6 hs6 => ?_) (fun w' he => he.cell c27)
    have c276 : w6.cell? ⟨g4, 1, none⟩ = some (.slice AU ((nvs.take i).reverse).length cU) := hE6.cell c27
    repeat' (first | refine xldh rfl rfl (fun _ h => h) ?_ | refine go1L ?_ | fail)
    have hE56 : Ext w5 w6 := (Fr.drew _ _).t hE6
    have hO6 : Ow ndC 12 w6 w5.drew.heap.size 47 (.slice (some ⟨w5.drew.heap.size, 0, none⟩) 1 1) [y] := Ow.of_blk ndC_len hB6 rfl (Nat.le_refl _) rfl (by decide)
    refine xapz (B := w5.drew.heap.size) (news := ((nvs.take i).reverse).flatMap ndC) sl_nds rfl (by decide) rfl hO6 rfl (hrw'.ext hE56) (flat_len ndC_len _) (by
      intro u hu
      obtain ⟨z, hz, hu⟩ := List.mem_flatMap.1 hu
      have hz2 : z ∈ nvs := List.mem_of_mem_take (List.mem_reverse.1 hz)
      exact ndC_one (hT3.i z hz2) u hu) (by rw [hUl]; unfold maxLen; simp only [List.length_cons, List.length_nil]; omega) (by rw [hUl]; simp only [List.length_cons, List.length_nil]; omega) (by omega) (fun v7 w7 hO7 hF7 _ => ?_)
    have hO7' : Ow ndC 12 w7 w5.drew.heap.size 47 v7 ((nvs.take (i + 1)).reverse) := by
      have e1 : (nvs.take (i + 1)).reverse = [y] ++ (nvs.take i).reverse := by rw [List.take_add_one, hy, Option.toList_some, List.reverse_append]; rfl
      rw [e1]
      exact Ow.ext1 hO7
    have hz5 : w5.drew.heap.size = w5.heap.size := rfl
    have h4lt := hblk.lt
    have hE57 : Ext w5 w7 := hE56.trans hF7 fun j hj h => by have := (hO6.blk h).1; omega
    have hblk7 := hblk.ext hE57
    obtain ⟨A7, c7, rfl, _, _⟩ := hO7'.form
    refine goL ?_
    refine xstb hblk7 rfl rfl (by kernel_rfl) rfl rfl (fun w8 hB8 hF8 => ?_)
    refine goL ?_
    refine tfin ⟨(i + 1, _), sub ⟨rfl, rfl, rfl, rfl⟩, ⟨hN (hE5.t hE57) hF8 (by omega), hlt, hB8, (hO7'.fr hF8 (fun b hb => by have := (hO7'.blk hb).1; show ¬ b = g4; omega)).rw⟩, (by show nvs.length - (i + 1) < nvs.length - i; omega)⟩
  · obtain rfl : i = nvs.length := by omega
    rw [List.take_length] at hrw
    refine goL ?_
    refine tloop (α := Nat × Value) (fun x => [(3, .pointer (some ⟨g3, 0, none⟩)), (4, .pointer (some ⟨g4, 0, none⟩)), (5, .int .i64 (nvs.length : Int)), (7, .int .i64 (x.1 : Int))]) (NoI2 t nvs g4 vU w3) (fun x => t.es.length - x.1) (0, .slice none 0 0) (sub ⟨rfl, rfl, rfl, rfl⟩) ⟨hE5, Nat.zero_le _, hblk, hrw, Rw.nil _ _ (by unfold maxLen; omega)⟩ ?_
    clear hblk hE5
    have hrwU := hrw
    obtain ⟨AU, cU, rfl, _, _, _⟩ := hrwU.op ndC_len
    rintro ⟨i, vE⟩ w6 ⟨hE6, hi, hblk, hrn, hre⟩
    dsimp only at hE6 hi hblk hrn hre ⊢
    have hre' := hre
    obtain ⟨AE, cE, rfl, hcE1, hcE2, _⟩ := hre.op enC_len
    have hEl : (((t.es.take i).map (mvE (mvT t))).reverse).length = i := by rw [List.length_reverse, List.length_map, List.length_take]; omega
    have m0 : w6.cell? ⟨g3, 0, none⟩ = some (.slice A t.es.length c) := (Blk.ext hB3 hE6).cell 0
    by_cases hlt : i < t.es.length
    · obtain ⟨b, o, e, rfl, _, he, _, hcell⟩ := hA3.at_ hlt
      have hem := List.mem_of_getElem? he
      have hgi := hg.inr e hem
      have m0d : w6.drew.cell? ⟨g3, 0, none⟩ = some (.slice (some ⟨b, o, none⟩) t.es.length c) := m0
      have ep : w6.drew.cell? ⟨b, o + i * 2 + 0, none⟩ = some (.string (su e.path)) := hE6.ed.cell (hcell 0 _ rfl)
      have en1 : w6.drew.cell? ⟨b, o + i * 2 + 1, none⟩ = some (.int .i64 e.node) := hE6.ed.cell (hcell 1 _ rfl)
      have c55 : w6.drew.cell? ⟨g4, 0, none⟩ = some (.slice AE (((t.es.take i).map (mvE (mvT t))).reverse).length cE) := hblk.cell 0
      obtain ⟨en, hen⟩ : ∃ en : En, en = mvE (mvT t) e := ⟨_, rfl⟩
      have henn : (nvs.length : Int) - 1 - e.node = en.node := by rw [hen, hlen]; rfl
      have henp : en.path = e.path := by rw [hen]; rfl
      refine goL ?_
      refine tdrawC 19 [55] (fun w' => w'.cell? ⟨g4, 0, none⟩ = some (.slice AE (((t.es.take i).map (mvE (mvT t))).reverse).length cE)) (by kernel_rfl) (by decide +kernel) c55 ?_
      repeat' (first | refine xizq i (o + i * 2) rfl rfl rfl rfl rfl hlt ?_ | refine go1L ?_ | fail)
      rw [henn]
      refine xbd (vs := [(0, .string (su en.path)), (1, .int .i64 en.node)]) (cells := (enC en).toArray) (by rw [henp]; rfl) (by kernel_rfl) ?_
      refine xbz1 sl_ents rfl rfl (by decide) (by decide) (fun w7 hB7 hE7 hs7 => ?_) (fun w' he => he.cell c55)
      have c557 : w7.cell? ⟨g4, 0, none⟩ = some (.slice AE (((t.es.take i).map (mvE (mvT t))).reverse).length cE) := hE7.cell c55
      repeat' (first | refine xldh rfl rfl (fun _ h => h) ?_ | refine go1L ?_ | fail)
      have hE67 : Ext w6 w7 := (Fr.drew _ _).t hE7
      have hO7 : Ow enC 2 w7 w6.drew.heap.size 49 (.slice (some ⟨w6.drew.heap.size, 0, none⟩) 1 1) [en] := Ow.of_blk enC_len hB7 rfl (Nat.le_refl _) rfl (by decide)
      refine xapz (B := w6.drew.heap.size) (news := (((t.es.take i).map (mvE (mvT t))).reverse).flatMap enC) sl_ents rfl (by decide) rfl hO7 rfl (hre'.ext hE67) (flat_len enC_len _) (enC_one _) (by rw [hEl]; unfold maxLen; simp only [List.length_cons, List.length_nil]; omega) (by rw [hEl]; simp only [List.length_cons, List.length_nil]; omega) (by omega) (fun v8 w8 hO8 hF8 _ => ?_)
      have hO8' : Ow enC 2 w8 w6.drew.heap.size 49 v8 (((t.es.take (i + 1)).map (mvE (mvT t))).reverse) := by
        have e1 : ((t.es.take (i + 1)).map (mvE (mvT t))).reverse = [en] ++ ((t.es.take i).map (mvE (mvT t))).reverse := by rw [List.take_add_one, he, Option.toList_some, List.map_append, List.reverse_append, hen]; rfl
        rw [e1]
        exact Ow.ext1 hO8
      have hz6 : w6.drew.heap.size = w6.heap.size := rfl
      have h4lt := hblk.lt
      have hE68 : Ext w6 w8 := hE67.trans hF8 fun j hj h => by have := (hO7.blk h).1; omega
      have hblk8 := hblk.ext hE68
      obtain ⟨A8, c8, rfl, _, _⟩ := hO8'.form
      refine goL ?_
      refine xstb hblk8 rfl rfl (by kernel_rfl) rfl rfl (fun w9 hB9 hF9 => ?_)
      refine goL ?_
      refine tfin ⟨(i + 1, _), sub ⟨rfl, rfl, rfl, rfl⟩, ⟨hN (hE6.t hE68) hF9 (by omega), hlt, hB9, (hrn.ext hE68).slc (fun _ => ⟨_, _, rfl, rfl⟩) hblk8 (two_slc _ _ _ _ _ _) hF9, (hO8'.fr hF9 (fun b hb => by have := (hO8'.blk hb).1; show ¬ b = g4; omega)).rw⟩, (by show t.es.length - (i + 1) < t.es.length - i; omega)⟩
    · obtain rfl : i = t.es.length := by omega
      rw [List.take_length] at hre' hblk
      have hTu : ∀ w', Ext w6 w' → TrV w' (.slice AE ((t.es.map (mvE (mvT t))).reverse).length cE) (.slice AU nvs.reverse.length cU) nvs.reverse (turnT t) := fun w' hE => by
        refine ⟨Rw.ext hre' hE, hrn.ext hE, fun y hy => (hT3.i y (List.mem_reverse.1 hy)).ext (hE6.t hE), ?_⟩
        rw [List.map_reverse, hT3.m]
        rfl
      have okU : NsOK (turnT t).ns := fun n hn => ok1 n (List.mem_reverse.1 hn)
      have okL : ∀ n ∈ (turnT t).ns, NdL n := fun n hn => ok2 n (List.mem_reverse.1 hn)
      refine goL ?_
      refine xlda (t := 25) hblk rfl rfl ?_
      refine goL ?_
      refine xcallE rfl rfl (norm_does w6 _ _ nvs.reverse (turnT t) (hTu w6 (Fr.refl _ _)) okU okL) (fun r w7 h7 => ?_)
      obtain ⟨hE7, h7⟩ := h7
      rw [turn_norm hmay] at h7
      dsimp only at h7
      obtain ⟨ve7, vn7, l7, rfl, hT7⟩ := h7
      have hT7' := hT7
      obtain ⟨A7, c7, rfl, _, _, _⟩ := hT7.e.op enC_len
      obtain ⟨N7, d7, rfl, _, _, _⟩ := hT7.n.op ndC_len
      refine goL ?_
      refine xalloc (z := .agg #[.slice none 0 0, .slice none 0 0]) (by kernel_rfl) (fun w8 hB8 hE8 hs8 => ?_)
      refine xsta hB8 rfl rfl (by kernel_rfl) rfl (one_cells (l := [.slice A7 t.es.length c7, .slice N7 l7.length d7]) rfl) (fun w9 hB9 hF9 => ?_)
      have hE79 : Ext w7 w9 := hN hE8 hF9 (Nat.le_refl _)
      have hE69 : Ext w6 w9 := hE7.t hE79
      refine goL ?_
      refine xcallE rfl rfl (told6_does w9) (fun r w10 h10 => ?_)
      obtain ⟨rfl, hE10⟩ := h10
      have hE610 : Ext w6 w10 := hE69.t hE10
      have hE310 : Ext w3 w10 := hE6.t hE610
      refine goL ?_
      refine xlda (t := 25) (Blk.ext hB3 hE310) rfl rfl ?_
      refine goL ?_
      refine xcallE rfl rfl (tmay_does w10 _ _ nvs t (hT3.ext hE310) ok1) (fun r w11 h11 => ?_)
      obtain ⟨rfl, hE11⟩ := h11
      rw [hmay]
      have hE311 : Ext w3 w11 := hE310.t hE11
      have hE911 : Ext w9 w11 := hE10.t hE11
      refine goL ?_
      refine xlda (t := 25) (Blk.ext hB9 hE911) rfl rfl ?_
      refine goL ?_
      refine xlda (t := 25) (Blk.ext hB3 hE311) rfl rfl ?_
      refine goL ?_
      refine xcallE rfl rfl (alike_does w11 _ _ _ _ l7 nvs t t (hT7'.ext (hE79.t hE911)) (hT3.ext hE311)) (fun r w12 h12 => ?_)
      obtain ⟨rfl, hE12⟩ := h12
      have hal : alikeT t t = true := by unfold alikeT; simp
      rw [hal]
      have hE312 : Ext w3 w12 := hE311.t hE12
      have hE612 : Ext w6 w12 := hE610.t (hE11.t hE12)
      refine goL ?_
      refine xlda (t := 25) (Blk.ext hB3 hE312) rfl rfl ?_
      refine goL ?_
      refine xlda (t := 25) (hblk.ext hE612) rfl rfl ?_
      refine goL ?_
      refine xcallE rfl rfl (treeSame_does w12 _ _ _ _ nvs nvs.reverse t (turnT t) (hT3.ext hE312) (hTu w12 hE612) ok1 okU ok2 okL) (fun r w13 h13 => ?_)
      obtain ⟨rfl, hE13'⟩ := h13
      rw [same_turn hmay]
      refine goL ?_
      exact tret1 rfl rfl ⟨rfl, hE03.t (hE312.t hE13')⟩
end Eng
end Go.Proofs.YtleaanenpimanaaGreatDoor
