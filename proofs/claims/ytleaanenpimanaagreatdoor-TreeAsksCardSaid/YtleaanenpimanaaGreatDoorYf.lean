/-
  The statements' told: what the program tells of a few trees.
-/
import Derived.Test.YtleaanenpimanaaGreatDoorWx
import Derived.Test.YtleaanenpimanaaGreatDoorWz
import Derived.Test.YtleaanenpimanaaGreatDoorYd
namespace Go.Proofs.YtleaanenpimanaaGreatDoor
open Go.RowKit
namespace Eng
attribute [local irreducible] xs T

def tdN : Nd := ⟨1, 0, 0, 0, 0, [], [], 0, [], [], 0, 0⟩
def tfN : Nd := ⟨2, 0, 0, 0, 0, [], [], 3, [], [], 0, 0⟩
def ttT : Tre := ⟨[⟨[], 0⟩, ⟨[97], 1⟩, ⟨[97, 47, 120], 2⟩, ⟨[98], 2⟩], [tdN, tdN, tfN]⟩
def tuT : Tre := ⟨[⟨[98], 0⟩, ⟨[97, 47, 120], 0⟩, ⟨[], 2⟩, ⟨[97], 1⟩], [tfN, tdN, tdN]⟩
def tpT : Tre := ⟨[⟨[], 0⟩, ⟨[98], 1⟩], [tdN, tfN]⟩
theorem told1 : mayT ttT = true := by decide +kernel
theorem told2 : mayT tuT = false := by decide +kernel
theorem told3 : normT tuT = some ttT := by decide +kernel
theorem told4 : partT ttT [[98]] = (some tpT, 0) := by decide +kernel
theorem told5 : partT ttT [[99]] = (none, 7) := by decide +kernel
theorem told6 : findT ttT.es [98] = some 2 := by decide +kernel
theorem told7 : classT ttT [98] = [[97, 47, 120], [98]] := by decide +kernel
theorem told8 : sameT ttT tuT = true := by decide +kernel
theorem told9 : kidsT ttT [] = [[97], [98]] := by decide +kernel
theorem told10 : totalT ttT.ns = 0 := by decide +kernel
theorem told11 : mayT ⟨[], []⟩ = false := by decide +kernel
def nilN (n : Nd) : NdV := ⟨n, .slice none 0 0, .slice none 0 0, .slice none 0 0⟩
theorem nilN_in (w : World) {n : Nd} (h : n.attrs = [] ∧ n.acl = [] ∧ n.data = []) : NdIn w (nilN n) := by
  obtain ⟨h1, h2, h3⟩ := h
  refine ⟨?_, ?_, ?_⟩
  · show Rw attC w (.slice none 0 0) n.attrs
    rw [h1]; exact Rw.nil _ _ (by unfold maxLen; omega)
  · show Rw acC w (.slice none 0 0) n.acl
    rw [h2]; exact Rw.nil _ _ (by unfold maxLen; omega)
  · show Rw pcC w (.slice none 0 0) n.data
    rw [h3]; exact Rw.nil _ _ (by unfold maxLen; omega)
theorem NdL.nil {n : Nd} (h : n.attrs = [] ∧ n.acl = [] ∧ n.data = []) : NdL n := ⟨by rw [h.1]; decide, by rw [h.2.1]; decide, by rw [h.2.2]; decide⟩
theorem flat_css {α : Type} (cf : α → List Value) (l : List α) : l.flatMap cf = (l.map cf).flatten := by rw [List.flatMap_def]
def ttV : List NdV := [nilN tdN, nilN tdN, nilN tfN]
def tuV : List NdV := [nilN tfN, nilN tdN, nilN tdN]
theorem tt_all : ∀ n ∈ ttT.ns, n.attrs = [] ∧ n.acl = [] ∧ n.data = [] := by
  intro n hn
  simp only [ttT, List.mem_cons, List.not_mem_nil, or_false] at hn
  rcases hn with rfl | rfl | rfl <;> exact ⟨rfl, rfl, rfl⟩
theorem tu_all : ∀ n ∈ tuT.ns, n.attrs = [] ∧ n.acl = [] ∧ n.data = [] := by
  intro n hn
  simp only [tuT, List.mem_cons, List.not_mem_nil, or_false] at hn
  rcases hn with rfl | rfl | rfl <;> exact ⟨rfl, rfl, rfl⟩
theorem ns_nil {ns : List Nd} (h : ∀ n ∈ ns, n.attrs = [] ∧ n.acl = [] ∧ n.data = []) : NsOK ns ∧ ∀ n ∈ ns, NdL n := ⟨fun n hn => by rw [(h n hn).2.2]; exact Nat.zero_le _, fun n hn => NdL.nil (h n hn)⟩

set_option maxRecDepth 20000 in
set_option maxHeartbeats 8000000 in
theorem told6_does (w : World) : Does Tryz.prog 13 #[] w fun r w' => r = .bool true ∧ Ext w w' := by
  refine does0 Tryz.func13 rfl ?_
  have hN : ∀ {a b c : World} {g : Nat}, Ext a b → Fr (· = g) b c → a.heap.size ≤ g → Ext a c := fun h1 h2 hg => h1.trans h2 fun j hj e => absurd hj (by omega)
  have hz0 : (Value.agg nd0).cells = nd0 := rfl
  refine goL ?_
  refine xbd (cells := (ndC (nilN tdN)).toArray) rfl (by kernel_rfl) ?_
  refine xbd (cells := (ndC (nilN tfN)).toArray) rfl (by kernel_rfl) ?_
  refine xalloc (z := .agg nd0) (by kernel_rfl) (fun w1 hB1 hE1 hs1 => ?_)
  refine xalloc (z := .agg nd0) (by kernel_rfl) (fun w2 hB2 hE2 hs2 => ?_)
  refine xsta (Blk.ext hB1 hE2) rfl rfl (by kernel_rfl) rfl (one_cells rfl) (fun w3 hB3 hF3 => ?_)
  refine xsta (Blk.fr hB2 hF3 (by omega)) rfl rfl (by kernel_rfl) rfl (one_cells rfl) (fun w4 hB4 hF4 => ?_)
  have hD4 : Blk w4 w.heap.size 47 (ndC (nilN tdN)).toArray := Blk.fr hB3 hF4 (show ¬ w.heap.size = w1.heap.size by omega)
  have hE04 : Ext w w4 := hN (hN (hE1.t hE2) hF3 (Nat.le_refl _)) hF4 (by omega)
  refine goL ?_
  refine xbd (cells := (enC ⟨[], 0⟩).toArray) rfl (by kernel_rfl) ?_
  refine xbd (cells := (enC ⟨[97], 1⟩).toArray) rfl (by kernel_rfl) ?_
  refine xbd (cells := (enC ⟨[97, 47, 120], 2⟩).toArray) rfl (by kernel_rfl) ?_
  refine xbd (cells := (enC ⟨[98], 2⟩).toArray) rfl (by kernel_rfl) ?_
  refine xbzn (css := ttT.es.map enC) sl_ents rfl (by intro cs hcs; obtain ⟨x, _, rfl⟩ := List.mem_map.1 hcs; rfl) rfl (by decide) (by decide) (by decide) (fun w5 hB5 hE5 hs5 => ?_)
  have hD5 := hD4.ext hE5
  have hF5 := Blk.ext hB4 hE5
  refine xlda (t := 47) hD5 rfl rfl ?_
  refine xlda (t := 47) hD5 rfl rfl ?_
  refine xlda (t := 47) hF5 rfl rfl ?_
  refine xbzn (css := ttV.map ndC) sl_nds rfl (by intro cs hcs; obtain ⟨x, _, rfl⟩ := List.mem_map.1 hcs; rfl) rfl (by decide) (by decide) (by decide) (fun w6 hB6 hE6 hs6 => ?_)
  refine xbd (cells := #[.slice (some ⟨w4.heap.size, 0, none⟩) 4 4, .slice (some ⟨w5.heap.size, 0, none⟩) 3 3]) rfl (by kernel_rfl) ?_
  refine xalloc (z := .agg #[.slice none 0 0, .slice none 0 0]) (by kernel_rfl) (fun w7 hB7 hE7 hs7 => ?_)
  refine xsta hB7 rfl rfl (by kernel_rfl) rfl (one_cells (l := [.slice (some ⟨w4.heap.size, 0, none⟩) 4 4, .slice (some ⟨w5.heap.size, 0, none⟩) 3 3]) rfl) (fun w8 hB8 hF8 => ?_)
  have hE68 : Ext w6 w8 := hN hE7 hF8 (Nat.le_refl _)
  have hE58 : Ext w5 w8 := hE6.t hE68
  have hE08 : Ext w w8 := hE04.t (hE5.t hE58)
  have hT8 : TrV w8 (.slice (some ⟨w4.heap.size, 0, none⟩) 4 4) (.slice (some ⟨w5.heap.size, 0, none⟩) 3 3) ttV ttT := by
    refine ⟨?_, ?_, fun y hy => ?_, rfl⟩
    · exact blk_row (n := 4) (Blk.ext hB5 hE58) (by decide) (by rw [flat_css])
    · exact blk_row (n := 3) (Blk.ext hB6 hE68) (by decide) (by rw [flat_css])
    · simp only [ttV, List.mem_cons, List.not_mem_nil, or_false] at hy
      rcases hy with rfl | rfl | rfl <;> exact nilN_in _ ⟨rfl, rfl, rfl⟩
  obtain ⟨gt, hgt⟩ : ∃ gt, gt = w6.heap.size := ⟨_, rfl⟩
  obtain ⟨At, hAt⟩ : ∃ At, At = some (⟨w4.heap.size, 0, none⟩ : Addr) := ⟨_, rfl⟩
  obtain ⟨Nt, hNt⟩ : ∃ Nt, Nt = some (⟨w5.heap.size, 0, none⟩ : Addr) := ⟨_, rfl⟩
  rw [← hgt] at hB8 ⊢
  rw [← hAt, ← hNt] at hB8 hT8 ⊢
  have hD8 := hD5.ext hE58
  have hF8' := Blk.ext hF5 hE58
  refine goL ?_
  refine xbd (cells := (enC ⟨[98], 0⟩).toArray) rfl (by kernel_rfl) ?_
  refine xbd (cells := (enC ⟨[97, 47, 120], 0⟩).toArray) rfl (by kernel_rfl) ?_
  refine xbd (cells := (enC ⟨[], 2⟩).toArray) rfl (by kernel_rfl) ?_
  refine xbd (cells := (enC ⟨[97], 1⟩).toArray) rfl (by kernel_rfl) ?_
  refine xbzn (css := tuT.es.map enC) sl_ents rfl (by intro cs hcs; obtain ⟨x, _, rfl⟩ := List.mem_map.1 hcs; rfl) rfl (by decide) (by decide) (by decide) (fun w9 hB9 hE9 hs9 => ?_)
  refine xlda (t := 47) (Blk.ext hF8' hE9) rfl rfl ?_
  refine xlda (t := 47) (hD8.ext hE9) rfl rfl ?_
  refine xlda (t := 47) (hD8.ext hE9) rfl rfl ?_
  refine xbzn (css := tuV.map ndC) sl_nds rfl (by intro cs hcs; obtain ⟨x, _, rfl⟩ := List.mem_map.1 hcs; rfl) rfl (by decide) (by decide) (by decide) (fun w10 hB10 hE10 hs10 => ?_)
  refine xbd (cells := #[.slice (some ⟨w8.heap.size, 0, none⟩) 4 4, .slice (some ⟨w9.heap.size, 0, none⟩) 3 3]) rfl (by kernel_rfl) ?_
  refine xalloc (z := .agg #[.slice none 0 0, .slice none 0 0]) (by kernel_rfl) (fun w11 hB11 hE11 hs11 => ?_)
  refine xsta hB11 rfl rfl (by kernel_rfl) rfl (one_cells (l := [.slice (some ⟨w8.heap.size, 0, none⟩) 4 4, .slice (some ⟨w9.heap.size, 0, none⟩) 3 3]) rfl) (fun w12 hB12 hF12 => ?_)
  have hE1012 : Ext w10 w12 := hN hE11 hF12 (Nat.le_refl _)
  have hE912 : Ext w9 w12 := hE10.t hE1012
  have hE812 : Ext w8 w12 := hE9.t hE912
  have hU12 : TrV w12 (.slice (some ⟨w8.heap.size, 0, none⟩) 4 4) (.slice (some ⟨w9.heap.size, 0, none⟩) 3 3) tuV tuT := by
    refine ⟨?_, ?_, fun y hy => ?_, rfl⟩
    · exact blk_row (n := 4) (Blk.ext hB9 hE912) (by decide) (by rw [flat_css])
    · exact blk_row (n := 3) (Blk.ext hB10 hE1012) (by decide) (by rw [flat_css])
    · simp only [tuV, List.mem_cons, List.not_mem_nil, or_false] at hy
      rcases hy with rfl | rfl | rfl <;> exact nilN_in _ ⟨rfl, rfl, rfl⟩
  obtain ⟨gu, hgu⟩ : ∃ gu, gu = w10.heap.size := ⟨_, rfl⟩
  obtain ⟨Au, hAu⟩ : ∃ Au, Au = some (⟨w8.heap.size, 0, none⟩ : Addr) := ⟨_, rfl⟩
  obtain ⟨Nu, hNu⟩ : ∃ Nu, Nu = some (⟨w9.heap.size, 0, none⟩ : Addr) := ⟨_, rfl⟩
  rw [← hgu] at hB12 ⊢
  rw [← hAu, ← hNu] at hB12 hU12 ⊢
  have hT12 := hT8.ext hE812
  have hBt12 := Blk.ext hB8 hE812
  have hE012 : Ext w w12 := hE08.t hE812
  obtain ⟨nt, Lt⟩ := ns_nil tt_all
  obtain ⟨nu, Lu⟩ := ns_nil tu_all
  clear hB1 hB2 hB3 hB4 hB5 hB6 hB7 hB9 hB10 hB11 hF3 hF4 hF8 hF12 hD4 hD5 hD8 hF5 hF8' hE1 hE2 hE5 hE6 hE7 hE9 hE10 hE11 hE04 hE68 hE58 hE08 hE1012 hE912 hE812 hT8 hB8 hs1 hs2 hs5 hs6 hs7 hs9 hs10 hs11 hgt hAt hNt hgu hAu hNu
  refine goL ?_
  refine xlda (t := 25) hB12 rfl rfl ?_
  refine goL ?_
  refine xcallE rfl rfl (norm_does w12 _ _ tuV tuT hU12 nu Lu) (fun r w13 h13 => ?_)
  obtain ⟨hE13, h13⟩ := h13
  rw [told3] at h13
  dsimp only at h13
  obtain ⟨ve5, vn5, l5, rfl, hT5⟩ := h13
  have hT5' := hT5
  obtain ⟨A5, c5, rfl, _, _, _⟩ := hT5.e.op enC_len
  obtain ⟨N5, d5, rfl, _, _, _⟩ := hT5.n.op ndC_len
  refine goL ?_
  refine xalloc (z := .agg #[.slice none 0 0, .slice none 0 0]) (by kernel_rfl) (fun w14 hB14 hE14 hs14 => ?_)
  refine xsta hB14 rfl rfl (by kernel_rfl) rfl (one_cells (l := [.slice A5 ttT.es.length c5, .slice N5 l5.length d5]) rfl) (fun w15 hB15 hF15 => ?_)
  have hE1315 : Ext w13 w15 := hN hE14 hF15 (Nat.le_refl _)
  have hE1215 : Ext w12 w15 := hE13.t hE1315
  obtain ⟨g5, hg5⟩ : ∃ g5, g5 = w13.heap.size := ⟨_, rfl⟩
  rw [← hg5] at hB15 ⊢
  have hN15 : TrV w15 (.slice A5 ttT.es.length c5) (.slice N5 l5.length d5) l5 ttT := hT5'.ext hE1315
  refine goL ?_
  refine xlda (t := 25) (Blk.ext hBt12 hE1215) rfl rfl ?_
  refine xbs (vs := stC [98]) sl_strs rfl rfl (by decide) (by decide) (fun u hu => by rw [List.mem_singleton.1 hu]; rfl) (fun w16 hB16 hE16 hs16 => ?_)
  have hE1216 : Ext w12 w16 := hE1215.t hE16
  refine xcallE rfl rfl (tpart_does w16 _ _ _ ttV ttT [[98]] (hT12.ext hE1216) (blk_row (n := 1) hB16 (by decide) rfl) nt Lt) (fun r w17 h17 => ?_)
  obtain ⟨hE17, h17⟩ := h17
  rw [told4] at h17
  dsimp only at h17
  obtain ⟨ve7, vn7, l7, rfl, hT7⟩ := h17
  have hl7 := hT7.len
  obtain ⟨A7, c7, rfl, _, _, _⟩ := hT7.e.op enC_len
  obtain ⟨N7, d7, rfl, _, _, _⟩ := hT7.n.op ndC_len
  have hl7' : l7.length = 2 := hl7
  refine goL ?_
  refine xalloc (z := .agg #[.slice none 0 0, .slice none 0 0]) (by kernel_rfl) (fun w18 hB18 hE18 hs18 => ?_)
  refine xsta hB18 rfl rfl (by kernel_rfl) rfl (one_cells (l := [.slice A7 tpT.es.length c7, .slice N7 l7.length d7]) rfl) (fun w19 hB19 hF19 => ?_)
  have hE1719 : Ext w17 w19 := hN hE18 hF19 (Nat.le_refl _)
  have hE1519 : Ext w15 w19 := hE16.t (hE17.t hE1719)
  have hE1219 : Ext w12 w19 := hE1215.t hE1519
  obtain ⟨g7, hg7⟩ : ∃ g7, g7 = w17.heap.size := ⟨_, rfl⟩
  rw [← hg7] at hB19 ⊢
  refine goL ?_
  refine xlda (t := 25) (Blk.ext hBt12 hE1219) rfl rfl ?_
  refine xbs (vs := stC [99]) sl_strs rfl rfl (by decide) (by decide) (fun u hu => by rw [List.mem_singleton.1 hu]; rfl) (fun w20 hB20 hE20 hs20 => ?_)
  have hE1220 : Ext w12 w20 := hE1219.t hE20
  refine xcallE rfl rfl (tpart_does w20 _ _ _ ttV ttT [[99]] (hT12.ext hE1220) (blk_row (n := 1) hB20 (by decide) rfl) nt Lt) (fun r w21 h21 => ?_)
  obtain ⟨hE21, h21⟩ := h21
  rw [told5] at h21
  dsimp only at h21
  subst h21
  refine goL ?_
  refine xalloc (z := .agg #[.slice none 0 0, .slice none 0 0]) (by kernel_rfl) (fun w22 hB22 hE22 hs22 => ?_)
  refine xsta hB22 rfl rfl (by kernel_rfl) rfl (one_cells (l := [.slice none 0 0, .slice none 0 0]) rfl) (fun w23 hB23 hF23 => ?_)
  have hE2123 : Ext w21 w23 := hN hE22 hF23 (Nat.le_refl _)
  have hE1923 : Ext w19 w23 := hE20.t (hE21.t hE2123)
  have hE1223 : Ext w12 w23 := hE1219.t hE1923
  refine goL ?_
  refine xlda (t := 25) (Blk.ext hBt12 hE1223) rfl rfl ?_
  refine xcallE rfl rfl (find_does w23 _ _ ttT.es [98] (hT12.ext hE1223).e) (fun r w24 h24 => ?_)
  obtain ⟨rfl, hE24⟩ := h24
  rw [told6]
  simp only [Option.getD_some, Option.isSome_some]
  have hE1224 : Ext w12 w24 := hE1223.t hE24
  refine goL ?_
  refine xlda (t := 25) (Blk.ext hBt12 hE1224) rfl rfl ?_
  refine xcallE rfl rfl (class_does w24 _ _ ttT [98] (hT12.ext hE1224).e (by decide)) (fun r w25 h25 => ?_)
  obtain ⟨hO25, hE25⟩ := h25
  rw [told7] at hO25
  have hrw25 := hO25.rw
  obtain ⟨A13, c13, rfl, _, _, hA13⟩ := hrw25.op stC_len
  obtain ⟨b13, o13, x13, rfl, _, hx13, _, hcell13⟩ := hA13.at_ (i := 0) (by decide)
  injection hx13 with hx13
  subst hx13
  have hE1225 : Ext w12 w25 := hE1224.t hE25
  have hE1925 : Ext w19 w25 := hE1923.t (hE24.t hE25)
  refine goL ?_
  refine xlda (t := 25) (Blk.ext hBt12 hE1225) rfl rfl ?_
  refine xcallE rfl rfl (tmay_does w25 _ _ ttV ttT (hT12.ext hE1225) nt) (fun r w26 h26 => ?_)
  obtain ⟨rfl, hE26⟩ := h26
  rw [told1]
  have hE1226 := hE1225.t hE26
  refine goL ?_
  refine xlda (t := 25) (Blk.ext hB12 hE1226) rfl rfl ?_
  refine goL ?_
  refine xcallE rfl rfl (tmay_does w26 _ _ tuV tuT (hU12.ext hE1226) nu) (fun r w27 h27 => ?_)
  obtain ⟨rfl, hE27⟩ := h27
  rw [told2]
  have hE1227 := hE1226.t hE27
  have hE1527 : Ext w15 w27 := hE1519.t (hE1925.t (hE26.t hE27))
  refine goL ?_
  refine xlda (t := 25) (Blk.ext hB15 hE1527) rfl rfl ?_
  refine goL ?_
  refine xlda (t := 25) (Blk.ext hBt12 hE1227) rfl rfl ?_
  refine goL ?_
  refine xcallE rfl rfl (alike_does w27 _ _ _ _ l5 ttV ttT ttT (hN15.ext hE1527) (hT12.ext hE1227)) (fun r w28 h28 => ?_)
  obtain ⟨rfl, hE28⟩ := h28
  have hal : alikeT ttT ttT = true := by unfold alikeT; simp
  rw [hal]
  have hE1228 := hE1227.t hE28
  refine goL ?_
  refine xlda (t := 25) (Blk.ext hBt12 hE1228) rfl rfl ?_
  refine goL ?_
  refine xlda (t := 25) (Blk.ext hB12 hE1228) rfl rfl ?_
  refine goL ?_
  refine xcallE rfl rfl (treeSame_does w28 _ _ _ _ ttV tuV ttT tuT (hT12.ext hE1228) (hU12.ext hE1228) nt nu Lt Lu) (fun r w29 h29 => ?_)
  obtain ⟨rfl, hE29⟩ := h29
  rw [told8]
  have hE1229 := hE1228.t hE29
  have hE2529 : Ext w25 w29 := hE26.t (hE27.t (hE28.t hE29))
  have hE1929 : Ext w19 w29 := hE1925.t hE2529
  have p0 : w29.cell? ⟨g7, 0, none⟩ = some (.slice A7 2 c7) := (Blk.ext hB19 hE1929).cell 0
  have p1 : w29.cell? ⟨g7, 1, none⟩ = some (.slice N7 2 d7) := by rw [← hl7']; exact (Blk.ext hB19 hE1929).cell 1
  have q0 : w29.cell? ⟨b13, o13, none⟩ = some (.string (su [97, 47, 120])) := by
    have := hE2529.cell (hcell13 0 _ rfl)
    exact this
  have e2 : Value.slice (some ⟨b13, o13, none⟩) ([[97, 47, 120], [98]] : List Str).length c13 = .slice (some ⟨b13, o13, none⟩) 2 c13 := rfl
  rw [e2]
  repeat' (first | refine xisq 0 o13 rfl rfl rfl rfl rfl (by decide) ?_ | refine xucmp (op := .eql) (a := [97, 47, 120]) (b := [97, 47, 120]) (r := true) rfl rfl (by decide) ?_ | refine go1L ?_ | fail)
  refine xlda (t := 25) (Blk.ext hBt12 hE1229) rfl rfl ?_
  refine goL ?_
  refine xcallE rfl rfl (kids_does w29 _ _ ttT [] (hT12.ext hE1229).e (by decide)) (fun r w30 h30 => ?_)
  obtain ⟨hO30, hE30⟩ := h30
  rw [told9] at hO30
  obtain ⟨A30, c30, e30, _, _⟩ := hO30.form
  have e30' : r = .slice A30 2 c30 := e30
  subst e30'
  have hE1230 := hE1229.t hE30
  refine goL ?_
  refine xlda (t := 25) (Blk.ext hBt12 hE1230) rfl rfl ?_
  refine goL ?_
  refine xcallE rfl rfl (tbytes_does w30 _ _ ttV ttT (hT12.ext hE1230) nt (by decide)) (fun r w31 h31 => ?_)
  obtain ⟨rfl, hE31⟩ := h31
  rw [told10]
  have hE1231 := hE1230.t hE31
  refine goL ?_
  refine xbd (parts := []) (cells := #[.slice none 0 0, .slice none 0 0]) rfl (by kernel_rfl) ?_
  refine goL ?_
  refine xcallE rfl rfl (tmay_does w31 (.slice none 0 0) (.slice none 0 0) [] ⟨[], []⟩ ⟨Rw.nil _ _ (by unfold maxLen; omega), Rw.nil _ _ (by unfold maxLen; omega), (fun y hy => by cases hy), rfl⟩ (fun n hn => by cases hn)) (fun r w32 h32 => ?_)
  obtain ⟨rfl, hE32⟩ := h32
  rw [told11]
  refine goL ?_
  exact tret1 rfl rfl ⟨rfl, hE012.t (hE1231.t hE32)⟩
end Eng
end Go.Proofs.YtleaanenpimanaaGreatDoor
