/-
  Trees compared: the tree's Same.
-/
import Derived.Test.YtleaanenpimanaaGreatDoorWt
import Derived.Test.YtleaanenpimanaaGreatDoorWv
namespace Go.Proofs.YtleaanenpimanaaGreatDoor
open Go.RowKit
namespace Eng

theorem tre_dec1 {x y : Tre} (h : x.es = y.es) : decide (x.ns = y.ns) = decide (x = y) := by
  obtain ⟨e, n⟩ := x
  obtain ⟨e', n'⟩ := y
  dsimp only at h
  subst h
  simp
theorem tre_dec0 {x y : Tre} (h : ¬ x.es = y.es) : false = decide (x = y) := (decide_eq_false fun e => h (by rw [e])).symm

set_option maxRecDepth 20000 in
set_option maxHeartbeats 4000000 in
theorem treeSame_does (w : World) (ve vn ve' vn' : Value) (l l' : List NdV) (a b : Tre) (ha : TrV w ve vn l a) (hb : TrV w ve' vn' l' b) (na : NsOK a.ns) (nb : NsOK b.ns) (La : ∀ n ∈ a.ns, NdL n) (Lb : ∀ n ∈ b.ns, NdL n) : Does Tryz.prog 23 #[.agg #[ve, vn], .agg #[ve', vn']] w fun r w' => r = .bool (sameT a b) ∧ Ext w w' := by
  refine does2 Tryz.func23 rfl (by kernel_rfl) ?_
  unfold sameT
  have hN : ∀ {a b c : World} {g : Nat}, Ext a b → Fr (· = g) b c → a.heap.size ≤ g → Ext a c := fun h1 h2 hg => h1.trans h2 fun j hj e => absurd hj (by omega)
  refine goL ?_
  refine xbox rfl (fun w1 hB1 hE1 hs1 => ?_)
  have hB1' : Blk w1 w.heap.size 25 #[ve, vn] := hB1
  refine goL ?_
  refine xbox rfl (fun w2 hB2 hE2 hs2 => ?_)
  have hB2' : Blk w2 w1.heap.size 25 #[ve', vn'] := hB2
  have hE02 : Ext w w2 := hE1.t hE2
  refine goL ?_
  refine xlda (t := 25) (hB1'.ext hE2) rfl rfl ?_
  refine goL ?_
  refine xcallE rfl rfl (norm_does w2 ve vn l a (ha.ext hE02) na La) (fun r w3 h3 => ?_)
  obtain ⟨hE3, h3⟩ := h3
  have hE03 : Ext w w3 := hE02.t hE3
  cases hn : normT a with
  | none =>
    rw [hn] at h3
    dsimp only at h3
    subst h3
    refine goL ?_
    refine xalloc (z := .agg #[.slice none 0 0, .slice none 0 0]) (by kernel_rfl) (fun w4 hB4 hE4 hs4 => ?_)
    have hB4' : Blk w4 w3.heap.size 25 #[.slice none 0 0, .slice none 0 0] := hB4
    refine goL ?_
    refine xsta hB4' rfl rfl (by kernel_rfl) rfl (one_cells (l := [.slice none 0 0, .slice none 0 0]) rfl) (fun w5 hB5 hF5 => ?_)
    refine goL ?_
    exact tret1 rfl rfl ⟨rfl, hE03.t (hN hE4 hF5 (by omega))⟩
  | some x =>
    rw [hn] at h3
    dsimp only at h3
    obtain ⟨ve1, vn1, l1, rfl, hT1⟩ := h3
    have hT1' := hT1
    obtain ⟨A1, c1, rfl, _, _, _⟩ := hT1.e.op enC_len
    obtain ⟨N1, d1, rfl, _, _, _⟩ := hT1.n.op ndC_len
    refine goL ?_
    refine xalloc (z := .agg #[.slice none 0 0, .slice none 0 0]) (by kernel_rfl) (fun w4 hB4 hE4 hs4 => ?_)
    have hB4' : Blk w4 w3.heap.size 25 #[.slice none 0 0, .slice none 0 0] := hB4
    refine goL ?_
    refine xsta hB4' rfl rfl (by kernel_rfl) rfl (one_cells (l := [.slice A1 x.es.length c1, .slice N1 l1.length d1]) rfl) (fun w5 hB5 hF5 => ?_)
    have hE35 : Ext w3 w5 := hN hE4 hF5 (by omega)
    have hE05 : Ext w w5 := hE03.t hE35
    refine goL ?_
    refine xlda (t := 25) (hB2'.ext (hE3.t hE35)) rfl rfl ?_
    refine goL ?_
    refine xcallE rfl rfl (norm_does w5 ve' vn' l' b (hb.ext hE05) nb Lb) (fun r w6 h6 => ?_)
    obtain ⟨hE6, h6⟩ := h6
    have hE06 : Ext w w6 := hE05.t hE6
    cases hn2 : normT b with
    | none =>
      rw [hn2] at h6
      dsimp only at h6
      subst h6
      refine goL ?_
      refine xalloc (z := .agg #[.slice none 0 0, .slice none 0 0]) (by kernel_rfl) (fun w7 hB7 hE7 hs7 => ?_)
      have hB7' : Blk w7 w6.heap.size 25 #[.slice none 0 0, .slice none 0 0] := hB7
      refine goL ?_
      refine xsta hB7' rfl rfl (by kernel_rfl) rfl (one_cells (l := [.slice none 0 0, .slice none 0 0]) rfl) (fun w8 hB8 hF8 => ?_)
      refine goL ?_
      exact tret1 rfl rfl ⟨rfl, hE06.t (hN hE7 hF8 (by omega))⟩
    | some y =>
      rw [hn2] at h6
      dsimp only at h6
      obtain ⟨ve2, vn2, l2, rfl, hT2⟩ := h6
      have hT2' := hT2
      obtain ⟨A2, c2, rfl, _, _, _⟩ := hT2.e.op enC_len
      obtain ⟨N2, d2, rfl, _, _, _⟩ := hT2.n.op ndC_len
      refine goL ?_
      refine xalloc (z := .agg #[.slice none 0 0, .slice none 0 0]) (by kernel_rfl) (fun w7 hB7 hE7 hs7 => ?_)
      have hB7' : Blk w7 w6.heap.size 25 #[.slice none 0 0, .slice none 0 0] := hB7
      refine goL ?_
      refine xsta hB7' rfl rfl (by kernel_rfl) rfl (one_cells (l := [.slice A2 y.es.length c2, .slice N2 l2.length d2]) rfl) (fun w8 hB8 hF8 => ?_)
      have hE68 : Ext w6 w8 := hN hE7 hF8 (by omega)
      have hE58 : Ext w5 w8 := hE6.t hE68
      have k0 : w8.cell? ⟨w3.heap.size, 0, none⟩ = some (.slice A1 x.es.length c1) := hE58.cell (Blk.cell hB5 0)
      have k2 : w8.cell? ⟨w6.heap.size, 0, none⟩ = some (.slice A2 y.es.length c2) := Blk.cell hB8 0
      have q1 := hT1'.ext (hE35.t hE58)
      have q2 := hT2'.ext hE68
      refine goL ?_
      refine xcallE rfl rfl (equal_en w8 _ _ x.es y.es q1.e q2.e) (fun r w9 h9 => ?_)
      obtain ⟨rfl, hE9⟩ := h9
      have hE09 : Ext w w9 := (hE06.t hE68).t hE9
      by_cases he : x.es = y.es
      · rw [decide_eq_true he]
        have k1 : w9.cell? ⟨w3.heap.size, 1, none⟩ = some (.slice N1 l1.length d1) := hE9.cell (hE58.cell (Blk.cell hB5 1))
        have k3 : w9.cell? ⟨w6.heap.size, 1, none⟩ = some (.slice N2 l2.length d2) := hE9.cell (Blk.cell hB8 1)
        have p1 := q1.ext hE9
        have p2 := q2.ext hE9
        refine goL ?_
        refine xcallE rfl rfl (equalNd_does w9 _ _ l1 l2 p1.n p2.n p1.i p2.i) (fun r w10 h10 => ?_)
        obtain ⟨rfl, hE10⟩ := h10
        rw [p1.m, p2.m]
        refine goL ?_
        exact tret1 rfl rfl ⟨congrArg Value.bool (tre_dec1 he), hE09.t hE10⟩
      · rw [decide_eq_false he]
        refine goL ?_
        exact tret1 rfl rfl ⟨congrArg Value.bool (tre_dec0 he), hE09⟩
end Eng
end Go.Proofs.YtleaanenpimanaaGreatDoor
