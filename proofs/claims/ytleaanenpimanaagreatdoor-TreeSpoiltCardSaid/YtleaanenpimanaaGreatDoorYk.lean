/-
  Laws of made trees: spoilt trees.
-/
import Derived.Test.YtleaanenpimanaaGreatDoorYg
import Derived.Test.YtleaanenpimanaaGreatDoorEngQ
namespace Go.Proofs.YtleaanenpimanaaGreatDoor
open Go.RowKit
namespace Eng
attribute [local irreducible] xs T

theorem nd_one {w : World} {ve vn : Value} {l : List NdV} {t : Tre} (h : TrV w ve vn l t) : ∀ u ∈ l.flatMap ndC, u.oneCell' = true := fun u hu => by
  obtain ⟨x, hx, hu⟩ := List.mem_flatMap.1 hu
  exact ndC_one (h.i x hx) u hu
/-- The copy of a tree. -/
structure SpK (t : Tre) (nvs : List NdV) (g7 : Nat) (w0 : World) (y : Value × Value × Nat) (w : World) : Prop where
  ext : Ext w0 w
  blk : Blk w y.2.2 25 #[y.1, y.2.1]
  e : Ow enC 2 w w0.heap.size 49 y.1 t.es
  n : Ow ndC 12 w w0.heap.size 47 y.2.1 nvs
  g : w0.heap.size ≤ y.2.2
/-- The copy with one entry more. -/
structure SpL (t : Tre) (nvs : List NdV) (g8 : Nat) (vN : Value) (w0 : World) (y : Value × List En) (w : World) : Prop where
  ext : Ext w0 w
  blk : Blk w g8 25 #[y.1, vN]
  e : Rw enC w y.1 y.2
  n : Rw ndC w vN nvs
  bad : ¬ GoodT ⟨y.2, t.ns⟩
def fifoN : Nd := ⟨6, 0, 0, 0, 0, [], [], 0, [], [], 0, 0⟩

set_option maxRecDepth 20000 in
set_option maxHeartbeats 16000000 in
theorem treeSpoilt_core (mk : MkD) (w : World) (v : Value) (zs : List Int) (hv : IRow w v zs) (za zb : Int) : Does Tryz.prog 8 #[v, .int .i64 za, .int .i64 zb] w fun r w' => r = .bool true ∧ Ext w w' := by
  refine does3 Tryz.func8 rfl (by kernel_rfl) ?_
  have hN : ∀ {a b c : World} {g : Nat}, Ext a b → Fr (· = g) b c → a.heap.size ≤ g → Ext a c := fun h1 h2 hg => h1.trans h2 fun j hj e => absurd hj (by omega)
  refine goL ?_
  refine xcallE rfl rfl (mk w v zs hv) (fun r w1 h1 => ?_)
  obtain ⟨ve, vn, nvs, rfl, hT1, hE1⟩ := h1
  have hmay := mkT_may (zs.map uN)
  have hlen26 := mkT_len (zs.map uN)
  have hnone := mkT_none (zs.map uN)
  obtain ⟨t, ht⟩ : ∃ t, t = mkT (zs.map uN) := ⟨_, rfl⟩
  rw [← ht] at hT1 hmay hlen26 hnone
  have hns := may_ns hmay
  have hone := may_one hmay
  obtain ⟨ok1, ok2, _⟩ := may_ok hmay
  have hT1' := hT1
  obtain ⟨A, c, rfl, hc1, hc2, hA⟩ := hT1.e.op enC_len
  obtain ⟨N, d, rfl, hd1, hd2, hAN⟩ := hT1.n.op ndC_len
  have hlen := hT1'.len
  refine goL ?_
  refine xalloc (z := .agg #[.slice none 0 0, .slice none 0 0]) (by kernel_rfl) (fun w2 hB2 hE2 hs2 => ?_)
  refine xsta hB2 rfl rfl (by kernel_rfl) rfl (one_cells (l := [.slice A t.es.length c, .slice N nvs.length d]) rfl) (fun w3 hB3 hF3 => ?_)
  have hE13 : Ext w1 w3 := hN hE2 hF3 (Nat.le_refl _)
  have hE03 := hE1.t hE13
  obtain ⟨g7, hg7⟩ : ∃ g7, g7 = w1.heap.size := ⟨_, rfl⟩
  rw [← hg7] at hB3 ⊢
  have hT3 := hT1'.ext hE13
  refine goL ?_
  refine tcut (α := Value × Value × Nat) (fun y => [(1, .int .i64 za), (2, .int .i64 zb), (7, .pointer (some ⟨g7, 0, none⟩)), (8, .pointer (some ⟨y.2.2, 0, none⟩))]) (SpK t nvs g7 w3) ?_ ?_
  · have hH0 : ∀ w', Ext w3 w' → w'.cell? ⟨g7, 0, none⟩ = some (.slice A t.es.length c) ∧ w'.cell? ⟨g7, 1, none⟩ = some (.slice N nvs.length d) := fun w' hE => ⟨(Blk.ext hB3 hE).cell 0, (Blk.ext hB3 hE).cell 1⟩
    refine tdrawQ 11 [16, 20] (fun w' => w'.cell? ⟨g7, 0, none⟩ = some (.slice A t.es.length c) ∧ w'.cell? ⟨g7, 1, none⟩ = some (.slice N nvs.length d)) rfl (by kernel_rfl) (by decide +kernel) (hH0 _ (Fr.drew _ _)) (fun hR => ?_)
    obtain ⟨a00, ha0⟩ : ∃ a, a = w3.drew := ⟨_, rfl⟩
    have fa00 : Ext w3 a00 := by rw [ha0]; exact Fr.drew _ _
    rw [← ha0]
    · skip
      refine grun [1, 2, 5, 6] [0, 3, 4, 7, 8, 9, 10] hR (by decide +kernel) (by decide +kernel) rfl ?_
      repeat' (first | refine xldh rfl rfl (fun _ h => h.1) ?_ | refine xldh rfl rfl (fun _ h => h.2) ?_ | refine go1L ?_ | fail)
      refine gbr3 0 4 9 [3, 4, 7, 8, 9, 10] [0, 3, 7, 8, 9, 10] [0, 3, 4, 7, 8, 10] hR (by decide +kernel) rfl rfl rfl rfl rfl rfl ?_ ?_ ?_
      · skip
        repeat' (first | refine xldh rfl rfl (fun _ h => h.1) ?_ | refine xldh rfl rfl (fun _ h => h.2) ?_ | refine go1L ?_ | fail)
        refine xbz0 sl_ents (fun a1 hOa1 hEa1 hsa1 => ?_) (fun w' he => hH0 w' (fa00.t he))
        have fa1 : Ext w3 a1 := fa00.t hEa1
        have ea1 : Ow enC 2 a1 w3.heap.size 49 (.slice (some ⟨a00.heap.size, 0, none⟩) 0 0) [] := OwnZ.mono hOa1 fa00.size
        repeat' (first | refine xldh rfl rfl (fun _ h => h.1) ?_ | refine xldh rfl rfl (fun _ h => h.2) ?_ | refine go1L ?_ | fail)
        refine gbr3 3 4 9 [4, 7, 8, 9, 10] [3, 7, 8, 9, 10] [3, 4, 7, 8, 10] hR (by decide +kernel) rfl rfl rfl rfl rfl rfl ?_ ?_ ?_
        · skip
          repeat' (first | refine xldh rfl rfl (fun _ h => h.1) ?_ | refine xldh rfl rfl (fun _ h => h.2) ?_ | refine go1L ?_ | fail)
          refine xapz (B := w3.heap.size) (news := (t.es).flatMap enC) sl_ents rfl (by decide) rfl ea1 rfl (hT3.e.ext fa1) (flat_len enC_len _) (enC_one _) (by simp only [List.length_nil]; unfold maxLen; omega) (by simp only [List.length_nil]; omega) fa1.size (fun va2 a2 hOa2 hFa2 _ => ?_) (fun w' hF => hH0 w' (fa1.trans hF fun j hj h => by have := (ea1.blk h).1; omega))
          have fa2 : Ext w3 a2 := fa1.trans hFa2 fun j hj h => by have := (ea1.blk h).1; omega
          have ea2 : Ow enC 2 a2 w3.heap.size 49 va2 (t.es) := by have h := Ow.ext1 (cf := enC) (l := []) (l' := t.es) hOa2; rwa [List.nil_append] at h
          obtain ⟨AE, cE, rfl, _, _⟩ := ea2.form
          repeat' (first | refine xldh rfl rfl (fun _ h => h.1) ?_ | refine xldh rfl rfl (fun _ h => h.2) ?_ | refine go1L ?_ | fail)
          refine gbr2 4 9 [7, 8, 9, 10] [4, 7, 8, 10] hR (by decide +kernel) rfl rfl rfl rfl ?_ ?_
          · skip
            repeat' (first | refine xldh rfl rfl (fun _ h => h.1) ?_ | refine xldh rfl rfl (fun _ h => h.2) ?_ | refine go1L ?_ | fail)
            refine xbz0 sl_nds (fun a3 hOa3 hEa3 hsa3 => ?_) (fun w' he => hH0 w' (fa2.t he))
            have fa3 : Ext w3 a3 := fa2.t hEa3
            have ea3 := ea2.ext hEa3
            have na3 : Ow ndC 12 a3 w3.heap.size 47 (.slice (some ⟨a2.heap.size, 0, none⟩) 0 0) [] := OwnZ.mono hOa3 fa2.size
            repeat' (first | refine xldh rfl rfl (fun _ h => h.1) ?_ | refine xldh rfl rfl (fun _ h => h.2) ?_ | refine go1L ?_ | fail)
            refine gbr2 7 9 [8, 9, 10] [7, 8, 10] hR (by decide +kernel) rfl rfl rfl rfl ?_ ?_
            · skip
              repeat' (first | refine xldh rfl rfl (fun _ h => h.1) ?_ | refine xldh rfl rfl (fun _ h => h.2) ?_ | refine go1L ?_ | fail)
              refine xapz (B := w3.heap.size) (news := (nvs).flatMap ndC) sl_nds rfl (by decide) rfl na3 rfl (hT3.n.ext fa3) (flat_len ndC_len _) (nd_one hT3) (by simp only [List.length_nil]; unfold maxLen; omega) (by simp only [List.length_nil]; omega) fa3.size (fun va4 a4 hOa4 hFa4 _ => ?_) (fun w' hF => hH0 w' (fa3.trans hF fun j hj h => by have := (na3.blk h).1; omega))
              have fa4 : Ext w3 a4 := fa3.trans hFa4 fun j hj h => by have := (na3.blk h).1; omega
              have ea4 := ea3.fr hFa4 (fun b hb e => ea3.apart na3 (by decide) hb e)
              have na4 : Ow ndC 12 a4 w3.heap.size 47 va4 (nvs) := by have h := Ow.ext1 (cf := ndC) (l := []) (l' := nvs) hOa4; rwa [List.nil_append] at h
              obtain ⟨AN, cN, rfl, _, _⟩ := na4.form
              repeat' (first | refine xldh rfl rfl (fun _ h => h.1) ?_ | refine xldh rfl rfl (fun _ h => h.2) ?_ | refine go1L ?_ | fail)
              refine grun [8, 9, 10] [] hR (by decide +kernel) (by decide +kernel) rfl ?_
              repeat' (first | refine xldh rfl rfl (fun _ h => h.1) ?_ | refine xldh rfl rfl (fun _ h => h.2) ?_ | refine go1L ?_ | fail)
              refine xbd (cells := #[.slice AE t.es.length cE, .slice AN nvs.length cN]) rfl (by kernel_rfl) ?_
              repeat' (first | refine xldh rfl rfl (fun _ h => h.1) ?_ | refine xldh rfl rfl (fun _ h => h.2) ?_ | refine go1L ?_ | fail)
              refine xalloc (z := .agg #[.slice none 0 0, .slice none 0 0]) (by kernel_rfl) (fun a6 hBa6 hEa6 hsa6 => ?_) (fun w' he => hH0 w' (fa4.t he))
              have fa6 : Ext w3 a6 := fa4.t hEa6
              have ea6 := ea4.ext hEa6
              have na6 := na4.ext hEa6
              have ba6 : Blk a6 a4.heap.size 25 #[.slice none 0 0, .slice none 0 0] := hBa6
              have ga4 := fa4.size
              repeat' (first | refine xldh rfl rfl (fun _ h => h.1) ?_ | refine xldh rfl rfl (fun _ h => h.2) ?_ | refine go1L ?_ | fail)
              refine xsta ba6 rfl rfl (by kernel_rfl) rfl (one_cells (l := [.slice AE t.es.length cE, .slice AN nvs.length cN]) rfl) (fun a7 hBa7 hFa7 => ?_) (fun w' hF => hH0 w' (hN fa6 hF ga4))
              have hfin : SpK t nvs g7 w3 (.slice AE t.es.length cE, .slice AN nvs.length cN, a4.heap.size) a7 := ⟨hN fa6 hFa7 ga4, hBa7, ea6.fr hFa7 (fun b hb e => by obtain ⟨cs, hc⟩ := ea6.typ hb; exact hc.ne_ ba6 (by decide) e), na6.fr hFa7 (fun b hb e => by obtain ⟨cs, hc⟩ := na6.typ hb; exact hc.ne_ ba6 (by decide) e), ga4⟩
              repeat' (first | refine xldh rfl rfl (fun _ h => h.1) ?_ | refine xldh rfl rfl (fun _ h => h.2) ?_ | refine go1L ?_ | fail)
              refine xg_end ?_
              exact tfin ⟨(.slice AE t.es.length cE, .slice AN nvs.length cN, a4.heap.size), sub ⟨rfl, rfl, rfl, rfl⟩, hfin⟩
            · skip
              repeat' (first | refine xldh rfl rfl (fun _ h => h.1) ?_ | refine xldh rfl rfl (fun _ h => h.2) ?_ | refine go1L ?_ | fail)
              refine xalloc (z := .agg #[.slice none 0 0, .slice none 0 0]) (by kernel_rfl) (fun a8 hBa8 hEa8 hsa8 => ?_) (fun w' he => hH0 w' (fa3.t he))
              have fa8 : Ext w3 a8 := fa3.t hEa8
              have ea8 := ea3.ext hEa8
              have na8 := na3.ext hEa8
              have ba8 : Blk a8 a3.heap.size 25 #[.slice none 0 0, .slice none 0 0] := hBa8
              have ga3 := fa3.size
              repeat' (first | refine xldh rfl rfl (fun _ h => h.1) ?_ | refine xldh rfl rfl (fun _ h => h.2) ?_ | refine go1L ?_ | fail)
              refine grun [7, 8, 10] [] hR (by decide +kernel) (by decide +kernel) rfl ?_
              repeat' (first | refine xldh rfl rfl (fun _ h => h.1) ?_ | refine xldh rfl rfl (fun _ h => h.2) ?_ | refine go1L ?_ | fail)
              refine xapz (B := w3.heap.size) (news := (nvs).flatMap ndC) sl_nds rfl (by decide) rfl na8 rfl (hT3.n.ext fa8) (flat_len ndC_len _) (nd_one hT3) (by simp only [List.length_nil]; unfold maxLen; omega) (by simp only [List.length_nil]; omega) fa8.size (fun va9 a9 hOa9 hFa9 _ => ?_) (fun w' hF => hH0 w' (fa8.trans hF fun j hj h => by have := (na8.blk h).1; omega))
              have fa9 : Ext w3 a9 := fa8.trans hFa9 fun j hj h => by have := (na8.blk h).1; omega
              have ea9 := ea8.fr hFa9 (fun b hb e => ea8.apart na8 (by decide) hb e)
              have ba9 := Blk.fr ba8 hFa9 (fun e => by obtain ⟨cs, hc⟩ := na8.typ e; exact hc.ne_ ba8 (by decide) rfl)
              have na9 : Ow ndC 12 a9 w3.heap.size 47 va9 (nvs) := by have h := Ow.ext1 (cf := ndC) (l := []) (l' := nvs) hOa9; rwa [List.nil_append] at h
              obtain ⟨AN, cN, rfl, _, _⟩ := na9.form
              repeat' (first | refine xldh rfl rfl (fun _ h => h.1) ?_ | refine xldh rfl rfl (fun _ h => h.2) ?_ | refine go1L ?_ | fail)
              refine xbd (cells := #[.slice AE t.es.length cE, .slice AN nvs.length cN]) rfl (by kernel_rfl) ?_
              repeat' (first | refine xldh rfl rfl (fun _ h => h.1) ?_ | refine xldh rfl rfl (fun _ h => h.2) ?_ | refine go1L ?_ | fail)
              refine xsta ba9 rfl rfl (by kernel_rfl) rfl (one_cells (l := [.slice AE t.es.length cE, .slice AN nvs.length cN]) rfl) (fun a11 hBa11 hFa11 => ?_) (fun w' hF => hH0 w' (hN fa9 hF ga3))
              have hfin : SpK t nvs g7 w3 (.slice AE t.es.length cE, .slice AN nvs.length cN, a3.heap.size) a11 := ⟨hN fa9 hFa11 ga3, hBa11, ea9.fr hFa11 (fun b hb e => by obtain ⟨cs, hc⟩ := ea9.typ hb; exact hc.ne_ ba9 (by decide) e), na9.fr hFa11 (fun b hb e => by obtain ⟨cs, hc⟩ := na9.typ hb; exact hc.ne_ ba9 (by decide) e), ga3⟩
              repeat' (first | refine xldh rfl rfl (fun _ h => h.1) ?_ | refine xldh rfl rfl (fun _ h => h.2) ?_ | refine go1L ?_ | fail)
              refine xg_end ?_
              exact tfin ⟨(.slice AE t.es.length cE, .slice AN nvs.length cN, a3.heap.size), sub ⟨rfl, rfl, rfl, rfl⟩, hfin⟩
          · skip
            repeat' (first | refine xldh rfl rfl (fun _ h => h.1) ?_ | refine xldh rfl rfl (fun _ h => h.2) ?_ | refine go1L ?_ | fail)
            refine xalloc (z := .agg #[.slice none 0 0, .slice none 0 0]) (by kernel_rfl) (fun a12 hBa12 hEa12 hsa12 => ?_) (fun w' he => hH0 w' (fa2.t he))
            have fa12 : Ext w3 a12 := fa2.t hEa12
            have ea12 := ea2.ext hEa12
            have ba12 : Blk a12 a2.heap.size 25 #[.slice none 0 0, .slice none 0 0] := hBa12
            have ga2 := fa2.size
            repeat' (first | refine xldh rfl rfl (fun _ h => h.1) ?_ | refine xldh rfl rfl (fun _ h => h.2) ?_ | refine go1L ?_ | fail)
            refine grun [4, 7, 8, 10] [] hR (by decide +kernel) (by decide +kernel) rfl ?_
            repeat' (first | refine xldh rfl rfl (fun _ h => h.1) ?_ | refine xldh rfl rfl (fun _ h => h.2) ?_ | refine go1L ?_ | fail)
            refine xbz0 sl_nds (fun a13 hOa13 hEa13 hsa13 => ?_) (fun w' he => hH0 w' (fa12.t he))
            have fa13 : Ext w3 a13 := fa12.t hEa13
            have ea13 := ea12.ext hEa13
            have ba13 := Blk.ext ba12 hEa13
            have na13 : Ow ndC 12 a13 w3.heap.size 47 (.slice (some ⟨a12.heap.size, 0, none⟩) 0 0) [] := OwnZ.mono hOa13 fa12.size
            repeat' (first | refine xldh rfl rfl (fun _ h => h.1) ?_ | refine xldh rfl rfl (fun _ h => h.2) ?_ | refine go1L ?_ | fail)
            refine xapz (B := w3.heap.size) (news := (nvs).flatMap ndC) sl_nds rfl (by decide) rfl na13 rfl (hT3.n.ext fa13) (flat_len ndC_len _) (nd_one hT3) (by simp only [List.length_nil]; unfold maxLen; omega) (by simp only [List.length_nil]; omega) fa13.size (fun va14 a14 hOa14 hFa14 _ => ?_) (fun w' hF => hH0 w' (fa13.trans hF fun j hj h => by have := (na13.blk h).1; omega))
            have fa14 : Ext w3 a14 := fa13.trans hFa14 fun j hj h => by have := (na13.blk h).1; omega
            have ea14 := ea13.fr hFa14 (fun b hb e => ea13.apart na13 (by decide) hb e)
            have ba14 := Blk.fr ba13 hFa14 (fun e => by obtain ⟨cs, hc⟩ := na13.typ e; exact hc.ne_ ba13 (by decide) rfl)
            have na14 : Ow ndC 12 a14 w3.heap.size 47 va14 (nvs) := by have h := Ow.ext1 (cf := ndC) (l := []) (l' := nvs) hOa14; rwa [List.nil_append] at h
            obtain ⟨AN, cN, rfl, _, _⟩ := na14.form
            repeat' (first | refine xldh rfl rfl (fun _ h => h.1) ?_ | refine xldh rfl rfl (fun _ h => h.2) ?_ | refine go1L ?_ | fail)
            refine xbd (cells := #[.slice AE t.es.length cE, .slice AN nvs.length cN]) rfl (by kernel_rfl) ?_
            repeat' (first | refine xldh rfl rfl (fun _ h => h.1) ?_ | refine xldh rfl rfl (fun _ h => h.2) ?_ | refine go1L ?_ | fail)
            refine xsta ba14 rfl rfl (by kernel_rfl) rfl (one_cells (l := [.slice AE t.es.length cE, .slice AN nvs.length cN]) rfl) (fun a16 hBa16 hFa16 => ?_) (fun w' hF => hH0 w' (hN fa14 hF ga2))
            have hfin : SpK t nvs g7 w3 (.slice AE t.es.length cE, .slice AN nvs.length cN, a2.heap.size) a16 := ⟨hN fa14 hFa16 ga2, hBa16, ea14.fr hFa16 (fun b hb e => by obtain ⟨cs, hc⟩ := ea14.typ hb; exact hc.ne_ ba14 (by decide) e), na14.fr hFa16 (fun b hb e => by obtain ⟨cs, hc⟩ := na14.typ hb; exact hc.ne_ ba14 (by decide) e), ga2⟩
            repeat' (first | refine xldh rfl rfl (fun _ h => h.1) ?_ | refine xldh rfl rfl (fun _ h => h.2) ?_ | refine go1L ?_ | fail)
            refine xg_end ?_
            exact tfin ⟨(.slice AE t.es.length cE, .slice AN nvs.length cN, a2.heap.size), sub ⟨rfl, rfl, rfl, rfl⟩, hfin⟩
        · skip
          repeat' (first | refine xldh rfl rfl (fun _ h => h.1) ?_ | refine xldh rfl rfl (fun _ h => h.2) ?_ | refine go1L ?_ | fail)
          refine xbz0 sl_nds (fun a17 hOa17 hEa17 hsa17 => ?_) (fun w' he => hH0 w' (fa1.t he))
          have fa17 : Ext w3 a17 := fa1.t hEa17
          have ea17 := ea1.ext hEa17
          have na17 : Ow ndC 12 a17 w3.heap.size 47 (.slice (some ⟨a1.heap.size, 0, none⟩) 0 0) [] := OwnZ.mono hOa17 fa1.size
          repeat' (first | refine xldh rfl rfl (fun _ h => h.1) ?_ | refine xldh rfl rfl (fun _ h => h.2) ?_ | refine go1L ?_ | fail)
          refine gbr2 3 9 [7, 8, 9, 10] [3, 7, 8, 10] hR (by decide +kernel) rfl rfl rfl rfl ?_ ?_
          · skip
            repeat' (first | refine xldh rfl rfl (fun _ h => h.1) ?_ | refine xldh rfl rfl (fun _ h => h.2) ?_ | refine go1L ?_ | fail)
            refine xapz (B := w3.heap.size) (news := (t.es).flatMap enC) sl_ents rfl (by decide) rfl ea17 rfl (hT3.e.ext fa17) (flat_len enC_len _) (enC_one _) (by simp only [List.length_nil]; unfold maxLen; omega) (by simp only [List.length_nil]; omega) fa17.size (fun va18 a18 hOa18 hFa18 _ => ?_) (fun w' hF => hH0 w' (fa17.trans hF fun j hj h => by have := (ea17.blk h).1; omega))
            have fa18 : Ext w3 a18 := fa17.trans hFa18 fun j hj h => by have := (ea17.blk h).1; omega
            have na18 := na17.fr hFa18 (fun b hb e => na17.apart ea17 (by decide) hb e)
            have ea18 : Ow enC 2 a18 w3.heap.size 49 va18 (t.es) := by have h := Ow.ext1 (cf := enC) (l := []) (l' := t.es) hOa18; rwa [List.nil_append] at h
            obtain ⟨AE, cE, rfl, _, _⟩ := ea18.form
            repeat' (first | refine xldh rfl rfl (fun _ h => h.1) ?_ | refine xldh rfl rfl (fun _ h => h.2) ?_ | refine go1L ?_ | fail)
            refine gbr2 7 9 [8, 9, 10] [7, 8, 10] hR (by decide +kernel) rfl rfl rfl rfl ?_ ?_
            · skip
              repeat' (first | refine xldh rfl rfl (fun _ h => h.1) ?_ | refine xldh rfl rfl (fun _ h => h.2) ?_ | refine go1L ?_ | fail)
              refine xapz (B := w3.heap.size) (news := (nvs).flatMap ndC) sl_nds rfl (by decide) rfl na18 rfl (hT3.n.ext fa18) (flat_len ndC_len _) (nd_one hT3) (by simp only [List.length_nil]; unfold maxLen; omega) (by simp only [List.length_nil]; omega) fa18.size (fun va19 a19 hOa19 hFa19 _ => ?_) (fun w' hF => hH0 w' (fa18.trans hF fun j hj h => by have := (na18.blk h).1; omega))
              have fa19 : Ext w3 a19 := fa18.trans hFa19 fun j hj h => by have := (na18.blk h).1; omega
              have ea19 := ea18.fr hFa19 (fun b hb e => ea18.apart na18 (by decide) hb e)
              have na19 : Ow ndC 12 a19 w3.heap.size 47 va19 (nvs) := by have h := Ow.ext1 (cf := ndC) (l := []) (l' := nvs) hOa19; rwa [List.nil_append] at h
              obtain ⟨AN, cN, rfl, _, _⟩ := na19.form
              repeat' (first | refine xldh rfl rfl (fun _ h => h.1) ?_ | refine xldh rfl rfl (fun _ h => h.2) ?_ | refine go1L ?_ | fail)
              refine grun [8, 9, 10] [] hR (by decide +kernel) (by decide +kernel) rfl ?_
              repeat' (first | refine xldh rfl rfl (fun _ h => h.1) ?_ | refine xldh rfl rfl (fun _ h => h.2) ?_ | refine go1L ?_ | fail)
              refine xbd (cells := #[.slice AE t.es.length cE, .slice AN nvs.length cN]) rfl (by kernel_rfl) ?_
              repeat' (first | refine xldh rfl rfl (fun _ h => h.1) ?_ | refine xldh rfl rfl (fun _ h => h.2) ?_ | refine go1L ?_ | fail)
              refine xalloc (z := .agg #[.slice none 0 0, .slice none 0 0]) (by kernel_rfl) (fun a21 hBa21 hEa21 hsa21 => ?_) (fun w' he => hH0 w' (fa19.t he))
              have fa21 : Ext w3 a21 := fa19.t hEa21
              have ea21 := ea19.ext hEa21
              have na21 := na19.ext hEa21
              have ba21 : Blk a21 a19.heap.size 25 #[.slice none 0 0, .slice none 0 0] := hBa21
              have ga19 := fa19.size
              repeat' (first | refine xldh rfl rfl (fun _ h => h.1) ?_ | refine xldh rfl rfl (fun _ h => h.2) ?_ | refine go1L ?_ | fail)
              refine xsta ba21 rfl rfl (by kernel_rfl) rfl (one_cells (l := [.slice AE t.es.length cE, .slice AN nvs.length cN]) rfl) (fun a22 hBa22 hFa22 => ?_) (fun w' hF => hH0 w' (hN fa21 hF ga19))
              have hfin : SpK t nvs g7 w3 (.slice AE t.es.length cE, .slice AN nvs.length cN, a19.heap.size) a22 := ⟨hN fa21 hFa22 ga19, hBa22, ea21.fr hFa22 (fun b hb e => by obtain ⟨cs, hc⟩ := ea21.typ hb; exact hc.ne_ ba21 (by decide) e), na21.fr hFa22 (fun b hb e => by obtain ⟨cs, hc⟩ := na21.typ hb; exact hc.ne_ ba21 (by decide) e), ga19⟩
              repeat' (first | refine xldh rfl rfl (fun _ h => h.1) ?_ | refine xldh rfl rfl (fun _ h => h.2) ?_ | refine go1L ?_ | fail)
              refine xg_end ?_
              exact tfin ⟨(.slice AE t.es.length cE, .slice AN nvs.length cN, a19.heap.size), sub ⟨rfl, rfl, rfl, rfl⟩, hfin⟩
            · skip
              repeat' (first | refine xldh rfl rfl (fun _ h => h.1) ?_ | refine xldh rfl rfl (fun _ h => h.2) ?_ | refine go1L ?_ | fail)
              refine xalloc (z := .agg #[.slice none 0 0, .slice none 0 0]) (by kernel_rfl) (fun a23 hBa23 hEa23 hsa23 => ?_) (fun w' he => hH0 w' (fa18.t he))
              have fa23 : Ext w3 a23 := fa18.t hEa23
              have ea23 := ea18.ext hEa23
              have na23 := na18.ext hEa23
              have ba23 : Blk a23 a18.heap.size 25 #[.slice none 0 0, .slice none 0 0] := hBa23
              have ga18 := fa18.size
              repeat' (first | refine xldh rfl rfl (fun _ h => h.1) ?_ | refine xldh rfl rfl (fun _ h => h.2) ?_ | refine go1L ?_ | fail)
              refine grun [7, 8, 10] [] hR (by decide +kernel) (by decide +kernel) rfl ?_
              repeat' (first | refine xldh rfl rfl (fun _ h => h.1) ?_ | refine xldh rfl rfl (fun _ h => h.2) ?_ | refine go1L ?_ | fail)
              refine xapz (B := w3.heap.size) (news := (nvs).flatMap ndC) sl_nds rfl (by decide) rfl na23 rfl (hT3.n.ext fa23) (flat_len ndC_len _) (nd_one hT3) (by simp only [List.length_nil]; unfold maxLen; omega) (by simp only [List.length_nil]; omega) fa23.size (fun va24 a24 hOa24 hFa24 _ => ?_) (fun w' hF => hH0 w' (fa23.trans hF fun j hj h => by have := (na23.blk h).1; omega))
              have fa24 : Ext w3 a24 := fa23.trans hFa24 fun j hj h => by have := (na23.blk h).1; omega
              have ea24 := ea23.fr hFa24 (fun b hb e => ea23.apart na23 (by decide) hb e)
              have ba24 := Blk.fr ba23 hFa24 (fun e => by obtain ⟨cs, hc⟩ := na23.typ e; exact hc.ne_ ba23 (by decide) rfl)
              have na24 : Ow ndC 12 a24 w3.heap.size 47 va24 (nvs) := by have h := Ow.ext1 (cf := ndC) (l := []) (l' := nvs) hOa24; rwa [List.nil_append] at h
              obtain ⟨AN, cN, rfl, _, _⟩ := na24.form
              repeat' (first | refine xldh rfl rfl (fun _ h => h.1) ?_ | refine xldh rfl rfl (fun _ h => h.2) ?_ | refine go1L ?_ | fail)
              refine xbd (cells := #[.slice AE t.es.length cE, .slice AN nvs.length cN]) rfl (by kernel_rfl) ?_
              repeat' (first | refine xldh rfl rfl (fun _ h => h.1) ?_ | refine xldh rfl rfl (fun _ h => h.2) ?_ | refine go1L ?_ | fail)
              refine xsta ba24 rfl rfl (by kernel_rfl) rfl (one_cells (l := [.slice AE t.es.length cE, .slice AN nvs.length cN]) rfl) (fun a26 hBa26 hFa26 => ?_) (fun w' hF => hH0 w' (hN fa24 hF ga18))
              have hfin : SpK t nvs g7 w3 (.slice AE t.es.length cE, .slice AN nvs.length cN, a18.heap.size) a26 := ⟨hN fa24 hFa26 ga18, hBa26, ea24.fr hFa26 (fun b hb e => by obtain ⟨cs, hc⟩ := ea24.typ hb; exact hc.ne_ ba24 (by decide) e), na24.fr hFa26 (fun b hb e => by obtain ⟨cs, hc⟩ := na24.typ hb; exact hc.ne_ ba24 (by decide) e), ga18⟩
              repeat' (first | refine xldh rfl rfl (fun _ h => h.1) ?_ | refine xldh rfl rfl (fun _ h => h.2) ?_ | refine go1L ?_ | fail)
              refine xg_end ?_
              exact tfin ⟨(.slice AE t.es.length cE, .slice AN nvs.length cN, a18.heap.size), sub ⟨rfl, rfl, rfl, rfl⟩, hfin⟩
          · skip
            repeat' (first | refine xldh rfl rfl (fun _ h => h.1) ?_ | refine xldh rfl rfl (fun _ h => h.2) ?_ | refine go1L ?_ | fail)
            refine xalloc (z := .agg #[.slice none 0 0, .slice none 0 0]) (by kernel_rfl) (fun a27 hBa27 hEa27 hsa27 => ?_) (fun w' he => hH0 w' (fa17.t he))
            have fa27 : Ext w3 a27 := fa17.t hEa27
            have ea27 := ea17.ext hEa27
            have na27 := na17.ext hEa27
            have ba27 : Blk a27 a17.heap.size 25 #[.slice none 0 0, .slice none 0 0] := hBa27
            have ga17 := fa17.size
            repeat' (first | refine xldh rfl rfl (fun _ h => h.1) ?_ | refine xldh rfl rfl (fun _ h => h.2) ?_ | refine go1L ?_ | fail)
            refine grun [3, 7, 8, 10] [] hR (by decide +kernel) (by decide +kernel) rfl ?_
            repeat' (first | refine xldh rfl rfl (fun _ h => h.1) ?_ | refine xldh rfl rfl (fun _ h => h.2) ?_ | refine go1L ?_ | fail)
            refine xapz (B := w3.heap.size) (news := (t.es).flatMap enC) sl_ents rfl (by decide) rfl ea27 rfl (hT3.e.ext fa27) (flat_len enC_len _) (enC_one _) (by simp only [List.length_nil]; unfold maxLen; omega) (by simp only [List.length_nil]; omega) fa27.size (fun va28 a28 hOa28 hFa28 _ => ?_) (fun w' hF => hH0 w' (fa27.trans hF fun j hj h => by have := (ea27.blk h).1; omega))
            have fa28 : Ext w3 a28 := fa27.trans hFa28 fun j hj h => by have := (ea27.blk h).1; omega
            have na28 := na27.fr hFa28 (fun b hb e => na27.apart ea27 (by decide) hb e)
            have ba28 := Blk.fr ba27 hFa28 (fun e => by obtain ⟨cs, hc⟩ := ea27.typ e; exact hc.ne_ ba27 (by decide) rfl)
            have ea28 : Ow enC 2 a28 w3.heap.size 49 va28 (t.es) := by have h := Ow.ext1 (cf := enC) (l := []) (l' := t.es) hOa28; rwa [List.nil_append] at h
            obtain ⟨AE, cE, rfl, _, _⟩ := ea28.form
            repeat' (first | refine xldh rfl rfl (fun _ h => h.1) ?_ | refine xldh rfl rfl (fun _ h => h.2) ?_ | refine go1L ?_ | fail)
            refine xapz (B := w3.heap.size) (news := (nvs).flatMap ndC) sl_nds rfl (by decide) rfl na28 rfl (hT3.n.ext fa28) (flat_len ndC_len _) (nd_one hT3) (by simp only [List.length_nil]; unfold maxLen; omega) (by simp only [List.length_nil]; omega) fa28.size (fun va29 a29 hOa29 hFa29 _ => ?_) (fun w' hF => hH0 w' (fa28.trans hF fun j hj h => by have := (na28.blk h).1; omega))
            have fa29 : Ext w3 a29 := fa28.trans hFa29 fun j hj h => by have := (na28.blk h).1; omega
            have ea29 := ea28.fr hFa29 (fun b hb e => ea28.apart na28 (by decide) hb e)
            have ba29 := Blk.fr ba28 hFa29 (fun e => by obtain ⟨cs, hc⟩ := na28.typ e; exact hc.ne_ ba28 (by decide) rfl)
            have na29 : Ow ndC 12 a29 w3.heap.size 47 va29 (nvs) := by have h := Ow.ext1 (cf := ndC) (l := []) (l' := nvs) hOa29; rwa [List.nil_append] at h
            obtain ⟨AN, cN, rfl, _, _⟩ := na29.form
            repeat' (first | refine xldh rfl rfl (fun _ h => h.1) ?_ | refine xldh rfl rfl (fun _ h => h.2) ?_ | refine go1L ?_ | fail)
            refine xbd (cells := #[.slice AE t.es.length cE, .slice AN nvs.length cN]) rfl (by kernel_rfl) ?_
            repeat' (first | refine xldh rfl rfl (fun _ h => h.1) ?_ | refine xldh rfl rfl (fun _ h => h.2) ?_ | refine go1L ?_ | fail)
            refine xsta ba29 rfl rfl (by kernel_rfl) rfl (one_cells (l := [.slice AE t.es.length cE, .slice AN nvs.length cN]) rfl) (fun a31 hBa31 hFa31 => ?_) (fun w' hF => hH0 w' (hN fa29 hF ga17))
            have hfin : SpK t nvs g7 w3 (.slice AE t.es.length cE, .slice AN nvs.length cN, a17.heap.size) a31 := ⟨hN fa29 hFa31 ga17, hBa31, ea29.fr hFa31 (fun b hb e => by obtain ⟨cs, hc⟩ := ea29.typ hb; exact hc.ne_ ba29 (by decide) e), na29.fr hFa31 (fun b hb e => by obtain ⟨cs, hc⟩ := na29.typ hb; exact hc.ne_ ba29 (by decide) e), ga17⟩
            repeat' (first | refine xldh rfl rfl (fun _ h => h.1) ?_ | refine xldh rfl rfl (fun _ h => h.2) ?_ | refine go1L ?_ | fail)
            refine xg_end ?_
            exact tfin ⟨(.slice AE t.es.length cE, .slice AN nvs.length cN, a17.heap.size), sub ⟨rfl, rfl, rfl, rfl⟩, hfin⟩
        · skip
          repeat' (first | refine xldh rfl rfl (fun _ h => h.1) ?_ | refine xldh rfl rfl (fun _ h => h.2) ?_ | refine go1L ?_ | fail)
          refine xalloc (z := .agg #[.slice none 0 0, .slice none 0 0]) (by kernel_rfl) (fun a32 hBa32 hEa32 hsa32 => ?_) (fun w' he => hH0 w' (fa1.t he))
          have fa32 : Ext w3 a32 := fa1.t hEa32
          have ea32 := ea1.ext hEa32
          have ba32 : Blk a32 a1.heap.size 25 #[.slice none 0 0, .slice none 0 0] := hBa32
          have ga1 := fa1.size
          repeat' (first | refine xldh rfl rfl (fun _ h => h.1) ?_ | refine xldh rfl rfl (fun _ h => h.2) ?_ | refine go1L ?_ | fail)
          refine gbr2 3 4 [4, 7, 8, 10] [3, 7, 8, 10] hR (by decide +kernel) rfl rfl rfl rfl ?_ ?_
          · skip
            repeat' (first | refine xldh rfl rfl (fun _ h => h.1) ?_ | refine xldh rfl rfl (fun _ h => h.2) ?_ | refine go1L ?_ | fail)
            refine xapz (B := w3.heap.size) (news := (t.es).flatMap enC) sl_ents rfl (by decide) rfl ea32 rfl (hT3.e.ext fa32) (flat_len enC_len _) (enC_one _) (by simp only [List.length_nil]; unfold maxLen; omega) (by simp only [List.length_nil]; omega) fa32.size (fun va33 a33 hOa33 hFa33 _ => ?_) (fun w' hF => hH0 w' (fa32.trans hF fun j hj h => by have := (ea32.blk h).1; omega))
            have fa33 : Ext w3 a33 := fa32.trans hFa33 fun j hj h => by have := (ea32.blk h).1; omega
            have ba33 := Blk.fr ba32 hFa33 (fun e => by obtain ⟨cs, hc⟩ := ea32.typ e; exact hc.ne_ ba32 (by decide) rfl)
            have ea33 : Ow enC 2 a33 w3.heap.size 49 va33 (t.es) := by have h := Ow.ext1 (cf := enC) (l := []) (l' := t.es) hOa33; rwa [List.nil_append] at h
            obtain ⟨AE, cE, rfl, _, _⟩ := ea33.form
            repeat' (first | refine xldh rfl rfl (fun _ h => h.1) ?_ | refine xldh rfl rfl (fun _ h => h.2) ?_ | refine go1L ?_ | fail)
            refine grun [4, 7, 8, 10] [] hR (by decide +kernel) (by decide +kernel) rfl ?_
            repeat' (first | refine xldh rfl rfl (fun _ h => h.1) ?_ | refine xldh rfl rfl (fun _ h => h.2) ?_ | refine go1L ?_ | fail)
            refine xbz0 sl_nds (fun a34 hOa34 hEa34 hsa34 => ?_) (fun w' he => hH0 w' (fa33.t he))
            have fa34 : Ext w3 a34 := fa33.t hEa34
            have ea34 := ea33.ext hEa34
            have ba34 := Blk.ext ba33 hEa34
            have na34 : Ow ndC 12 a34 w3.heap.size 47 (.slice (some ⟨a33.heap.size, 0, none⟩) 0 0) [] := OwnZ.mono hOa34 fa33.size
            repeat' (first | refine xldh rfl rfl (fun _ h => h.1) ?_ | refine xldh rfl rfl (fun _ h => h.2) ?_ | refine go1L ?_ | fail)
            refine xapz (B := w3.heap.size) (news := (nvs).flatMap ndC) sl_nds rfl (by decide) rfl na34 rfl (hT3.n.ext fa34) (flat_len ndC_len _) (nd_one hT3) (by simp only [List.length_nil]; unfold maxLen; omega) (by simp only [List.length_nil]; omega) fa34.size (fun va35 a35 hOa35 hFa35 _ => ?_) (fun w' hF => hH0 w' (fa34.trans hF fun j hj h => by have := (na34.blk h).1; omega))
            have fa35 : Ext w3 a35 := fa34.trans hFa35 fun j hj h => by have := (na34.blk h).1; omega
            have ea35 := ea34.fr hFa35 (fun b hb e => ea34.apart na34 (by decide) hb e)
            have ba35 := Blk.fr ba34 hFa35 (fun e => by obtain ⟨cs, hc⟩ := na34.typ e; exact hc.ne_ ba34 (by decide) rfl)
            have na35 : Ow ndC 12 a35 w3.heap.size 47 va35 (nvs) := by have h := Ow.ext1 (cf := ndC) (l := []) (l' := nvs) hOa35; rwa [List.nil_append] at h
            obtain ⟨AN, cN, rfl, _, _⟩ := na35.form
            repeat' (first | refine xldh rfl rfl (fun _ h => h.1) ?_ | refine xldh rfl rfl (fun _ h => h.2) ?_ | refine go1L ?_ | fail)
            refine xbd (cells := #[.slice AE t.es.length cE, .slice AN nvs.length cN]) rfl (by kernel_rfl) ?_
            repeat' (first | refine xldh rfl rfl (fun _ h => h.1) ?_ | refine xldh rfl rfl (fun _ h => h.2) ?_ | refine go1L ?_ | fail)
            refine xsta ba35 rfl rfl (by kernel_rfl) rfl (one_cells (l := [.slice AE t.es.length cE, .slice AN nvs.length cN]) rfl) (fun a37 hBa37 hFa37 => ?_) (fun w' hF => hH0 w' (hN fa35 hF ga1))
            have hfin : SpK t nvs g7 w3 (.slice AE t.es.length cE, .slice AN nvs.length cN, a1.heap.size) a37 := ⟨hN fa35 hFa37 ga1, hBa37, ea35.fr hFa37 (fun b hb e => by obtain ⟨cs, hc⟩ := ea35.typ hb; exact hc.ne_ ba35 (by decide) e), na35.fr hFa37 (fun b hb e => by obtain ⟨cs, hc⟩ := na35.typ hb; exact hc.ne_ ba35 (by decide) e), ga1⟩
            repeat' (first | refine xldh rfl rfl (fun _ h => h.1) ?_ | refine xldh rfl rfl (fun _ h => h.2) ?_ | refine go1L ?_ | fail)
            refine xg_end ?_
            exact tfin ⟨(.slice AE t.es.length cE, .slice AN nvs.length cN, a1.heap.size), sub ⟨rfl, rfl, rfl, rfl⟩, hfin⟩
          · skip
            repeat' (first | refine xldh rfl rfl (fun _ h => h.1) ?_ | refine xldh rfl rfl (fun _ h => h.2) ?_ | refine go1L ?_ | fail)
            refine xbz0 sl_nds (fun a38 hOa38 hEa38 hsa38 => ?_) (fun w' he => hH0 w' (fa32.t he))
            have fa38 : Ext w3 a38 := fa32.t hEa38
            have ea38 := ea32.ext hEa38
            have ba38 := Blk.ext ba32 hEa38
            have na38 : Ow ndC 12 a38 w3.heap.size 47 (.slice (some ⟨a32.heap.size, 0, none⟩) 0 0) [] := OwnZ.mono hOa38 fa32.size
            repeat' (first | refine xldh rfl rfl (fun _ h => h.1) ?_ | refine xldh rfl rfl (fun _ h => h.2) ?_ | refine go1L ?_ | fail)
            refine grun [3, 7, 8, 10] [] hR (by decide +kernel) (by decide +kernel) rfl ?_
            repeat' (first | refine xldh rfl rfl (fun _ h => h.1) ?_ | refine xldh rfl rfl (fun _ h => h.2) ?_ | refine go1L ?_ | fail)
            refine xapz (B := w3.heap.size) (news := (t.es).flatMap enC) sl_ents rfl (by decide) rfl ea38 rfl (hT3.e.ext fa38) (flat_len enC_len _) (enC_one _) (by simp only [List.length_nil]; unfold maxLen; omega) (by simp only [List.length_nil]; omega) fa38.size (fun va39 a39 hOa39 hFa39 _ => ?_) (fun w' hF => hH0 w' (fa38.trans hF fun j hj h => by have := (ea38.blk h).1; omega))
            have fa39 : Ext w3 a39 := fa38.trans hFa39 fun j hj h => by have := (ea38.blk h).1; omega
            have na39 := na38.fr hFa39 (fun b hb e => na38.apart ea38 (by decide) hb e)
            have ba39 := Blk.fr ba38 hFa39 (fun e => by obtain ⟨cs, hc⟩ := ea38.typ e; exact hc.ne_ ba38 (by decide) rfl)
            have ea39 : Ow enC 2 a39 w3.heap.size 49 va39 (t.es) := by have h := Ow.ext1 (cf := enC) (l := []) (l' := t.es) hOa39; rwa [List.nil_append] at h
            obtain ⟨AE, cE, rfl, _, _⟩ := ea39.form
            repeat' (first | refine xldh rfl rfl (fun _ h => h.1) ?_ | refine xldh rfl rfl (fun _ h => h.2) ?_ | refine go1L ?_ | fail)
            refine xapz (B := w3.heap.size) (news := (nvs).flatMap ndC) sl_nds rfl (by decide) rfl na39 rfl (hT3.n.ext fa39) (flat_len ndC_len _) (nd_one hT3) (by simp only [List.length_nil]; unfold maxLen; omega) (by simp only [List.length_nil]; omega) fa39.size (fun va40 a40 hOa40 hFa40 _ => ?_) (fun w' hF => hH0 w' (fa39.trans hF fun j hj h => by have := (na39.blk h).1; omega))
            have fa40 : Ext w3 a40 := fa39.trans hFa40 fun j hj h => by have := (na39.blk h).1; omega
            have ea40 := ea39.fr hFa40 (fun b hb e => ea39.apart na39 (by decide) hb e)
            have ba40 := Blk.fr ba39 hFa40 (fun e => by obtain ⟨cs, hc⟩ := na39.typ e; exact hc.ne_ ba39 (by decide) rfl)
            have na40 : Ow ndC 12 a40 w3.heap.size 47 va40 (nvs) := by have h := Ow.ext1 (cf := ndC) (l := []) (l' := nvs) hOa40; rwa [List.nil_append] at h
            obtain ⟨AN, cN, rfl, _, _⟩ := na40.form
            repeat' (first | refine xldh rfl rfl (fun _ h => h.1) ?_ | refine xldh rfl rfl (fun _ h => h.2) ?_ | refine go1L ?_ | fail)
            refine xbd (cells := #[.slice AE t.es.length cE, .slice AN nvs.length cN]) rfl (by kernel_rfl) ?_
            repeat' (first | refine xldh rfl rfl (fun _ h => h.1) ?_ | refine xldh rfl rfl (fun _ h => h.2) ?_ | refine go1L ?_ | fail)
            refine xsta ba40 rfl rfl (by kernel_rfl) rfl (one_cells (l := [.slice AE t.es.length cE, .slice AN nvs.length cN]) rfl) (fun a42 hBa42 hFa42 => ?_) (fun w' hF => hH0 w' (hN fa40 hF ga1))
            have hfin : SpK t nvs g7 w3 (.slice AE t.es.length cE, .slice AN nvs.length cN, a1.heap.size) a42 := ⟨hN fa40 hFa42 ga1, hBa42, ea40.fr hFa42 (fun b hb e => by obtain ⟨cs, hc⟩ := ea40.typ hb; exact hc.ne_ ba40 (by decide) e), na40.fr hFa42 (fun b hb e => by obtain ⟨cs, hc⟩ := na40.typ hb; exact hc.ne_ ba40 (by decide) e), ga1⟩
            repeat' (first | refine xldh rfl rfl (fun _ h => h.1) ?_ | refine xldh rfl rfl (fun _ h => h.2) ?_ | refine go1L ?_ | fail)
            refine xg_end ?_
            exact tfin ⟨(.slice AE t.es.length cE, .slice AN nvs.length cN, a1.heap.size), sub ⟨rfl, rfl, rfl, rfl⟩, hfin⟩
      · skip
        repeat' (first | refine xldh rfl rfl (fun _ h => h.1) ?_ | refine xldh rfl rfl (fun _ h => h.2) ?_ | refine go1L ?_ | fail)
        refine xbz0 sl_nds (fun a43 hOa43 hEa43 hsa43 => ?_) (fun w' he => hH0 w' (fa00.t he))
        have fa43 : Ext w3 a43 := fa00.t hEa43
        have na43 : Ow ndC 12 a43 w3.heap.size 47 (.slice (some ⟨a00.heap.size, 0, none⟩) 0 0) [] := OwnZ.mono hOa43 fa00.size
        repeat' (first | refine xldh rfl rfl (fun _ h => h.1) ?_ | refine xldh rfl rfl (fun _ h => h.2) ?_ | refine go1L ?_ | fail)
        refine gbr2 0 9 [3, 7, 8, 9, 10] [0, 3, 7, 8, 10] hR (by decide +kernel) rfl rfl rfl rfl ?_ ?_
        · skip
          repeat' (first | refine xldh rfl rfl (fun _ h => h.1) ?_ | refine xldh rfl rfl (fun _ h => h.2) ?_ | refine go1L ?_ | fail)
          refine xbz0 sl_ents (fun a44 hOa44 hEa44 hsa44 => ?_) (fun w' he => hH0 w' (fa43.t he))
          have fa44 : Ext w3 a44 := fa43.t hEa44
          have na44 := na43.ext hEa44
          have ea44 : Ow enC 2 a44 w3.heap.size 49 (.slice (some ⟨a43.heap.size, 0, none⟩) 0 0) [] := OwnZ.mono hOa44 fa43.size
          repeat' (first | refine xldh rfl rfl (fun _ h => h.1) ?_ | refine xldh rfl rfl (fun _ h => h.2) ?_ | refine go1L ?_ | fail)
          refine gbr2 3 9 [7, 8, 9, 10] [3, 7, 8, 10] hR (by decide +kernel) rfl rfl rfl rfl ?_ ?_
          · skip
            repeat' (first | refine xldh rfl rfl (fun _ h => h.1) ?_ | refine xldh rfl rfl (fun _ h => h.2) ?_ | refine go1L ?_ | fail)
            refine xapz (B := w3.heap.size) (news := (t.es).flatMap enC) sl_ents rfl (by decide) rfl ea44 rfl (hT3.e.ext fa44) (flat_len enC_len _) (enC_one _) (by simp only [List.length_nil]; unfold maxLen; omega) (by simp only [List.length_nil]; omega) fa44.size (fun va45 a45 hOa45 hFa45 _ => ?_) (fun w' hF => hH0 w' (fa44.trans hF fun j hj h => by have := (ea44.blk h).1; omega))
            have fa45 : Ext w3 a45 := fa44.trans hFa45 fun j hj h => by have := (ea44.blk h).1; omega
            have na45 := na44.fr hFa45 (fun b hb e => na44.apart ea44 (by decide) hb e)
            have ea45 : Ow enC 2 a45 w3.heap.size 49 va45 (t.es) := by have h := Ow.ext1 (cf := enC) (l := []) (l' := t.es) hOa45; rwa [List.nil_append] at h
            obtain ⟨AE, cE, rfl, _, _⟩ := ea45.form
            repeat' (first | refine xldh rfl rfl (fun _ h => h.1) ?_ | refine xldh rfl rfl (fun _ h => h.2) ?_ | refine go1L ?_ | fail)
            refine gbr2 7 9 [8, 9, 10] [7, 8, 10] hR (by decide +kernel) rfl rfl rfl rfl ?_ ?_
            · skip
              repeat' (first | refine xldh rfl rfl (fun _ h => h.1) ?_ | refine xldh rfl rfl (fun _ h => h.2) ?_ | refine go1L ?_ | fail)
              refine xapz (B := w3.heap.size) (news := (nvs).flatMap ndC) sl_nds rfl (by decide) rfl na45 rfl (hT3.n.ext fa45) (flat_len ndC_len _) (nd_one hT3) (by simp only [List.length_nil]; unfold maxLen; omega) (by simp only [List.length_nil]; omega) fa45.size (fun va46 a46 hOa46 hFa46 _ => ?_) (fun w' hF => hH0 w' (fa45.trans hF fun j hj h => by have := (na45.blk h).1; omega))
              have fa46 : Ext w3 a46 := fa45.trans hFa46 fun j hj h => by have := (na45.blk h).1; omega
              have ea46 := ea45.fr hFa46 (fun b hb e => ea45.apart na45 (by decide) hb e)
              have na46 : Ow ndC 12 a46 w3.heap.size 47 va46 (nvs) := by have h := Ow.ext1 (cf := ndC) (l := []) (l' := nvs) hOa46; rwa [List.nil_append] at h
              obtain ⟨AN, cN, rfl, _, _⟩ := na46.form
              repeat' (first | refine xldh rfl rfl (fun _ h => h.1) ?_ | refine xldh rfl rfl (fun _ h => h.2) ?_ | refine go1L ?_ | fail)
              refine grun [8, 9, 10] [] hR (by decide +kernel) (by decide +kernel) rfl ?_
              repeat' (first | refine xldh rfl rfl (fun _ h => h.1) ?_ | refine xldh rfl rfl (fun _ h => h.2) ?_ | refine go1L ?_ | fail)
              refine xbd (cells := #[.slice AE t.es.length cE, .slice AN nvs.length cN]) rfl (by kernel_rfl) ?_
              repeat' (first | refine xldh rfl rfl (fun _ h => h.1) ?_ | refine xldh rfl rfl (fun _ h => h.2) ?_ | refine go1L ?_ | fail)
              refine xalloc (z := .agg #[.slice none 0 0, .slice none 0 0]) (by kernel_rfl) (fun a48 hBa48 hEa48 hsa48 => ?_) (fun w' he => hH0 w' (fa46.t he))
              have fa48 : Ext w3 a48 := fa46.t hEa48
              have ea48 := ea46.ext hEa48
              have na48 := na46.ext hEa48
              have ba48 : Blk a48 a46.heap.size 25 #[.slice none 0 0, .slice none 0 0] := hBa48
              have ga46 := fa46.size
              repeat' (first | refine xldh rfl rfl (fun _ h => h.1) ?_ | refine xldh rfl rfl (fun _ h => h.2) ?_ | refine go1L ?_ | fail)
              refine xsta ba48 rfl rfl (by kernel_rfl) rfl (one_cells (l := [.slice AE t.es.length cE, .slice AN nvs.length cN]) rfl) (fun a49 hBa49 hFa49 => ?_) (fun w' hF => hH0 w' (hN fa48 hF ga46))
              have hfin : SpK t nvs g7 w3 (.slice AE t.es.length cE, .slice AN nvs.length cN, a46.heap.size) a49 := ⟨hN fa48 hFa49 ga46, hBa49, ea48.fr hFa49 (fun b hb e => by obtain ⟨cs, hc⟩ := ea48.typ hb; exact hc.ne_ ba48 (by decide) e), na48.fr hFa49 (fun b hb e => by obtain ⟨cs, hc⟩ := na48.typ hb; exact hc.ne_ ba48 (by decide) e), ga46⟩
              repeat' (first | refine xldh rfl rfl (fun _ h => h.1) ?_ | refine xldh rfl rfl (fun _ h => h.2) ?_ | refine go1L ?_ | fail)
              refine xg_end ?_
              exact tfin ⟨(.slice AE t.es.length cE, .slice AN nvs.length cN, a46.heap.size), sub ⟨rfl, rfl, rfl, rfl⟩, hfin⟩
            · skip
              repeat' (first | refine xldh rfl rfl (fun _ h => h.1) ?_ | refine xldh rfl rfl (fun _ h => h.2) ?_ | refine go1L ?_ | fail)
              refine xalloc (z := .agg #[.slice none 0 0, .slice none 0 0]) (by kernel_rfl) (fun a50 hBa50 hEa50 hsa50 => ?_) (fun w' he => hH0 w' (fa45.t he))
              have fa50 : Ext w3 a50 := fa45.t hEa50
              have ea50 := ea45.ext hEa50
              have na50 := na45.ext hEa50
              have ba50 : Blk a50 a45.heap.size 25 #[.slice none 0 0, .slice none 0 0] := hBa50
              have ga45 := fa45.size
              repeat' (first | refine xldh rfl rfl (fun _ h => h.1) ?_ | refine xldh rfl rfl (fun _ h => h.2) ?_ | refine go1L ?_ | fail)
              refine grun [7, 8, 10] [] hR (by decide +kernel) (by decide +kernel) rfl ?_
              repeat' (first | refine xldh rfl rfl (fun _ h => h.1) ?_ | refine xldh rfl rfl (fun _ h => h.2) ?_ | refine go1L ?_ | fail)
              refine xapz (B := w3.heap.size) (news := (nvs).flatMap ndC) sl_nds rfl (by decide) rfl na50 rfl (hT3.n.ext fa50) (flat_len ndC_len _) (nd_one hT3) (by simp only [List.length_nil]; unfold maxLen; omega) (by simp only [List.length_nil]; omega) fa50.size (fun va51 a51 hOa51 hFa51 _ => ?_) (fun w' hF => hH0 w' (fa50.trans hF fun j hj h => by have := (na50.blk h).1; omega))
              have fa51 : Ext w3 a51 := fa50.trans hFa51 fun j hj h => by have := (na50.blk h).1; omega
              have ea51 := ea50.fr hFa51 (fun b hb e => ea50.apart na50 (by decide) hb e)
              have ba51 := Blk.fr ba50 hFa51 (fun e => by obtain ⟨cs, hc⟩ := na50.typ e; exact hc.ne_ ba50 (by decide) rfl)
              have na51 : Ow ndC 12 a51 w3.heap.size 47 va51 (nvs) := by have h := Ow.ext1 (cf := ndC) (l := []) (l' := nvs) hOa51; rwa [List.nil_append] at h
              obtain ⟨AN, cN, rfl, _, _⟩ := na51.form
              repeat' (first | refine xldh rfl rfl (fun _ h => h.1) ?_ | refine xldh rfl rfl (fun _ h => h.2) ?_ | refine go1L ?_ | fail)
              refine xbd (cells := #[.slice AE t.es.length cE, .slice AN nvs.length cN]) rfl (by kernel_rfl) ?_
              repeat' (first | refine xldh rfl rfl (fun _ h => h.1) ?_ | refine xldh rfl rfl (fun _ h => h.2) ?_ | refine go1L ?_ | fail)
              refine xsta ba51 rfl rfl (by kernel_rfl) rfl (one_cells (l := [.slice AE t.es.length cE, .slice AN nvs.length cN]) rfl) (fun a53 hBa53 hFa53 => ?_) (fun w' hF => hH0 w' (hN fa51 hF ga45))
              have hfin : SpK t nvs g7 w3 (.slice AE t.es.length cE, .slice AN nvs.length cN, a45.heap.size) a53 := ⟨hN fa51 hFa53 ga45, hBa53, ea51.fr hFa53 (fun b hb e => by obtain ⟨cs, hc⟩ := ea51.typ hb; exact hc.ne_ ba51 (by decide) e), na51.fr hFa53 (fun b hb e => by obtain ⟨cs, hc⟩ := na51.typ hb; exact hc.ne_ ba51 (by decide) e), ga45⟩
              repeat' (first | refine xldh rfl rfl (fun _ h => h.1) ?_ | refine xldh rfl rfl (fun _ h => h.2) ?_ | refine go1L ?_ | fail)
              refine xg_end ?_
              exact tfin ⟨(.slice AE t.es.length cE, .slice AN nvs.length cN, a45.heap.size), sub ⟨rfl, rfl, rfl, rfl⟩, hfin⟩
          · skip
            repeat' (first | refine xldh rfl rfl (fun _ h => h.1) ?_ | refine xldh rfl rfl (fun _ h => h.2) ?_ | refine go1L ?_ | fail)
            refine xalloc (z := .agg #[.slice none 0 0, .slice none 0 0]) (by kernel_rfl) (fun a54 hBa54 hEa54 hsa54 => ?_) (fun w' he => hH0 w' (fa44.t he))
            have fa54 : Ext w3 a54 := fa44.t hEa54
            have ea54 := ea44.ext hEa54
            have na54 := na44.ext hEa54
            have ba54 : Blk a54 a44.heap.size 25 #[.slice none 0 0, .slice none 0 0] := hBa54
            have ga44 := fa44.size
            repeat' (first | refine xldh rfl rfl (fun _ h => h.1) ?_ | refine xldh rfl rfl (fun _ h => h.2) ?_ | refine go1L ?_ | fail)
            refine grun [3, 7, 8, 10] [] hR (by decide +kernel) (by decide +kernel) rfl ?_
            repeat' (first | refine xldh rfl rfl (fun _ h => h.1) ?_ | refine xldh rfl rfl (fun _ h => h.2) ?_ | refine go1L ?_ | fail)
            refine xapz (B := w3.heap.size) (news := (t.es).flatMap enC) sl_ents rfl (by decide) rfl ea54 rfl (hT3.e.ext fa54) (flat_len enC_len _) (enC_one _) (by simp only [List.length_nil]; unfold maxLen; omega) (by simp only [List.length_nil]; omega) fa54.size (fun va55 a55 hOa55 hFa55 _ => ?_) (fun w' hF => hH0 w' (fa54.trans hF fun j hj h => by have := (ea54.blk h).1; omega))
            have fa55 : Ext w3 a55 := fa54.trans hFa55 fun j hj h => by have := (ea54.blk h).1; omega
            have na55 := na54.fr hFa55 (fun b hb e => na54.apart ea54 (by decide) hb e)
            have ba55 := Blk.fr ba54 hFa55 (fun e => by obtain ⟨cs, hc⟩ := ea54.typ e; exact hc.ne_ ba54 (by decide) rfl)
            have ea55 : Ow enC 2 a55 w3.heap.size 49 va55 (t.es) := by have h := Ow.ext1 (cf := enC) (l := []) (l' := t.es) hOa55; rwa [List.nil_append] at h
            obtain ⟨AE, cE, rfl, _, _⟩ := ea55.form
            repeat' (first | refine xldh rfl rfl (fun _ h => h.1) ?_ | refine xldh rfl rfl (fun _ h => h.2) ?_ | refine go1L ?_ | fail)
            refine xapz (B := w3.heap.size) (news := (nvs).flatMap ndC) sl_nds rfl (by decide) rfl na55 rfl (hT3.n.ext fa55) (flat_len ndC_len _) (nd_one hT3) (by simp only [List.length_nil]; unfold maxLen; omega) (by simp only [List.length_nil]; omega) fa55.size (fun va56 a56 hOa56 hFa56 _ => ?_) (fun w' hF => hH0 w' (fa55.trans hF fun j hj h => by have := (na55.blk h).1; omega))
            have fa56 : Ext w3 a56 := fa55.trans hFa56 fun j hj h => by have := (na55.blk h).1; omega
            have ea56 := ea55.fr hFa56 (fun b hb e => ea55.apart na55 (by decide) hb e)
            have ba56 := Blk.fr ba55 hFa56 (fun e => by obtain ⟨cs, hc⟩ := na55.typ e; exact hc.ne_ ba55 (by decide) rfl)
            have na56 : Ow ndC 12 a56 w3.heap.size 47 va56 (nvs) := by have h := Ow.ext1 (cf := ndC) (l := []) (l' := nvs) hOa56; rwa [List.nil_append] at h
            obtain ⟨AN, cN, rfl, _, _⟩ := na56.form
            repeat' (first | refine xldh rfl rfl (fun _ h => h.1) ?_ | refine xldh rfl rfl (fun _ h => h.2) ?_ | refine go1L ?_ | fail)
            refine xbd (cells := #[.slice AE t.es.length cE, .slice AN nvs.length cN]) rfl (by kernel_rfl) ?_
            repeat' (first | refine xldh rfl rfl (fun _ h => h.1) ?_ | refine xldh rfl rfl (fun _ h => h.2) ?_ | refine go1L ?_ | fail)
            refine xsta ba56 rfl rfl (by kernel_rfl) rfl (one_cells (l := [.slice AE t.es.length cE, .slice AN nvs.length cN]) rfl) (fun a58 hBa58 hFa58 => ?_) (fun w' hF => hH0 w' (hN fa56 hF ga44))
            have hfin : SpK t nvs g7 w3 (.slice AE t.es.length cE, .slice AN nvs.length cN, a44.heap.size) a58 := ⟨hN fa56 hFa58 ga44, hBa58, ea56.fr hFa58 (fun b hb e => by obtain ⟨cs, hc⟩ := ea56.typ hb; exact hc.ne_ ba56 (by decide) e), na56.fr hFa58 (fun b hb e => by obtain ⟨cs, hc⟩ := na56.typ hb; exact hc.ne_ ba56 (by decide) e), ga44⟩
            repeat' (first | refine xldh rfl rfl (fun _ h => h.1) ?_ | refine xldh rfl rfl (fun _ h => h.2) ?_ | refine go1L ?_ | fail)
            refine xg_end ?_
            exact tfin ⟨(.slice AE t.es.length cE, .slice AN nvs.length cN, a44.heap.size), sub ⟨rfl, rfl, rfl, rfl⟩, hfin⟩
        · skip
          repeat' (first | refine xldh rfl rfl (fun _ h => h.1) ?_ | refine xldh rfl rfl (fun _ h => h.2) ?_ | refine go1L ?_ | fail)
          refine xalloc (z := .agg #[.slice none 0 0, .slice none 0 0]) (by kernel_rfl) (fun a59 hBa59 hEa59 hsa59 => ?_) (fun w' he => hH0 w' (fa43.t he))
          have fa59 : Ext w3 a59 := fa43.t hEa59
          have na59 := na43.ext hEa59
          have ba59 : Blk a59 a43.heap.size 25 #[.slice none 0 0, .slice none 0 0] := hBa59
          have ga43 := fa43.size
          repeat' (first | refine xldh rfl rfl (fun _ h => h.1) ?_ | refine xldh rfl rfl (fun _ h => h.2) ?_ | refine go1L ?_ | fail)
          refine grun [0, 3, 7, 8, 10] [] hR (by decide +kernel) (by decide +kernel) rfl ?_
          repeat' (first | refine xldh rfl rfl (fun _ h => h.1) ?_ | refine xldh rfl rfl (fun _ h => h.2) ?_ | refine go1L ?_ | fail)
          refine xbz0 sl_ents (fun a60 hOa60 hEa60 hsa60 => ?_) (fun w' he => hH0 w' (fa59.t he))
          have fa60 : Ext w3 a60 := fa59.t hEa60
          have na60 := na59.ext hEa60
          have ba60 := Blk.ext ba59 hEa60
          have ea60 : Ow enC 2 a60 w3.heap.size 49 (.slice (some ⟨a59.heap.size, 0, none⟩) 0 0) [] := OwnZ.mono hOa60 fa59.size
          repeat' (first | refine xldh rfl rfl (fun _ h => h.1) ?_ | refine xldh rfl rfl (fun _ h => h.2) ?_ | refine go1L ?_ | fail)
          refine xapz (B := w3.heap.size) (news := (t.es).flatMap enC) sl_ents rfl (by decide) rfl ea60 rfl (hT3.e.ext fa60) (flat_len enC_len _) (enC_one _) (by simp only [List.length_nil]; unfold maxLen; omega) (by simp only [List.length_nil]; omega) fa60.size (fun va61 a61 hOa61 hFa61 _ => ?_) (fun w' hF => hH0 w' (fa60.trans hF fun j hj h => by have := (ea60.blk h).1; omega))
          have fa61 : Ext w3 a61 := fa60.trans hFa61 fun j hj h => by have := (ea60.blk h).1; omega
          have na61 := na60.fr hFa61 (fun b hb e => na60.apart ea60 (by decide) hb e)
          have ba61 := Blk.fr ba60 hFa61 (fun e => by obtain ⟨cs, hc⟩ := ea60.typ e; exact hc.ne_ ba60 (by decide) rfl)
          have ea61 : Ow enC 2 a61 w3.heap.size 49 va61 (t.es) := by have h := Ow.ext1 (cf := enC) (l := []) (l' := t.es) hOa61; rwa [List.nil_append] at h
          obtain ⟨AE, cE, rfl, _, _⟩ := ea61.form
          repeat' (first | refine xldh rfl rfl (fun _ h => h.1) ?_ | refine xldh rfl rfl (fun _ h => h.2) ?_ | refine go1L ?_ | fail)
          refine xapz (B := w3.heap.size) (news := (nvs).flatMap ndC) sl_nds rfl (by decide) rfl na61 rfl (hT3.n.ext fa61) (flat_len ndC_len _) (nd_one hT3) (by simp only [List.length_nil]; unfold maxLen; omega) (by simp only [List.length_nil]; omega) fa61.size (fun va62 a62 hOa62 hFa62 _ => ?_) (fun w' hF => hH0 w' (fa61.trans hF fun j hj h => by have := (na61.blk h).1; omega))
          have fa62 : Ext w3 a62 := fa61.trans hFa62 fun j hj h => by have := (na61.blk h).1; omega
          have ea62 := ea61.fr hFa62 (fun b hb e => ea61.apart na61 (by decide) hb e)
          have ba62 := Blk.fr ba61 hFa62 (fun e => by obtain ⟨cs, hc⟩ := na61.typ e; exact hc.ne_ ba61 (by decide) rfl)
          have na62 : Ow ndC 12 a62 w3.heap.size 47 va62 (nvs) := by have h := Ow.ext1 (cf := ndC) (l := []) (l' := nvs) hOa62; rwa [List.nil_append] at h
          obtain ⟨AN, cN, rfl, _, _⟩ := na62.form
          repeat' (first | refine xldh rfl rfl (fun _ h => h.1) ?_ | refine xldh rfl rfl (fun _ h => h.2) ?_ | refine go1L ?_ | fail)
          refine xbd (cells := #[.slice AE t.es.length cE, .slice AN nvs.length cN]) rfl (by kernel_rfl) ?_
          repeat' (first | refine xldh rfl rfl (fun _ h => h.1) ?_ | refine xldh rfl rfl (fun _ h => h.2) ?_ | refine go1L ?_ | fail)
          refine xsta ba62 rfl rfl (by kernel_rfl) rfl (one_cells (l := [.slice AE t.es.length cE, .slice AN nvs.length cN]) rfl) (fun a64 hBa64 hFa64 => ?_) (fun w' hF => hH0 w' (hN fa62 hF ga43))
          have hfin : SpK t nvs g7 w3 (.slice AE t.es.length cE, .slice AN nvs.length cN, a43.heap.size) a64 := ⟨hN fa62 hFa64 ga43, hBa64, ea62.fr hFa64 (fun b hb e => by obtain ⟨cs, hc⟩ := ea62.typ hb; exact hc.ne_ ba62 (by decide) e), na62.fr hFa64 (fun b hb e => by obtain ⟨cs, hc⟩ := na62.typ hb; exact hc.ne_ ba62 (by decide) e), ga43⟩
          repeat' (first | refine xldh rfl rfl (fun _ h => h.1) ?_ | refine xldh rfl rfl (fun _ h => h.2) ?_ | refine go1L ?_ | fail)
          refine xg_end ?_
          exact tfin ⟨(.slice AE t.es.length cE, .slice AN nvs.length cN, a43.heap.size), sub ⟨rfl, rfl, rfl, rfl⟩, hfin⟩
      · skip
        repeat' (first | refine xldh rfl rfl (fun _ h => h.1) ?_ | refine xldh rfl rfl (fun _ h => h.2) ?_ | refine go1L ?_ | fail)
        refine xalloc (z := .agg #[.slice none 0 0, .slice none 0 0]) (by kernel_rfl) (fun a65 hBa65 hEa65 hsa65 => ?_) (fun w' he => hH0 w' (fa00.t he))
        have fa65 : Ext w3 a65 := fa00.t hEa65
        have ba65 : Blk a65 a00.heap.size 25 #[.slice none 0 0, .slice none 0 0] := hBa65
        have ga00 := fa00.size
        repeat' (first | refine xldh rfl rfl (fun _ h => h.1) ?_ | refine xldh rfl rfl (fun _ h => h.2) ?_ | refine go1L ?_ | fail)
        refine gbr2 0 4 [3, 4, 7, 8, 10] [0, 3, 7, 8, 10] hR (by decide +kernel) rfl rfl rfl rfl ?_ ?_
        · skip
          repeat' (first | refine xldh rfl rfl (fun _ h => h.1) ?_ | refine xldh rfl rfl (fun _ h => h.2) ?_ | refine go1L ?_ | fail)
          refine xbz0 sl_ents (fun a66 hOa66 hEa66 hsa66 => ?_) (fun w' he => hH0 w' (fa65.t he))
          have fa66 : Ext w3 a66 := fa65.t hEa66
          have ba66 := Blk.ext ba65 hEa66
          have ea66 : Ow enC 2 a66 w3.heap.size 49 (.slice (some ⟨a65.heap.size, 0, none⟩) 0 0) [] := OwnZ.mono hOa66 fa65.size
          repeat' (first | refine xldh rfl rfl (fun _ h => h.1) ?_ | refine xldh rfl rfl (fun _ h => h.2) ?_ | refine go1L ?_ | fail)
          refine gbr2 3 4 [4, 7, 8, 10] [3, 7, 8, 10] hR (by decide +kernel) rfl rfl rfl rfl ?_ ?_
          · skip
            repeat' (first | refine xldh rfl rfl (fun _ h => h.1) ?_ | refine xldh rfl rfl (fun _ h => h.2) ?_ | refine go1L ?_ | fail)
            refine xapz (B := w3.heap.size) (news := (t.es).flatMap enC) sl_ents rfl (by decide) rfl ea66 rfl (hT3.e.ext fa66) (flat_len enC_len _) (enC_one _) (by simp only [List.length_nil]; unfold maxLen; omega) (by simp only [List.length_nil]; omega) fa66.size (fun va67 a67 hOa67 hFa67 _ => ?_) (fun w' hF => hH0 w' (fa66.trans hF fun j hj h => by have := (ea66.blk h).1; omega))
            have fa67 : Ext w3 a67 := fa66.trans hFa67 fun j hj h => by have := (ea66.blk h).1; omega
            have ba67 := Blk.fr ba66 hFa67 (fun e => by obtain ⟨cs, hc⟩ := ea66.typ e; exact hc.ne_ ba66 (by decide) rfl)
            have ea67 : Ow enC 2 a67 w3.heap.size 49 va67 (t.es) := by have h := Ow.ext1 (cf := enC) (l := []) (l' := t.es) hOa67; rwa [List.nil_append] at h
            obtain ⟨AE, cE, rfl, _, _⟩ := ea67.form
            repeat' (first | refine xldh rfl rfl (fun _ h => h.1) ?_ | refine xldh rfl rfl (fun _ h => h.2) ?_ | refine go1L ?_ | fail)
            refine grun [4, 7, 8, 10] [] hR (by decide +kernel) (by decide +kernel) rfl ?_
            repeat' (first | refine xldh rfl rfl (fun _ h => h.1) ?_ | refine xldh rfl rfl (fun _ h => h.2) ?_ | refine go1L ?_ | fail)
            refine xbz0 sl_nds (fun a68 hOa68 hEa68 hsa68 => ?_) (fun w' he => hH0 w' (fa67.t he))
            have fa68 : Ext w3 a68 := fa67.t hEa68
            have ea68 := ea67.ext hEa68
            have ba68 := Blk.ext ba67 hEa68
            have na68 : Ow ndC 12 a68 w3.heap.size 47 (.slice (some ⟨a67.heap.size, 0, none⟩) 0 0) [] := OwnZ.mono hOa68 fa67.size
            repeat' (first | refine xldh rfl rfl (fun _ h => h.1) ?_ | refine xldh rfl rfl (fun _ h => h.2) ?_ | refine go1L ?_ | fail)
            refine xapz (B := w3.heap.size) (news := (nvs).flatMap ndC) sl_nds rfl (by decide) rfl na68 rfl (hT3.n.ext fa68) (flat_len ndC_len _) (nd_one hT3) (by simp only [List.length_nil]; unfold maxLen; omega) (by simp only [List.length_nil]; omega) fa68.size (fun va69 a69 hOa69 hFa69 _ => ?_) (fun w' hF => hH0 w' (fa68.trans hF fun j hj h => by have := (na68.blk h).1; omega))
            have fa69 : Ext w3 a69 := fa68.trans hFa69 fun j hj h => by have := (na68.blk h).1; omega
            have ea69 := ea68.fr hFa69 (fun b hb e => ea68.apart na68 (by decide) hb e)
            have ba69 := Blk.fr ba68 hFa69 (fun e => by obtain ⟨cs, hc⟩ := na68.typ e; exact hc.ne_ ba68 (by decide) rfl)
            have na69 : Ow ndC 12 a69 w3.heap.size 47 va69 (nvs) := by have h := Ow.ext1 (cf := ndC) (l := []) (l' := nvs) hOa69; rwa [List.nil_append] at h
            obtain ⟨AN, cN, rfl, _, _⟩ := na69.form
            repeat' (first | refine xldh rfl rfl (fun _ h => h.1) ?_ | refine xldh rfl rfl (fun _ h => h.2) ?_ | refine go1L ?_ | fail)
            refine xbd (cells := #[.slice AE t.es.length cE, .slice AN nvs.length cN]) rfl (by kernel_rfl) ?_
            repeat' (first | refine xldh rfl rfl (fun _ h => h.1) ?_ | refine xldh rfl rfl (fun _ h => h.2) ?_ | refine go1L ?_ | fail)
            refine xsta ba69 rfl rfl (by kernel_rfl) rfl (one_cells (l := [.slice AE t.es.length cE, .slice AN nvs.length cN]) rfl) (fun a71 hBa71 hFa71 => ?_) (fun w' hF => hH0 w' (hN fa69 hF ga00))
            have hfin : SpK t nvs g7 w3 (.slice AE t.es.length cE, .slice AN nvs.length cN, a00.heap.size) a71 := ⟨hN fa69 hFa71 ga00, hBa71, ea69.fr hFa71 (fun b hb e => by obtain ⟨cs, hc⟩ := ea69.typ hb; exact hc.ne_ ba69 (by decide) e), na69.fr hFa71 (fun b hb e => by obtain ⟨cs, hc⟩ := na69.typ hb; exact hc.ne_ ba69 (by decide) e), ga00⟩
            repeat' (first | refine xldh rfl rfl (fun _ h => h.1) ?_ | refine xldh rfl rfl (fun _ h => h.2) ?_ | refine go1L ?_ | fail)
            refine xg_end ?_
            exact tfin ⟨(.slice AE t.es.length cE, .slice AN nvs.length cN, a00.heap.size), sub ⟨rfl, rfl, rfl, rfl⟩, hfin⟩
          · skip
            repeat' (first | refine xldh rfl rfl (fun _ h => h.1) ?_ | refine xldh rfl rfl (fun _ h => h.2) ?_ | refine go1L ?_ | fail)
            refine xbz0 sl_nds (fun a72 hOa72 hEa72 hsa72 => ?_) (fun w' he => hH0 w' (fa66.t he))
            have fa72 : Ext w3 a72 := fa66.t hEa72
            have ea72 := ea66.ext hEa72
            have ba72 := Blk.ext ba66 hEa72
            have na72 : Ow ndC 12 a72 w3.heap.size 47 (.slice (some ⟨a66.heap.size, 0, none⟩) 0 0) [] := OwnZ.mono hOa72 fa66.size
            repeat' (first | refine xldh rfl rfl (fun _ h => h.1) ?_ | refine xldh rfl rfl (fun _ h => h.2) ?_ | refine go1L ?_ | fail)
            refine grun [3, 7, 8, 10] [] hR (by decide +kernel) (by decide +kernel) rfl ?_
            repeat' (first | refine xldh rfl rfl (fun _ h => h.1) ?_ | refine xldh rfl rfl (fun _ h => h.2) ?_ | refine go1L ?_ | fail)
            refine xapz (B := w3.heap.size) (news := (t.es).flatMap enC) sl_ents rfl (by decide) rfl ea72 rfl (hT3.e.ext fa72) (flat_len enC_len _) (enC_one _) (by simp only [List.length_nil]; unfold maxLen; omega) (by simp only [List.length_nil]; omega) fa72.size (fun va73 a73 hOa73 hFa73 _ => ?_) (fun w' hF => hH0 w' (fa72.trans hF fun j hj h => by have := (ea72.blk h).1; omega))
            have fa73 : Ext w3 a73 := fa72.trans hFa73 fun j hj h => by have := (ea72.blk h).1; omega
            have na73 := na72.fr hFa73 (fun b hb e => na72.apart ea72 (by decide) hb e)
            have ba73 := Blk.fr ba72 hFa73 (fun e => by obtain ⟨cs, hc⟩ := ea72.typ e; exact hc.ne_ ba72 (by decide) rfl)
            have ea73 : Ow enC 2 a73 w3.heap.size 49 va73 (t.es) := by have h := Ow.ext1 (cf := enC) (l := []) (l' := t.es) hOa73; rwa [List.nil_append] at h
            obtain ⟨AE, cE, rfl, _, _⟩ := ea73.form
            repeat' (first | refine xldh rfl rfl (fun _ h => h.1) ?_ | refine xldh rfl rfl (fun _ h => h.2) ?_ | refine go1L ?_ | fail)
            refine xapz (B := w3.heap.size) (news := (nvs).flatMap ndC) sl_nds rfl (by decide) rfl na73 rfl (hT3.n.ext fa73) (flat_len ndC_len _) (nd_one hT3) (by simp only [List.length_nil]; unfold maxLen; omega) (by simp only [List.length_nil]; omega) fa73.size (fun va74 a74 hOa74 hFa74 _ => ?_) (fun w' hF => hH0 w' (fa73.trans hF fun j hj h => by have := (na73.blk h).1; omega))
            have fa74 : Ext w3 a74 := fa73.trans hFa74 fun j hj h => by have := (na73.blk h).1; omega
            have ea74 := ea73.fr hFa74 (fun b hb e => ea73.apart na73 (by decide) hb e)
            have ba74 := Blk.fr ba73 hFa74 (fun e => by obtain ⟨cs, hc⟩ := na73.typ e; exact hc.ne_ ba73 (by decide) rfl)
            have na74 : Ow ndC 12 a74 w3.heap.size 47 va74 (nvs) := by have h := Ow.ext1 (cf := ndC) (l := []) (l' := nvs) hOa74; rwa [List.nil_append] at h
            obtain ⟨AN, cN, rfl, _, _⟩ := na74.form
            repeat' (first | refine xldh rfl rfl (fun _ h => h.1) ?_ | refine xldh rfl rfl (fun _ h => h.2) ?_ | refine go1L ?_ | fail)
            refine xbd (cells := #[.slice AE t.es.length cE, .slice AN nvs.length cN]) rfl (by kernel_rfl) ?_
            repeat' (first | refine xldh rfl rfl (fun _ h => h.1) ?_ | refine xldh rfl rfl (fun _ h => h.2) ?_ | refine go1L ?_ | fail)
            refine xsta ba74 rfl rfl (by kernel_rfl) rfl (one_cells (l := [.slice AE t.es.length cE, .slice AN nvs.length cN]) rfl) (fun a76 hBa76 hFa76 => ?_) (fun w' hF => hH0 w' (hN fa74 hF ga00))
            have hfin : SpK t nvs g7 w3 (.slice AE t.es.length cE, .slice AN nvs.length cN, a00.heap.size) a76 := ⟨hN fa74 hFa76 ga00, hBa76, ea74.fr hFa76 (fun b hb e => by obtain ⟨cs, hc⟩ := ea74.typ hb; exact hc.ne_ ba74 (by decide) e), na74.fr hFa76 (fun b hb e => by obtain ⟨cs, hc⟩ := na74.typ hb; exact hc.ne_ ba74 (by decide) e), ga00⟩
            repeat' (first | refine xldh rfl rfl (fun _ h => h.1) ?_ | refine xldh rfl rfl (fun _ h => h.2) ?_ | refine go1L ?_ | fail)
            refine xg_end ?_
            exact tfin ⟨(.slice AE t.es.length cE, .slice AN nvs.length cN, a00.heap.size), sub ⟨rfl, rfl, rfl, rfl⟩, hfin⟩
        · skip
          repeat' (first | refine xldh rfl rfl (fun _ h => h.1) ?_ | refine xldh rfl rfl (fun _ h => h.2) ?_ | refine go1L ?_ | fail)
          refine xbz0 sl_nds (fun a77 hOa77 hEa77 hsa77 => ?_) (fun w' he => hH0 w' (fa65.t he))
          have fa77 : Ext w3 a77 := fa65.t hEa77
          have ba77 := Blk.ext ba65 hEa77
          have na77 : Ow ndC 12 a77 w3.heap.size 47 (.slice (some ⟨a65.heap.size, 0, none⟩) 0 0) [] := OwnZ.mono hOa77 fa65.size
          repeat' (first | refine xldh rfl rfl (fun _ h => h.1) ?_ | refine xldh rfl rfl (fun _ h => h.2) ?_ | refine go1L ?_ | fail)
          refine grun [0, 3, 7, 8, 10] [] hR (by decide +kernel) (by decide +kernel) rfl ?_
          repeat' (first | refine xldh rfl rfl (fun _ h => h.1) ?_ | refine xldh rfl rfl (fun _ h => h.2) ?_ | refine go1L ?_ | fail)
          refine xbz0 sl_ents (fun a78 hOa78 hEa78 hsa78 => ?_) (fun w' he => hH0 w' (fa77.t he))
          have fa78 : Ext w3 a78 := fa77.t hEa78
          have na78 := na77.ext hEa78
          have ba78 := Blk.ext ba77 hEa78
          have ea78 : Ow enC 2 a78 w3.heap.size 49 (.slice (some ⟨a77.heap.size, 0, none⟩) 0 0) [] := OwnZ.mono hOa78 fa77.size
          repeat' (first | refine xldh rfl rfl (fun _ h => h.1) ?_ | refine xldh rfl rfl (fun _ h => h.2) ?_ | refine go1L ?_ | fail)
          refine xapz (B := w3.heap.size) (news := (t.es).flatMap enC) sl_ents rfl (by decide) rfl ea78 rfl (hT3.e.ext fa78) (flat_len enC_len _) (enC_one _) (by simp only [List.length_nil]; unfold maxLen; omega) (by simp only [List.length_nil]; omega) fa78.size (fun va79 a79 hOa79 hFa79 _ => ?_) (fun w' hF => hH0 w' (fa78.trans hF fun j hj h => by have := (ea78.blk h).1; omega))
          have fa79 : Ext w3 a79 := fa78.trans hFa79 fun j hj h => by have := (ea78.blk h).1; omega
          have na79 := na78.fr hFa79 (fun b hb e => na78.apart ea78 (by decide) hb e)
          have ba79 := Blk.fr ba78 hFa79 (fun e => by obtain ⟨cs, hc⟩ := ea78.typ e; exact hc.ne_ ba78 (by decide) rfl)
          have ea79 : Ow enC 2 a79 w3.heap.size 49 va79 (t.es) := by have h := Ow.ext1 (cf := enC) (l := []) (l' := t.es) hOa79; rwa [List.nil_append] at h
          obtain ⟨AE, cE, rfl, _, _⟩ := ea79.form
          repeat' (first | refine xldh rfl rfl (fun _ h => h.1) ?_ | refine xldh rfl rfl (fun _ h => h.2) ?_ | refine go1L ?_ | fail)
          refine xapz (B := w3.heap.size) (news := (nvs).flatMap ndC) sl_nds rfl (by decide) rfl na79 rfl (hT3.n.ext fa79) (flat_len ndC_len _) (nd_one hT3) (by simp only [List.length_nil]; unfold maxLen; omega) (by simp only [List.length_nil]; omega) fa79.size (fun va80 a80 hOa80 hFa80 _ => ?_) (fun w' hF => hH0 w' (fa79.trans hF fun j hj h => by have := (na79.blk h).1; omega))
          have fa80 : Ext w3 a80 := fa79.trans hFa80 fun j hj h => by have := (na79.blk h).1; omega
          have ea80 := ea79.fr hFa80 (fun b hb e => ea79.apart na79 (by decide) hb e)
          have ba80 := Blk.fr ba79 hFa80 (fun e => by obtain ⟨cs, hc⟩ := na79.typ e; exact hc.ne_ ba79 (by decide) rfl)
          have na80 : Ow ndC 12 a80 w3.heap.size 47 va80 (nvs) := by have h := Ow.ext1 (cf := ndC) (l := []) (l' := nvs) hOa80; rwa [List.nil_append] at h
          obtain ⟨AN, cN, rfl, _, _⟩ := na80.form
          repeat' (first | refine xldh rfl rfl (fun _ h => h.1) ?_ | refine xldh rfl rfl (fun _ h => h.2) ?_ | refine go1L ?_ | fail)
          refine xbd (cells := #[.slice AE t.es.length cE, .slice AN nvs.length cN]) rfl (by kernel_rfl) ?_
          repeat' (first | refine xldh rfl rfl (fun _ h => h.1) ?_ | refine xldh rfl rfl (fun _ h => h.2) ?_ | refine go1L ?_ | fail)
          refine xsta ba80 rfl rfl (by kernel_rfl) rfl (one_cells (l := [.slice AE t.es.length cE, .slice AN nvs.length cN]) rfl) (fun a82 hBa82 hFa82 => ?_) (fun w' hF => hH0 w' (hN fa80 hF ga00))
          have hfin : SpK t nvs g7 w3 (.slice AE t.es.length cE, .slice AN nvs.length cN, a00.heap.size) a82 := ⟨hN fa80 hFa82 ga00, hBa82, ea80.fr hFa82 (fun b hb e => by obtain ⟨cs, hc⟩ := ea80.typ hb; exact hc.ne_ ba80 (by decide) e), na80.fr hFa82 (fun b hb e => by obtain ⟨cs, hc⟩ := na80.typ hb; exact hc.ne_ ba80 (by decide) e), ga00⟩
          repeat' (first | refine xldh rfl rfl (fun _ h => h.1) ?_ | refine xldh rfl rfl (fun _ h => h.2) ?_ | refine go1L ?_ | fail)
          refine xg_end ?_
          exact tfin ⟨(.slice AE t.es.length cE, .slice AN nvs.length cN, a00.heap.size), sub ⟨rfl, rfl, rfl, rfl⟩, hfin⟩
  rintro ⟨vE, vN, g8⟩ w4 ⟨hE4, hB4, he4, hn4, hg8⟩
  dsimp only at hB4 he4 hn4 hg8 ⊢
  have he4' := he4
  have hn4' := hn4
  obtain ⟨AE, cE, rfl, _, _⟩ := he4.form
  obtain ⟨AN, cN, rfl, _, _⟩ := hn4.form
  obtain ⟨ik, hik⟩ : ∃ ik, ik = uN zb % t.es.length := ⟨_, rfl⟩
  have hikl : ik < t.es.length := hik ▸ Nat.mod_lt _ hone
  have hki : ((uN zb : Nat) : Int) % (t.es.length : Int) = (ik : Int) := by rw [hik]; exact (Int.natCast_emod ..).symm
  have hua := uN_lt za
  have hub := uN_lt zb
  obtain ⟨q4, hq4⟩ : ∃ q4, uN za % 4 = q4 := ⟨_, rfl⟩
  have hqi : ((uN za : Nat) : Int) % 4 = (q4 : Int) := by rw [← hq4, Int.natCast_emod]; rfl
  have hql : q4 < 4 := hq4 ▸ Nat.mod_lt _ (by decide)
  have k0 : w4.cell? ⟨g8, 0, none⟩ = some (.slice AE t.es.length cE) := hB4.cell 0
  have k1 : w4.cell? ⟨g8, 1, none⟩ = some (.slice AN nvs.length cN) := hB4.cell 1
  have hTm : ∀ w', Ext w3 w' → ∀ (vE : Value) (es : List En), Rw enC w' vE es → Rw ndC w' (.slice AN nvs.length cN) nvs → TrV w' vE (.slice AN nvs.length cN) nvs ⟨es, t.ns⟩ := fun w' hE vE es h1 h2 => ⟨h1, h2, fun y hy => (hT3.i y hy).ext hE, hT3.m⟩
  repeat' (first | refine xcv (r := ((uN zb : Nat) : Int)) rfl rfl rfl (uN_eq zb) ?_ | refine xcv (r := ((uN za : Nat) : Int)) rfl rfl rfl (uN_eq za) ?_ | refine xmv rfl ?_ | refine xas rfl ?_ | refine xld rfl rfl (by with_reducible assumption) ?_ | refine xixn rfl rfl rfl (by omega) ?_ | refine xfa rfl rfl rfl ?_ | refine xln rfl rfl ?_ | refine xnil ?_ | refine xpk rfl rfl rfl rfl ?_ | refine xgy' rfl ?_ | refine xgn' rfl ?_ | refine xex rfl rfl ?_ | refine xnot rfl ?_ | refine xnc rfl ?_ | refine xeqn rfl rfl rfl ?_ | refine xnen rfl rfl rfl ?_ | refine xadd rfl rfl (by omega) (by omega) ?_ | refine xsub rfl rfl (by omega) (by omega) ?_ | refine xmul rfl rfl (by omega) (by omega) ?_ | refine xaddu rfl rfl (by omega) (by omega) ?_ | refine xsubu rfl rfl (by omega) (by omega) ?_ | refine xquo rfl rfl (by omega) (by omega) (by omega) ?_ | refine xrem rfl rfl (by omega) (by omega) (by omega) ?_ | refine xt_eql rfl rfl (by omega) ?_ | refine xf_eql rfl rfl (by omega) ?_ | refine xt_neq rfl rfl (by omega) ?_ | refine xf_neq rfl rfl (by omega) ?_ | refine xt_lss rfl rfl (by omega) ?_ | refine xf_lss rfl rfl (by omega) ?_ | refine xt_leq rfl rfl (by omega) ?_ | refine xf_leq rfl rfl (by omega) ?_ | refine xt_gtr rfl rfl (by omega) ?_ | refine xf_gtr rfl rfl (by omega) ?_ | refine xt_geq rfl rfl (by omega) ?_ | refine xf_geq rfl rfl (by omega) ?_ | refine tseq ?_ | refine tct rfl ?_ | refine tcf rfl ?_ | refine tskip ?_ | refine treg (by kernel_rfl) ?_ | refine tdraw (by kernel_rfl) (by decide +kernel) ?_ | refine texit rfl ?_ | refine xdu (op := .rem) rfl rfl rfl (by omega) (by omega) (by omega) ?_ | refine xdu (op := .quo) rfl rfl rfl (by omega) (by omega) (by omega) ?_ | refine xcvi rfl rfl rfl (by omega) (by omega) ?_ | refine xcvu rfl rfl rfl (by omega) (by omega) ?_ | refine xcvuw rfl rfl rfl ?_ | refine xcvby rfl rfl rfl ?_ | fail)
  rw [hki, hqi]
  have addE : ∀ (en : En) (w5 : World), Ext w4 w5 → ∀ v6 w6, OwnZ w6 w3.heap.size 49 2 v6 (t.es.length + 1) (t.es.flatMap enC ++ enC en) → Fr (fun b => (Value.slice AE t.es.length cE).ownBlock = some b) w5 w6 → ∀ w7 cs, Blk w7 g8 25 cs → cs = #[v6, .slice AN nvs.length cN] → Fr (· = g8) w6 w7 → ¬ GoodT ⟨t.es ++ [en], t.ns⟩ → SpL t nvs g8 (.slice AN nvs.length cN) w3 (v6, t.es ++ [en]) w7 := fun en w5 hE5 v6 w6 hO6 hF6 w7 cs hB7 hcs hF7 hbad => by
    have hO6' : Ow enC 2 w6 w3.heap.size 49 v6 (t.es ++ [en]) := Ow.ext1 (l' := [en]) (by simpa using hO6)
    have hE36 : Ext w3 w6 := (hE4.t hE5).trans hF6 fun j hj h => by have := (he4'.blk h).1; omega
    have hb6 : Blk w6 g8 25 #[.slice AE t.es.length cE, .slice AN nvs.length cN] := (hB4.ext hE5).fr hF6 (fun e => by obtain ⟨cs, hc⟩ := (he4'.ext hE5).typ e; exact hc.ne_ (hB4.ext hE5) (by decide) rfl)
    have hn6 := (hn4'.ext hE5).fr hF6 (fun b hb e => (hn4'.ext hE5).apart (he4'.ext hE5) (by decide) hb e)
    subst hcs
    exact ⟨hN hE36 hF7 hg8, hB7, (hO6'.fr hF7 (fun b hb e => by obtain ⟨cs, hc⟩ := hO6'.typ hb; exact hc.ne_ hb6 (by decide) e)).rw, (hn6.fr hF7 (fun b hb e => by obtain ⟨cs, hc⟩ := hn6.typ hb; exact hc.ne_ hb6 (by decide) e)).rw, hbad⟩
  by_cases q1 : q4 = 1
  · have q1' : (q4 : Int) = 1 := by omega
    obtain ⟨s1, s2⟩ := spoil_node (n := fifoN) hmay
    refine goLU ?_
    refine xbd (cells := (ndC (nilN fifoN)).toArray) rfl (by kernel_rfl) ?_
    refine xbz1 sl_nds rfl rfl (by decide) (by decide) (fun w5 hB5 hE5 hs5 => ?_)
    have z5 := hE4.size
    refine xapz (B := w3.heap.size) (news := ndC (nilN fifoN)) sl_nds rfl (by decide) rfl (hn4'.ext hE5) rfl (blk_row hB5 (by decide) rfl) rfl (ndC_one (nilN_in w5 ⟨rfl, rfl, rfl⟩)) (by unfold maxLen; omega) (by omega) (by have := hE5.size; omega) (fun v6 w6 hO6 hF6 _ => ?_)
    have hO6' : Ow ndC 12 w6 w3.heap.size 47 v6 (nvs ++ [nilN fifoN]) := Ow.ext1 (l' := [nilN fifoN]) (by simpa using hO6)
    have hE36 : Ext w3 w6 := (hE4.t hE5).trans hF6 fun j hj h => by have := (hn4'.blk h).1; omega
    have hb6 : Blk w6 g8 25 #[.slice AE t.es.length cE, .slice AN nvs.length cN] := (hB4.ext hE5).fr hF6 (fun e => by obtain ⟨cs, hc⟩ := (hn4'.ext hE5).typ e; exact hc.ne_ (hB4.ext hE5) (by decide) rfl)
    have he6 := (he4'.ext hE5).fr hF6 (fun b hb e => (he4'.ext hE5).apart (hn4'.ext hE5) (by decide) hb e)
    obtain ⟨A6, c6, rfl, _, _⟩ := hO6'.form
    refine goL ?_
    refine xstb hb6 rfl rfl (by kernel_rfl) rfl rfl (fun w7 hB7 hF7 => ?_)
    have hE37 : Ext w3 w7 := hN hE36 hF7 hg8
    have hB7' : Blk w7 g8 25 #[.slice AE t.es.length cE, .slice A6 (nvs ++ [nilN fifoN]).length c6] := hB7
    have hTu : ∀ w', Ext w7 w' → TrV w' (.slice AE t.es.length cE) (.slice A6 (nvs ++ [nilN fifoN]).length c6) (nvs ++ [nilN fifoN]) ⟨t.es, t.ns ++ [fifoN]⟩ := fun w' hE => by
      refine ⟨(he6.fr hF7 (fun b hb e => by obtain ⟨cs, hc⟩ := he6.typ hb; exact hc.ne_ hb6 (by decide) e)).rw.ext hE, (hO6'.fr hF7 (fun b hb e => by obtain ⟨cs, hc⟩ := hO6'.typ hb; exact hc.ne_ hb6 (by decide) e)).rw.ext hE, fun y hy => ?_, by rw [List.map_append, hT3.m]; rfl⟩
      rcases List.mem_append.1 hy with hy | hy
      · exact (hT3.i y hy).ext (hE37.t hE)
      · rw [List.mem_singleton.1 hy]; exact nilN_in _ ⟨rfl, rfl, rfl⟩
    have okU : NsOK (t.ns ++ [fifoN]) := fun n hn => by
      rcases List.mem_append.1 hn with hn | hn
      · exact ok1 n hn
      · rw [List.mem_singleton.1 hn]; exact Nat.zero_le _
    have okL : ∀ n ∈ t.ns ++ [fifoN], NdL n := fun n hn => by
      rcases List.mem_append.1 hn with hn | hn
      · exact ok2 n hn
      · rw [List.mem_singleton.1 hn]; exact NdL.nil ⟨rfl, rfl, rfl⟩
    refine goL ?_
    refine xcallE rfl rfl (told6_does w7) (fun r w8 h8 => ?_)
    obtain ⟨rfl, hE8⟩ := h8
    refine goL ?_
    refine xlda (t := 25) (hB7'.ext hE8) rfl rfl ?_
    refine goL ?_
    refine xcallE rfl rfl (tmay_does w8 _ _ _ ⟨t.es, t.ns ++ [fifoN]⟩ (hTu w8 hE8) okU) (fun r w9 h9 => ?_)
    obtain ⟨rfl, hE9⟩ := h9
    rw [s1]
    have hE79 := hE8.t hE9
    have hE39 : Ext w3 w9 := hE37.t hE79
    refine goL ?_
    refine xlda (t := 25) (Blk.ext hB3 hE39) rfl rfl ?_
    refine goL ?_
    refine xlda (t := 25) (hB7'.ext hE79) rfl rfl ?_
    refine goL ?_
    refine xcallE rfl rfl (treeSame_does w9 _ _ _ _ nvs _ t ⟨t.es, t.ns ++ [fifoN]⟩ (hT3.ext hE39) (hTu w9 hE79) ok1 okU ok2 okL) (fun r w10 h10 => ?_)
    obtain ⟨rfl, hE10⟩ := h10
    rw [s2]
    refine goL ?_
    exact tret1 rfl rfl ⟨rfl, hE03.t (hE39.t hE10)⟩
  refine tcut (α := Value × List En) (fun y => [(7, .pointer (some ⟨g7, 0, none⟩)), (8, .pointer (some ⟨g8, 0, none⟩))]) (SpL t nvs g8 (.slice AN nvs.length cN) w3) ?_ ?_

  · rcases (show q4 = 0 ∨ q4 = 2 ∨ q4 = 3 by omega) with q0 | q0 | q0
    · have q0' : (q4 : Int) = 0 := by omega
      obtain ⟨en, hen⟩ : ∃ en : En, en = ⟨[110, 111, 110, 101, 47, 120], 0⟩ := ⟨_, rfl⟩
      refine goLU ?_
      refine xbd (cells := (enC en).toArray) (by rfl) (by rw [hen]; kernel_rfl) ?_
      refine xbz1 sl_ents rfl rfl (by decide) (by decide) (fun w5 hB5 hE5 hs5 => ?_)
      refine xapz (B := w3.heap.size) (news := enC en) sl_ents rfl (by decide) rfl (he4'.ext hE5) rfl (blk_row hB5 (by decide) rfl) rfl (fun u hu => enC_one [en] u (by simpa using hu)) (by unfold maxLen; omega) (by omega) (by have := hE4.size; have := hE5.size; omega) (fun v6 w6 hO6 hF6 _ => ?_)
      have hb6 : Blk w6 g8 25 #[.slice AE t.es.length cE, .slice AN nvs.length cN] := (hB4.ext hE5).fr hF6 (fun e => by obtain ⟨cs, hc⟩ := (he4'.ext hE5).typ e; exact hc.ne_ (hB4.ext hE5) (by decide) rfl)
      have hv6 : v6.oneCell' = true := by obtain ⟨A6, c6, rfl, _, _⟩ := OwnZ.form hO6; rfl
      refine goLU ?_
      refine xstb hb6 rfl rfl (by kernel_rfl) hv6 rfl (fun w7 hB7 hF7 => ?_)
      refine goLU ?_
      exact tfin ⟨(v6, t.es ++ [en]), sub ⟨rfl, rfl⟩, addE en w5 hE5 v6 w6 hO6 hF6 w7 _ hB7 rfl hF7 (by rw [hen]; exact spoil_par (by decide) (fun e he h => hnone e he (by rw [h]; decide)) (by decide))⟩
    · have q0' : (q4 : Int) = 2 := by omega
      obtain ⟨en, hen⟩ : ∃ en : En, en = ⟨[122, 122, 122], 0⟩ := ⟨_, rfl⟩
      refine goLU ?_
      refine xbd (cells := (enC en).toArray) (by rfl) (by rw [hen]; kernel_rfl) ?_
      refine xbz1 sl_ents rfl rfl (by decide) (by decide) (fun w5 hB5 hE5 hs5 => ?_)
      refine xapz (B := w3.heap.size) (news := enC en) sl_ents rfl (by decide) rfl (he4'.ext hE5) rfl (blk_row hB5 (by decide) rfl) rfl (fun u hu => enC_one [en] u (by simpa using hu)) (by unfold maxLen; omega) (by omega) (by have := hE4.size; have := hE5.size; omega) (fun v6 w6 hO6 hF6 _ => ?_)
      have hb6 : Blk w6 g8 25 #[.slice AE t.es.length cE, .slice AN nvs.length cN] := (hB4.ext hE5).fr hF6 (fun e => by obtain ⟨cs, hc⟩ := (he4'.ext hE5).typ e; exact hc.ne_ (hB4.ext hE5) (by decide) rfl)
      have hv6 : v6.oneCell' = true := by obtain ⟨A6, c6, rfl, _, _⟩ := OwnZ.form hO6; rfl
      refine goLU ?_
      refine xstb hb6 rfl rfl (by kernel_rfl) hv6 rfl (fun w7 hB7 hF7 => ?_)
      refine goLU ?_
      exact tfin ⟨(v6, t.es ++ [en]), sub ⟨rfl, rfl⟩, addE en w5 hE5 v6 w6 hO6 hF6 w7 _ hB7 rfl hF7 (by rw [hen]; exact spoil_dir hmay (by decide))⟩
    · have q0' : (q4 : Int) = 3 := by omega
      obtain ⟨A9, c9, e9, _, _, hA9⟩ := he4'.rw.op enC_len
      injection e9 with e91 e92 e93
      subst e91; subst e93
      obtain ⟨b, o, en, rfl, _, he, _, hcell⟩ := hA9.at_ hikl
      have hec : ∀ j u, (enC en)[j]? = some u → w4.drew.cell? ⟨b, o + ik * 2 + j, none⟩ = some u := fun j u hu => hcell j u hu
      have c35 : w4.drew.cell? ⟨g8, 0, none⟩ = some (.slice (some ⟨b, o, none⟩) t.es.length cE) := k0
      refine goLU ?_
      refine tdrawC 8 [35] (fun w' => w'.cell? ⟨g8, 0, none⟩ = some (.slice (some ⟨b, o, none⟩) t.es.length cE)) (by kernel_rfl) (by decide +kernel) c35 ?_
      repeat' (first | refine xldh rfl rfl (fun _ h => h) ?_ | refine xizq ik (o + ik * 2) rfl rfl rfl rfl rfl hikl ?_ | refine go1LU ?_ | fail)
      refine xldz (cs := enC en) rfl rfl hec ?_
      refine xbz1 sl_ents rfl rfl (by decide) (by decide) (fun w5 hB5 hE5' hs5 => ?_) (fun w' he => he.cell c35)
      refine xnil ?_
      have hE5 : Ext w4 w5 := (Fr.drew _ _).t hE5'
      refine xapz (B := w3.heap.size) (news := enC en) sl_ents rfl (by decide) rfl (he4'.ext hE5) rfl (blk_row hB5 (by decide) rfl) rfl (fun u hu => enC_one [en] u (by simpa using hu)) (by unfold maxLen; omega) (by omega) (by have := hE4.size; have := hE5.size; omega) (fun v6 w6 hO6 hF6 _ => ?_)
      have hb6 : Blk w6 g8 25 #[.slice (some ⟨b, o, none⟩) t.es.length cE, .slice AN nvs.length cN] := (hB4.ext hE5).fr hF6 (fun e => by obtain ⟨cs, hc⟩ := (he4'.ext hE5).typ e; exact hc.ne_ (hB4.ext hE5) (by decide) rfl)
      have hv6 : v6.oneCell' = true := by obtain ⟨A6, c6, rfl, _, _⟩ := OwnZ.form hO6; rfl
      refine goLU ?_
      refine xstb hb6 rfl rfl (by kernel_rfl) hv6 rfl (fun w7 hB7 hF7 => ?_)
      refine goLU ?_
      exact tfin ⟨(v6, t.es ++ [en]), sub ⟨rfl, rfl⟩, addE en w5 hE5 v6 w6 hO6 hF6 w7 _ hB7 rfl hF7 (spoil_twice (List.mem_of_getElem? he))⟩
  rintro ⟨vE, es⟩ w5 ⟨hE5, hB5, hre, hrn, hbad⟩
  dsimp only at hB5 hre ⊢
  have hre' := hre
  obtain ⟨A5, c5, rfl, _, _, _⟩ := hre.op enC_len
  obtain ⟨b1, b2⟩ := bad_none hbad
  have b3 := bad_same (t := t) hbad
  refine goL ?_
  refine xlda (t := 25) hB5 rfl rfl ?_
  refine goL ?_
  refine xcallE rfl rfl (norm_does w5 _ _ nvs ⟨es, t.ns⟩ (hTm w5 hE5 _ es hre' hrn) ok1 ok2) (fun r w6 h6 => ?_)
  obtain ⟨hE6, h6⟩ := h6
  rw [b2] at h6
  dsimp only at h6
  subst h6
  refine goL ?_
  refine xalloc (z := .agg #[.slice none 0 0, .slice none 0 0]) (by kernel_rfl) (fun w7 hB7 hE7 hs7 => ?_)
  refine xsta hB7 rfl rfl (by kernel_rfl) rfl (one_cells (l := [.slice none 0 0, .slice none 0 0]) rfl) (fun w8 hB8 hF8 => ?_)
  have hE68 : Ext w6 w8 := hN hE7 hF8 (Nat.le_refl _)
  have hE58 : Ext w5 w8 := hE6.t hE68
  refine goL ?_
  refine xcallE rfl rfl (told6_does w8) (fun r w9 h9 => ?_)
  obtain ⟨rfl, hE9⟩ := h9
  have hE59 : Ext w5 w9 := hE58.t hE9
  refine goL ?_
  refine xlda (t := 25) (hB5.ext hE59) rfl rfl ?_
  refine goL ?_
  refine xcallE rfl rfl (tmay_does w9 _ _ nvs ⟨es, t.ns⟩ (hTm w9 (hE5.t hE59) _ es (Rw.ext hre' hE59) (hrn.ext hE59)) ok1) (fun r w10 h10 => ?_)
  obtain ⟨rfl, hE10⟩ := h10
  rw [b1]
  have hE510 : Ext w5 w10 := hE59.t hE10
  have m0 : w10.cell? ⟨w6.heap.size, 0, none⟩ = some (.slice none 0 0) := (Blk.ext hB8 (hE9.t hE10)).cell 0
  refine goL ?_
  refine xlda (t := 25) (Blk.ext hB3 (hE5.t hE510)) rfl rfl ?_
  refine goL ?_
  refine xlda (t := 25) (hB5.ext hE510) rfl rfl ?_
  refine goL ?_
  refine xcallE rfl rfl (treeSame_does w10 _ _ _ _ nvs nvs t ⟨es, t.ns⟩ (hT3.ext (hE5.t hE510)) (hTm w10 (hE5.t hE510) _ es (Rw.ext hre' hE510) (hrn.ext hE510)) ok1 ok1 ok2 ok2) (fun r w11 h11 => ?_)
  obtain ⟨rfl, hE11⟩ := h11
  rw [b3]
  refine goL ?_
  exact tret1 rfl rfl ⟨rfl, hE03.t (hE5.t (hE510.t hE11))⟩
end Eng
end Go.Proofs.YtleaanenpimanaaGreatDoor
