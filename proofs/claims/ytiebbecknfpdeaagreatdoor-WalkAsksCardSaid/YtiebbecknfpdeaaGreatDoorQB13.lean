/-
  The walk's laws: WalkAsks.
-/
import Derived.Test.YtiebbecknfpdeaaGreatDoorQB11
import Derived.Test.YtiebbecknfpdeaaGreatDoorQZt
namespace Go.Proofs.YtiebbecknfpdeaaGreatDoor
open Go.RowKit
namespace Eng
attribute [local irreducible] xs T
set_option maxRecDepth 20000 in
set_option maxHeartbeats 8000000 in
theorem walkAsks_core (hmk : MkD) (w : World) (v : Value) (zs : List Int) (hv : IRow w v zs) (va : Value) (za : List Int) (hva : IRow w va za) (vf : Value) (fl : List (Int × Int)) (hvf : Rw flC w vf fl) (vs : Value) (names : List Str) (hvs : Rw stC w vs names) (zn : Int) : Does Tryz.prog 3 #[v, va, vf, vs, .int .i64 zn] w fun r w' => r = .bool true ∧ Ext w w' := by
  refine does5 Tryz.func3 rfl (by kernel_rfl) ?_
  have hN : ∀ {a b c : World} {g : Nat}, Ext a b → Fr (· = g) b c → a.heap.size ≤ g → Ext a c := fun h1 h2 hg => h1.trans h2 fun j hj e => absurd hj (by omega)
  obtain ⟨AF, cF, rfl, hcF1, hcF2, _⟩ := hvf.op flC_len
  obtain ⟨AS, cS, rfl, hcS1, hcS2, _⟩ := hvs.op stC_len
  by_cases hf3 : 3 < fl.length
  · refine goL ?_
    refine xcall rfl rfl (told8_does w) ?_
    rintro r w1 ⟨rfl, hE1⟩
    refine goL ?_
    exact tret1 rfl rfl ⟨rfl, hE1⟩
  by_cases hn12 : 12 < names.length
  · refine goL ?_
    refine xcall rfl rfl (told8_does w) ?_
    rintro r w1 ⟨rfl, hE1⟩
    refine goL ?_
    exact tret1 rfl rfl ⟨rfl, hE1⟩
  refine goL ?_
  refine xcall rfl rfl (hmk w v zs hv) (fun r w1 h1 => ?_)
  obtain ⟨ve, vn, nvs, rfl, hT1, hE1⟩ := h1
  have hmay := mkT_may (zs.map uN)
  have hfr := from_ok (zs.map uN)
  obtain ⟨t, ht⟩ : ∃ t, t = mkT (zs.map uN) := ⟨_, rfl⟩
  rw [← ht] at hT1 hmay hfr
  have hft := may_fst hmay
  have hns := may_ns hmay
  have hlen := hft.g.len
  obtain ⟨ok1, ok2, ok3⟩ := may_ok hmay
  obtain ⟨A, c, rfl, hc1, hc2, hA⟩ := hT1.e.op enC_len
  obtain ⟨N, d, rfl, hd1, hd2, hAN⟩ := hT1.n.op ndC_len
  refine goL ?_
  refine xalloc (z := .agg #[.slice none 0 0, .slice none 0 0]) (by kernel_rfl) (fun w2 hB2 hE2 hs2 => ?_)
  refine goL ?_
  refine xsta hB2 rfl rfl (by kernel_rfl) rfl (one_cells (l := [.slice A t.es.length c, .slice N nvs.length d]) rfl) (fun w3 hB3 hF3 => ?_)
  have hE13 : Ext w1 w3 := hN hE2 hF3 (Nat.le_refl _)
  have hE03 : Ext w w3 := hE1.t hE13
  have hT3 := hT1.ext hE13
  refine goL ?_
  refine xlda (t := 29) hB3 rfl rfl ?_
  refine goL ?_
  refine xcall rfl rfl (from_does w3 _ _ _ nvs t 100000 fl hT3 (hvf.ext hE03) ok2 ok1 (by omega) (by omega) (by omega)) ?_
  rintro r w4 ⟨p, rfl, hE4, hr⟩
  rw [hfr] at hr ⊢
  rcases hr with ⟨hr, _⟩ | ⟨_, g, vf4, ve4, vn4, nvs4, rfl, hO4⟩
  · exact absurd rfl hr
  have hE04 : Ext w w4 := hE03.t hE4
  have hgb := hO4.b
  have hgl := hO4.i.k.lt
  have z3 := hE03.size
  have z34 := hE4.size
  have hn4 := norm_same hmay
  refine goL ?_
  refine xlda (t := 29) (hB3.ext hE4) rfl rfl ?_
  refine goL ?_
  refine xcall rfl rfl (rsfrom_does w4 _ _ _ nvs t 100000 fl (hT3.ext hE4) (hvf.ext hE04) ok3 (by omega) (by omega) (by omega)) ?_
  rintro r w5 ⟨p, rfl, hE5, hr⟩
  rw [hfr] at hr ⊢
  rcases hr with ⟨hr, _⟩ | ⟨_, gm, vf5, ve5, vn5, nvs5, rfl, hI5, hgm, hrw5, hys⟩
  · exact absurd rfl hr
  have hE05 : Ext w w5 := hE04.t hE5
  have hgml := hI5.k.lt
  have z5 := hE5.size
  have hO5 := hO4.ext hE5
  obtain ⟨y, hy⟩ : ∃ y, y = lookM t 9 [] ⟨⟨100000, fl, 0, false⟩, za, []⟩ := ⟨_, rfl⟩
  have hall := all_does w5 g ⟨100000, fl, 0, false⟩ vf4 ve4 vn4 va nvs4 t t za hO5.i hft hn4 (ord_of hva hE05.fr (by omega)) (by show (0 : Int) ≤ 0; decide) (by show (0 : Int) ≤ 3000000000000000000; decide)
  rw [← hy] at hall
  obtain ⟨Ao, co, rfl, _, _, _⟩ := id hva
  refine goL ?_
  refine xcall rfl rfl hall ?_
  rintro r w6 ⟨v6, rfl, hI6, hF6, hok6, hno6⟩
  have hE06 : Ext w w6 := hN hE05 hF6 (by omega)
  have hRfr : ∀ b, b = gm ∨ RwK vf5 fl b ∨ TrN ve5 vn5 nvs5 t b → ¬ b = g := fun b hb => by
    rcases hb with hb | hb | hb | hb | ⟨x, hx, hb⟩
    · omega
    · have := hrw5 b (.inl hb); omega
    · have := hrw5 b (.inr (.inl hb)); omega
    · have := hrw5 b (.inr (.inr hb)); omega
    · have := (hT3.i x (hys x hx)).ltN hb; omega
  have hR6 : RsI w6 gm ⟨100000, fl, 0, false⟩ vf5 ve5 vn5 nvs5 t := hI5.fr hF6 hRfr
  have hv6 : ∃ a b, v6 = .agg #[a, b] ∧ a.oneCell' = true ∧ b.oneCell' = true := by
    by_cases e : y.1 = 0
    · obtain ⟨a, b, nn, h1, h2⟩ := hok6 e
      obtain ⟨A1, c1, e1, _, _⟩ := h2.e.form
      obtain ⟨A2, c2, e2, _, _⟩ := h2.n.form
      exact ⟨a, b, h1, by rw [e1]; rfl, by rw [e2]; rfl⟩
    · exact ⟨_, _, hno6 e, rfl, rfl⟩
  obtain ⟨a6, b6, rfl, ha6, hb6⟩ := hv6
  refine goL ?_
  refine xalloc (z := .agg #[.slice none 0 0, .slice none 0 0]) (by kernel_rfl) (fun w7 hB7 hE7 hs7 => ?_)
  refine goL ?_
  refine xsta hB7 rfl rfl (by kernel_rfl) rfl (one_cells (l := [a6, b6]) (by simp only [List.all_cons, List.all_nil, ha6, hb6]; rfl)) (fun w8 hB8 hF8 => ?_)
  have hE68 : Ext w6 w8 := hN hE7 hF8 (Nat.le_refl _)
  have hE08 := hE06.t hE68
  have hR8 := hR6.ext hE68
  have hrall := rall_does w8 gm ⟨100000, fl, 0, false⟩ vf5 ve5 vn5 (.slice Ao za.length co) nvs5 t za hR8 hft (ord_of hva (show Ext w w8 from hE08).fr (by omega)) (by show (0 : Int) ≤ 0; decide) (by show (0 : Int) ≤ 3000000000000000000; decide)
  rw [← hy] at hrall
  refine goL ?_
  refine xcall rfl rfl hrall ?_
  rintro r w9 ⟨v9, rfl, hI9, hF9, hok9, hno9⟩
  have hE09 : Ext w w9 := hN hE08 hF9 (by omega)
  have hIf9 : FsI w9 g y.2.m vf4 ve4 vn4 nvs4 t := (hI6.ext hE68).fr hF9 fun b hb => by have := (hO4.blk hb).2; show ¬ b = gm; omega
  have hv9 : ∃ a b, v9 = .agg #[a, b] ∧ a.oneCell' = true ∧ b.oneCell' = true := by
    by_cases e : y.1 = 0
    · have h2 := hI9.tr
      obtain ⟨A1, c1, e1, _, _, _⟩ := h2.e.op enC_len
      obtain ⟨A2, c2, e2, _, _, _⟩ := h2.n.op ndC_len
      exact ⟨_, _, hok9 e, by rw [e1]; rfl, by rw [e2]; rfl⟩
    · exact ⟨_, _, hno9 e, rfl, rfl⟩
  obtain ⟨a9, b9, rfl, ha9, hb9⟩ := hv9
  refine goL ?_
  refine xalloc (z := .agg #[.slice none 0 0, .slice none 0 0]) (by kernel_rfl) (fun w10 hB10 hE10 hs10 => ?_)
  refine goL ?_
  refine xsta hB10 rfl rfl (by kernel_rfl) rfl (one_cells (l := [a9, b9]) (by simp only [List.all_cons, List.all_nil, ha9, hb9]; rfl)) (fun w11 hB11 hF11 => ?_)
  have hE911 : Ext w9 w11 := hN hE10 hF11 (Nat.le_refl _)
  have hE011 : Ext w w11 := hE09.t hE911
  have hd := Fr.drew noneB w11
  have hF611 : Fr (· = gm) w8 w11 := hF9.te hE911
  have z6 := hF6.size
  have hb8 : Blk w11 w6.heap.size 29 #[a6, b6] := Blk.fr hB8 hF611 (show ¬ w6.heap.size = gm by omega)
  have hI11 := hI9.ext hE911
  have hq4 : w11.drew.cell? ⟨gm, 4, none⟩ = some (.int .i64 y.2.m.calls) := hI11.k.cell 4
  have hfin : ∀ w', Ext w11 w' → Ext w w' := fun w' hE => hE011.t hE
  refine goL ?_
  refine tdrawH [100] (fun w' => w'.cell? ⟨gm, 4, none⟩ = some (.int .i64 y.2.m.calls)) (by kernel_rfl) (by decide +kernel) hq4 ?_
  refine goL ?_
  refine xcall rfl rfl (told8_does w11.drew) ?_ (fun r w' h => h.2.cell hq4)
  rintro r w12 ⟨rfl, hE12⟩
  have hq12 : w12.cell? ⟨gm, 4, none⟩ = some (.int .i64 y.2.m.calls) := hE12.cell hq4
  have hdE := hd.t hE12
  by_cases e : y.1 = 0
  · obtain ⟨x6, y6, nn6, e6, hT6⟩ := hok6 e
    have e9 := hok9 e
    have h6 : [a6, b6] = [x6, y6] := congrArg (fun v : Value => v.cells.toList) e6
    have h9 : [a9, b9] = [ve5, vn5] := congrArg (fun v : Value => v.cells.toList) e9
    injection h6 with h61 h62
    injection h62 with h62 _
    injection h9 with h91 h92
    injection h92 with h92 _
    subst h61; subst h62; subst h91; subst h92
    have hT8 := hT6.ext hE68
    have hT11 : TrO w11 w5.heap.size a6 b6 nn6 t := hT8.fr hF611 fun b hb => by have := (hT6.lt hb).1; show ¬ b = gm; omega
    have hTa := (hT11.v.ext hdE)
    have hTb := hI11.tr.ext hdE
    refine goL ?_
    refine xlda (t := 29) (hb8.ext hdE) rfl rfl ?_
    refine goL ?_
    refine xlda (t := 29) (hB11.ext hdE) rfl rfl ?_
    refine goL ?_
    refine xcall rfl rfl (alike_does w12 _ _ _ _ nn6 nvs5 t t hTa hTb) ?_ (fun r w' h => h.2.cell hq12)
    rintro r w13 ⟨rfl, hEd⟩
    rw [alikeT_same]
    have hq : w13.cell? ⟨gm, 4, none⟩ = some (.int .i64 y.2.m.calls) := hEd.cell hq12
    have hIfd := (hIf9.ext hE911).ext hdE
    refine goL ?_
    refine xcall rfl rfl (calls_c w13 g _ vf4 _ _ (hIfd.ext hEd).k y.2.m.calls rfl) ?_ (fun r w' h => by rw [← h.2]; exact hq)
    rintro r w14 ⟨rfl, rfl⟩
    repeat' (first | refine xldh rfl rfl (fun _ h => h) ?_ | refine go1L ?_ | fail)
    refine xcall rfl rfl (order_does w13 _ names zn (hvs.ext (hE011.t (hd.t (hE12.t hEd)))) (by omega)) ?_ (fun r w' h => h.2.cell hq)
    rintro r w15 ⟨hO15, hE15⟩
    obtain ⟨A15, c15, rfl, _, _⟩ := hO15.form
    have hq15 : w15.cell? ⟨gm, 4, none⟩ = some (.int .i64 y.2.m.calls) := hE15.cell hq
    repeat' (first | refine xldh rfl rfl (fun _ h => h) ?_ | refine go1L ?_ | fail)
    refine xcall rfl rfl (rorder_does w15 _ names zn (hvs.ext ((hE011.t (hd.t (hE12.t hEd))).t hE15)) (by omega)) ?_ (fun r w' h => h.2.cell hq15)
    rintro r w16 ⟨hO16, hE16⟩
    obtain ⟨A16, c16, rfl, _, _⟩ := hO16.form
    have hq16 : w16.cell? ⟨gm, 4, none⟩ = some (.int .i64 y.2.m.calls) := hE16.cell hq15
    repeat' (first | refine xldh rfl rfl (fun _ h => h) ?_ | refine go1L ?_ | fail)
    refine xcall rfl rfl (texts_does w16 _ _ _ _ (hO15.rw.ext hE16) hO16.rw) ?_ (fun r w' h => h.2.cell hq16)
    rintro r w17 ⟨rfl, hE17⟩
    rw [decide_eq_true rfl]
    repeat' (first | refine xldh rfl rfl (fun _ h => h) ?_ | refine go1L ?_ | fail)
    exact tret1 rfl rfl ⟨rfl, (((hE011.t (hd.t (hE12.t hEd))).t hE15).t hE16).t hE17⟩
  · have e6 := hno6 e
    have h6 : [a6, b6] = [.slice none 0 0, .slice none 0 0] := congrArg (fun v : Value => v.cells.toList) e6
    injection h6 with h61 h62
    injection h62 with h62 _
    subst h61; subst h62
    have hq := hq12
    have hIfd := (hIf9.ext hE911).ext hdE
    have hEd : Ext w12 w12 := Fr.refl _ _
    have k0 : w12.cell? ⟨w6.heap.size, 0, none⟩ = some (.slice none 0 0) := (hb8.ext hdE).cell 0
    refine goL ?_
    refine xcall rfl rfl (calls_c w12 g _ vf4 _ _ (hIfd.ext hEd).k y.2.m.calls rfl) ?_ (fun r w' h => by rw [← h.2]; exact hq)
    rintro r w14 ⟨rfl, rfl⟩
    repeat' (first | refine xldh rfl rfl (fun _ h => h) ?_ | refine go1L ?_ | fail)
    refine xcall rfl rfl (order_does w12 _ names zn (hvs.ext (hE011.t (hd.t (hE12.t hEd)))) (by omega)) ?_ (fun r w' h => h.2.cell hq)
    rintro r w15 ⟨hO15, hE15⟩
    obtain ⟨A15, c15, rfl, _, _⟩ := hO15.form
    have hq15 : w15.cell? ⟨gm, 4, none⟩ = some (.int .i64 y.2.m.calls) := hE15.cell hq
    repeat' (first | refine xldh rfl rfl (fun _ h => h) ?_ | refine go1L ?_ | fail)
    refine xcall rfl rfl (rorder_does w15 _ names zn (hvs.ext ((hE011.t (hd.t (hE12.t hEd))).t hE15)) (by omega)) ?_ (fun r w' h => h.2.cell hq15)
    rintro r w16 ⟨hO16, hE16⟩
    obtain ⟨A16, c16, rfl, _, _⟩ := hO16.form
    have hq16 : w16.cell? ⟨gm, 4, none⟩ = some (.int .i64 y.2.m.calls) := hE16.cell hq15
    repeat' (first | refine xldh rfl rfl (fun _ h => h) ?_ | refine go1L ?_ | fail)
    refine xcall rfl rfl (texts_does w16 _ _ _ _ (hO15.rw.ext hE16) hO16.rw) ?_ (fun r w' h => h.2.cell hq16)
    rintro r w17 ⟨rfl, hE17⟩
    rw [decide_eq_true rfl]
    repeat' (first | refine xldh rfl rfl (fun _ h => h) ?_ | refine go1L ?_ | fail)
    exact tret1 rfl rfl ⟨rfl, (((hE011.t (hd.t (hE12.t hEd))).t hE15).t hE16).t hE17⟩
end Eng
end Go.Proofs.YtiebbecknfpdeaaGreatDoor
