/-
  Laws of made trees: parts.
-/
import Derived.Test.YtleaanenpimanaaGreatDoorYg
namespace Go.Proofs.YtleaanenpimanaaGreatDoor
open Go.RowKit
namespace Eng
attribute [local irreducible] xs T

set_option maxRecDepth 20000 in
set_option maxHeartbeats 8000000 in
theorem treeParts_core (mk : MkD) (w : World) (v : Value) (zs : List Int) (hv : IRow w v zs) (za zb : Int) : Does Tryz.prog 5 #[v, .int .i64 za, .int .i64 zb] w fun r w' => r = .bool true ∧ Ext w w' := by
  refine does3 Tryz.func5 rfl (by kernel_rfl) ?_
  have hN : ∀ {a b c : World} {g : Nat}, Ext a b → Fr (· = g) b c → a.heap.size ≤ g → Ext a c := fun h1 h2 hg => h1.trans h2 fun j hj e => absurd hj (by omega)
  refine goL ?_
  refine xcallE rfl rfl (mk w v zs hv) (fun r w1 h1 => ?_)
  obtain ⟨ve, vn, nvs, rfl, hT1, hE1⟩ := h1
  have hmay := mkT_may (zs.map uN)
  have hlen26 := mkT_len (zs.map uN)
  obtain ⟨t, ht⟩ : ∃ t, t = mkT (zs.map uN) := ⟨_, rfl⟩
  rw [← ht] at hT1 hmay hlen26
  have hg := may_good hmay
  have hns := may_ns hmay
  have hone := may_one hmay
  obtain ⟨ok1, ok2, _⟩ := may_ok hmay
  have hT1' := hT1
  obtain ⟨A, c, rfl, hc1, hc2, hA⟩ := hT1.e.op enC_len
  obtain ⟨N, d, rfl, hd1, hd2, hAN⟩ := hT1.n.op ndC_len
  have hlen := hT1'.len
  refine goL ?_
  refine xalloc (z := .agg #[.slice none 0 0, .slice none 0 0]) (by kernel_rfl) (fun w2 hB2 hE2 hs2 => ?_)
  refine xsta hB2 rfl rfl (by kernel_rfl) rfl (one_cells (l := [.slice A t.es.length c, .slice N nvs.length d]) rfl) (fun w3 hB3 hF3 => ?_)
  have hE13 : Ext w1 w3 := hN hE2 hF3 (Nat.le_refl _)
  have hE03 := hE1.t hE13
  obtain ⟨g7, hg7⟩ : ∃ g7, g7 = w1.heap.size := ⟨_, rfl⟩
  rw [← hg7] at hB3 ⊢
  have hA3 := hA.ext hE13
  have hAN3 := hAN.ext hE13
  have hT3 := hT1'.ext hE13
  obtain ⟨ia, hia⟩ : ∃ ia, ia = uN za % t.es.length := ⟨_, rfl⟩
  obtain ⟨ib, hib⟩ : ∃ ib, ib = uN zb % t.es.length := ⟨_, rfl⟩
  have hial : ia < t.es.length := hia ▸ Nat.mod_lt _ hone
  have hibl : ib < t.es.length := hib ▸ Nat.mod_lt _ hone
  have hai : ((uN za : Nat) : Int) % (t.es.length : Int) = (ia : Int) := by rw [hia]; exact (Int.natCast_emod ..).symm
  have hbi : ((uN zb : Nat) : Int) % (t.es.length : Int) = (ib : Int) := by rw [hib]; exact (Int.natCast_emod ..).symm
  have hua := uN_lt za
  have hub := uN_lt zb
  obtain ⟨b, o, ea, hAe, _, hea, _, hcella⟩ := hA3.at_ hial
  obtain ⟨b', o', eb, hAe', _, heb, _, hcellb⟩ := hA3.at_ hibl
  rw [hAe] at hAe'
  injection hAe' with hAe'
  injection hAe' with e1 e2
  subst e1; subst e2
  subst hAe
  have m0 : w3.drew.cell? ⟨g7, 0, none⟩ = some (.slice (some ⟨b, o, none⟩) t.es.length c) := Blk.cell hB3 0
  have pa : w3.drew.cell? ⟨b, o + ia * 2 + 0, none⟩ = some (.string (su ea.path)) := hcella 0 _ rfl
  have pb : w3.drew.cell? ⟨b, o + ib * 2 + 0, none⟩ = some (.string (su eb.path)) := hcellb 0 _ rfl
  have heam := List.mem_of_getElem? hea
  have hebm := List.mem_of_getElem? heb
  obtain ⟨u, hp, humay, hulen, hlaw⟩ := part_law hmay ⟨ea, heam, rfl⟩ ⟨eb, hebm, rfl⟩
  have hxl := mayP_len (hg.path ea heam)
  have hyl := mayP_len (hg.path eb hebm)
  obtain ⟨x, hx⟩ : ∃ x, x = ea.path := ⟨_, rfl⟩
  obtain ⟨y, hy⟩ : ∃ y, y = eb.path := ⟨_, rfl⟩
  rw [← hx] at hp hulen hlaw hxl pa
  rw [← hy] at hp hulen hlaw hyl pb
  repeat' (first | refine xcv (r := ((uN za : Nat) : Int)) rfl rfl rfl (uN_eq za) ?_ | refine xcv (r := ((uN zb : Nat) : Int)) rfl rfl rfl (uN_eq zb) ?_ | refine xizq ia (o + ia * 2) rfl rfl rfl hai rfl hial ?_ | refine xizq ib (o + ib * 2) rfl rfl rfl hbi rfl hibl ?_ | refine go1LU ?_ | fail)
  refine xlda (t := 25) (bt := 25) (w := w3.drew) hB3 rfl rfl ?_
  refine goL ?_
  refine xbs (vs := [.string (su x), .string (su y)]) sl_strs rfl rfl (by decide) (by decide) (fun u hu => by simp only [List.mem_cons, List.not_mem_nil, or_false] at hu; rcases hu with rfl | rfl <;> rfl) (fun w4 hB4 hE4 hs4 => ?_)
  have hE34 : Ext w3 w4 := (Fr.drew _ _).t hE4
  refine xcallE rfl rfl (tpart_does w4 _ _ _ nvs t [x, y] (hT3.ext hE34) (blk_row (n := 2) hB4 (by decide) rfl) ok1 ok2) (fun r w5 h5 => ?_)
  obtain ⟨hE5, h5⟩ := h5
  rw [hp] at h5
  dsimp only at h5
  obtain ⟨ve5, vn5, l5, rfl, hT5⟩ := h5
  have hT5' := hT5
  have hl5 := hT5.len
  have hE35 := hE34.t hE5
  obtain ⟨A5, c5, rfl, hc51, hc52, _⟩ := hT5.e.op enC_len
  obtain ⟨N5, d5, rfl, hd51, hd52, hAN5⟩ := hT5.n.op ndC_len
  refine goL ?_
  refine xalloc (z := .agg #[.slice none 0 0, .slice none 0 0]) (by kernel_rfl) (fun w6 hB6 hE6 hs6 => ?_)
  refine xsta hB6 rfl rfl (by kernel_rfl) rfl (one_cells (l := [.slice A5 u.es.length c5, .slice N5 l5.length d5]) rfl) (fun w7 hB7 hF7 => ?_)
  have hE57 : Ext w5 w7 := hN hE6 hF7 (Nat.le_refl _)
  have hE37 := hE35.t hE57
  obtain ⟨g10, hg10⟩ : ∃ g10, g10 = w5.heap.size := ⟨_, rfl⟩
  rw [← hg10] at hB7 ⊢
  have hT7 := hT5'.ext hE57
  have hAN7 := hAN5.ext hE57
  obtain ⟨okU, _, _⟩ := may_ok humay
  refine goL ?_
  refine xlda (t := 25) hB7 rfl rfl ?_
  refine goL ?_
  refine xcallE rfl rfl (tmay_does w7 _ _ l5 u hT7 okU) (fun r w8 h8 => ?_)
  obtain ⟨rfl, hE8⟩ := h8
  rw [humay]
  refine goL ?_
  refine tloop (α := Nat) (fun i => [(7, .pointer (some ⟨g7, 0, none⟩)), (8, .string (su x)), (9, .string (su y)), (10, .pointer (some ⟨g10, 0, none⟩)), (12, .int .i64 (((t.es.take i).countP (fun e => inB x y e.path) : Nat) : Int)), (13, .int .i64 (i : Int))]) (fun i w' => Ext w8 w' ∧ i ≤ t.es.length) (fun i => t.es.length - i) 0 (sub ⟨rfl, rfl, rfl, rfl, by rw [List.take_zero]; rfl, rfl⟩) ⟨Fr.refl _ _, Nat.zero_le _⟩ ?_
  rintro i w9 ⟨hE9, hi⟩
  have hE79 : Ext w7 w9 := hE8.t hE9
  have hE39 : Ext w3 w9 := hE37.t hE79
  have n0 : w9.cell? ⟨g7, 0, none⟩ = some (.slice (some ⟨b, o, none⟩) t.es.length c) := (Blk.ext hB3 hE39).cell 0
  by_cases hlt : i < t.es.length
  · obtain ⟨b2, o2, e, e', _, he, _, hcell⟩ := hA3.at_ hlt
    injection e' with e'
    injection e' with e1 e2
    subst e1; subst e2
    have hem := List.mem_of_getElem? he
    have hpl := mayP_len (hg.path e hem)
    obtain ⟨l1, l2⟩ := hlaw e hem
    have ep : w9.cell? ⟨b, o + i * 2 + 0, none⟩ = some (.string (su e.path)) := hE39.cell (hcell 0 _ rfl)
    have hcnt : (t.es.take (i + 1)).countP (fun e => inB x y e.path) = (t.es.take i).countP (fun e => inB x y e.path) + if inB x y e.path then 1 else 0 := by
      rw [List.take_add_one, he, Option.toList_some, List.countP_append, List.countP_singleton]
    have hcle : (t.es.take i).countP (fun e => inB x y e.path) ≤ 26 := by
      have := List.countP_le_length (p := fun e => inB x y e.path) (l := t.es.take i)
      rw [List.length_take] at this
      omega
    repeat' (first | refine xmv rfl ?_ | refine xas rfl ?_ | refine xld rfl rfl (by with_reducible assumption) ?_ | refine xixn rfl rfl rfl (by omega) ?_ | refine xfa rfl rfl rfl ?_ | refine xln rfl rfl ?_ | refine xnil ?_ | refine xpk rfl rfl rfl rfl ?_ | refine xgy' rfl ?_ | refine xgn' rfl ?_ | refine xex rfl rfl ?_ | refine xnot rfl ?_ | refine xnc rfl ?_ | refine xeqn rfl rfl rfl ?_ | refine xnen rfl rfl rfl ?_ | refine xadd rfl rfl (by omega) (by omega) ?_ | refine xsub rfl rfl (by omega) (by omega) ?_ | refine xmul rfl rfl (by omega) (by omega) ?_ | refine xaddu rfl rfl (by omega) (by omega) ?_ | refine xsubu rfl rfl (by omega) (by omega) ?_ | refine xquo rfl rfl (by omega) (by omega) (by omega) ?_ | refine xrem rfl rfl (by omega) (by omega) (by omega) ?_ | refine xt_eql rfl rfl (by omega) ?_ | refine xf_eql rfl rfl (by omega) ?_ | refine xt_neq rfl rfl (by omega) ?_ | refine xf_neq rfl rfl (by omega) ?_ | refine xt_lss rfl rfl (by omega) ?_ | refine xf_lss rfl rfl (by omega) ?_ | refine xt_leq rfl rfl (by omega) ?_ | refine xf_leq rfl rfl (by omega) ?_ | refine xt_gtr rfl rfl (by omega) ?_ | refine xf_gtr rfl rfl (by omega) ?_ | refine xt_geq rfl rfl (by omega) ?_ | refine xf_geq rfl rfl (by omega) ?_ | refine tseq ?_ | refine tct rfl ?_ | refine tcf rfl ?_ | refine tskip ?_ | refine tblock ?_ | refine tblk ?_ | refine texit rfl ?_ | fail)
    refine treg (by kernel_rfl) ?_
    repeat' (first | refine xmv rfl ?_ | refine xas rfl ?_ | refine xld rfl rfl (by with_reducible assumption) ?_ | refine xixn rfl rfl rfl (by omega) ?_ | refine xfa rfl rfl rfl ?_ | refine xln rfl rfl ?_ | refine xnil ?_ | refine xpk rfl rfl rfl rfl ?_ | refine xgy' rfl ?_ | refine xgn' rfl ?_ | refine xex rfl rfl ?_ | refine xnot rfl ?_ | refine xnc rfl ?_ | refine xeqn rfl rfl rfl ?_ | refine xnen rfl rfl rfl ?_ | refine xadd rfl rfl (by omega) (by omega) ?_ | refine xsub rfl rfl (by omega) (by omega) ?_ | refine xmul rfl rfl (by omega) (by omega) ?_ | refine xaddu rfl rfl (by omega) (by omega) ?_ | refine xsubu rfl rfl (by omega) (by omega) ?_ | refine xquo rfl rfl (by omega) (by omega) (by omega) ?_ | refine xrem rfl rfl (by omega) (by omega) (by omega) ?_ | refine xt_eql rfl rfl (by omega) ?_ | refine xf_eql rfl rfl (by omega) ?_ | refine xt_neq rfl rfl (by omega) ?_ | refine xf_neq rfl rfl (by omega) ?_ | refine xt_lss rfl rfl (by omega) ?_ | refine xf_lss rfl rfl (by omega) ?_ | refine xt_leq rfl rfl (by omega) ?_ | refine xf_leq rfl rfl (by omega) ?_ | refine xt_gtr rfl rfl (by omega) ?_ | refine xf_gtr rfl rfl (by omega) ?_ | refine xt_geq rfl rfl (by omega) ?_ | refine xf_geq rfl rfl (by omega) ?_ | refine tseq ?_ | refine tct rfl ?_ | refine tcf rfl ?_ | refine tskip ?_ | refine tblock ?_ | refine tblk ?_ | refine texit rfl ?_ | fail)
    refine treg (by kernel_rfl) ?_
    repeat' (first | refine xizq i (o + i * 2) rfl rfl rfl rfl rfl hlt ?_ | refine xmv rfl ?_ | refine xas rfl ?_ | refine xld rfl rfl (by with_reducible assumption) ?_ | refine xixn rfl rfl rfl (by omega) ?_ | refine xfa rfl rfl rfl ?_ | refine xln rfl rfl ?_ | refine xnil ?_ | refine xpk rfl rfl rfl rfl ?_ | refine xgy' rfl ?_ | refine xgn' rfl ?_ | refine xex rfl rfl ?_ | refine xnot rfl ?_ | refine xnc rfl ?_ | refine xeqn rfl rfl rfl ?_ | refine xnen rfl rfl rfl ?_ | refine xadd rfl rfl (by omega) (by omega) ?_ | refine xsub rfl rfl (by omega) (by omega) ?_ | refine xmul rfl rfl (by omega) (by omega) ?_ | refine xaddu rfl rfl (by omega) (by omega) ?_ | refine xsubu rfl rfl (by omega) (by omega) ?_ | refine xquo rfl rfl (by omega) (by omega) (by omega) ?_ | refine xrem rfl rfl (by omega) (by omega) (by omega) ?_ | refine xt_eql rfl rfl (by omega) ?_ | refine xf_eql rfl rfl (by omega) ?_ | refine xt_neq rfl rfl (by omega) ?_ | refine xf_neq rfl rfl (by omega) ?_ | refine xt_lss rfl rfl (by omega) ?_ | refine xf_lss rfl rfl (by omega) ?_ | refine xt_leq rfl rfl (by omega) ?_ | refine xf_leq rfl rfl (by omega) ?_ | refine xt_gtr rfl rfl (by omega) ?_ | refine xf_gtr rfl rfl (by omega) ?_ | refine xt_geq rfl rfl (by omega) ?_ | refine xf_geq rfl rfl (by omega) ?_ | refine tseq ?_ | refine tct rfl ?_ | refine tcf rfl ?_ | refine tskip ?_ | refine tblock ?_ | refine tblk ?_ | refine texit rfl ?_ | fail)
    refine tcut (α := Unit) (fun _ => [(7, .pointer (some ⟨g7, 0, none⟩)), (8, .string (su x)), (9, .string (su y)), (10, .pointer (some ⟨g10, 0, none⟩)), (12, .int .i64 (((t.es.take i).countP (fun e => inB x y e.path) : Nat) : Int)), (13, .int .i64 (i : Int)), (14, .string (su e.path)), (15, .bool (inB x y e.path))]) (fun _ w' => Ext w9 w') ?_ ?_
    · unfold inB
      refine goL ?_
      refine xcallE rfl rfl (runder_does w9 e.path x (by omega) (by omega)) (fun r w10 h10 => ?_)
      obtain ⟨rfl, hE10⟩ := h10
      cases u1 : underP e.path x with
      | true =>
        refine goL ?_
        exact tfin ⟨(), sub ⟨rfl, rfl, rfl, rfl, rfl, rfl, rfl, rfl⟩, hE10⟩
      | false =>
      refine goL ?_
      refine xcallE rfl rfl (runder_does w10 e.path y (by omega) (by omega)) (fun r w11 h11 => ?_)
      obtain ⟨rfl, hE11⟩ := h11
      have hE11 := hE10.t hE11
      cases u2 : underP e.path y with
      | true =>
        refine goL ?_
        exact tfin ⟨(), sub ⟨rfl, rfl, rfl, rfl, rfl, rfl, rfl, rfl⟩, hE11⟩
      | false =>
      refine goL ?_
      refine xcallE rfl rfl (runder_does w11 x e.path (by omega) (by omega)) (fun r w12 h12 => ?_)
      obtain ⟨rfl, hE12⟩ := h12
      have hE12 := Fr.t hE11 hE12
      cases u3 : underP x e.path with
      | true =>
        refine goL ?_
        exact tfin ⟨(), sub ⟨rfl, rfl, rfl, rfl, rfl, rfl, rfl, rfl⟩, hE12⟩
      | false =>
      refine goL ?_
      refine xcallE rfl rfl (runder_does w12 y e.path (by omega) (by omega)) (fun r w13 h13 => ?_)
      obtain ⟨rfl, hE13⟩ := h13
      have hE13 := Fr.t hE12 hE13
      refine goL ?_
      exact tfin ⟨(), sub ⟨rfl, rfl, rfl, rfl, rfl, rfl, rfl, rfl⟩, hE13⟩
    rintro _ w10 hE10
    have hE710 := hE79.t hE10
    have hE310 := hE39.t hE10
    refine goL ?_
    refine xlda (t := 25) (Blk.ext hB7 hE710) rfl rfl ?_
    refine goL ?_
    refine xcallE rfl rfl (find_does w10 _ _ u.es e.path (hT7.ext hE710).e) (fun r w11 h11 => ?_)
    obtain ⟨rfl, hE11⟩ := h11
    have hE711 := hE710.t hE11
    have hE311 := hE310.t hE11
    cases hin : inB x y e.path with
    | false =>
      rw [l2 hin]
      rw [hin] at hcnt
      simp only [Option.getD_none, Option.isSome_none]
      repeat' (first | refine xbne rfl rfl ?_ | refine go1L ?_ | fail)
      exact tfin ⟨i + 1, sub ⟨rfl, rfl, rfl, rfl, ieq (by rw [hcnt]; rfl), rfl⟩, ⟨(hE9.t (hE10.t hE11)).d, hlt⟩, (by show t.es.length - (i + 1) < t.es.length - i; omega)⟩
    | true =>
      obtain ⟨k, hf, hk⟩ := l1 hin
      rw [hf]
      rw [hin] at hcnt
      simp only [Option.getD_some, Option.isSome_some]
      have hkl : k < l5.length := by
        have := (List.getElem?_eq_some_iff.1 hk).1
        omega
      have hgi := hg.inr e hem
      obtain ⟨q, hq⟩ := Int.eq_ofNat_of_zero_le hgi.1
      obtain ⟨bn, on, ya, rfl, _, hya, _, hcn⟩ := hAN3.at_ (i := q) (by omega)
      obtain ⟨bu, ou, yb, rfl, _, hyb, _, hcu⟩ := hAN7.at_ hkl
      have d0 : w11.drew.cell? ⟨g7, 0, none⟩ = some (.slice (some ⟨b, o, none⟩) t.es.length c) := (Blk.ext hB3 hE311.ed).cell 0
      have d1 : w11.drew.cell? ⟨g7, 1, none⟩ = some (.slice (some ⟨bn, on, none⟩) nvs.length d) := (Blk.ext hB3 hE311.ed).cell 1
      have d2 : w11.drew.cell? ⟨g10, 1, none⟩ = some (.slice (some ⟨bu, ou, none⟩) l5.length d5) := (Blk.ext hB7 hE711.ed).cell 1
      have den : w11.drew.cell? ⟨b, o + i * 2 + 1, none⟩ = some (.int .i64 (q : Int)) := by rw [← hq]; exact hE311.ed.cell (hcell 1 _ rfl)
      have dya : ∀ j z, (ndC ya)[j]? = some z → w11.drew.cell? ⟨bn, on + q * 12 + j, none⟩ = some z := fun j z hz => hE311.ed.cell (hcn j z hz)
      have dyb : ∀ j z, (ndC yb)[j]? = some z → w11.drew.cell? ⟨bu, ou + k * 12 + j, none⟩ = some z := fun j z hz => hE711.ed.cell (hcu j z hz)
      have hsame : yb.n = ya.n := by
        have h1 := hT7.get hyb
        rw [hk] at h1
        have h2 := hT3.getD hya
        rw [hq, Int.toNat_natCast] at h1
        rw [← Option.some.inj h1, h2]
      repeat' (first | refine xbne rfl rfl ?_ | refine xizq i (o + i * 2) rfl rfl rfl rfl rfl hlt ?_ | refine xizq k (ou + k * 12) rfl rfl rfl rfl rfl hkl ?_ | refine xizq q (on + q * 12) rfl rfl rfl rfl rfl (by omega) ?_ | refine xldz (cs := ndC yb) rfl rfl dyb ?_ | refine xldz (cs := ndC ya) rfl rfl dya ?_ | refine go1L ?_ | fail)
      refine xcallE rfl rfl (rsame_does w11.drew yb ya ((hT7.i yb (List.mem_of_getElem? hyb)).ext hE711.ed) ((hT3.i ya (List.mem_of_getElem? hya)).ext hE311.ed)) (fun r w12 h12 => ?_)
      obtain ⟨rfl, hE12⟩ := h12
      rw [decide_eq_true hsame]
      refine goL ?_
      exact tfin ⟨i + 1, sub ⟨rfl, rfl, rfl, rfl, ieq (by rw [hcnt]; simp), rfl⟩, ⟨(hE9.t (hE10.t hE11)).t ((Fr.drew _ _).t hE12), hlt⟩, (by show t.es.length - (i + 1) < t.es.length - i; omega)⟩
  · obtain rfl : i = t.es.length := by omega
    rw [List.take_length, ← hulen]
    refine goL ?_
    refine xcallE rfl rfl (told6_does w9) (fun r w10 h10 => ?_)
    obtain ⟨rfl, hE10⟩ := h10
    have m1 : w10.cell? ⟨g10, 0, none⟩ = some (.slice A5 u.es.length c5) := (Blk.ext hB7 (hE79.t hE10)).cell 0
    have hul : u.es.length ≤ 26 := by
      rw [hulen]
      exact Nat.le_trans (List.countP_le_length) hlen26
    refine goL ?_
    exact tret1 rfl rfl ⟨rfl, hE03.t (hE39.t hE10)⟩
end Eng
end Go.Proofs.YtleaanenpimanaaGreatDoor
