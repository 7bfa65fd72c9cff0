/-
  Laws of made trees: kids; parts.
-/
import Derived.Test.YtleaanenpimanaaGreatDoorYg
namespace Go.Proofs.YtleaanenpimanaaGreatDoor
open Go.RowKit
namespace Eng
attribute [local irreducible] xs T

theorem sum_take_le (l : List Nat) (i : Nat) : (l.take i).sum ≤ l.sum := by
  conv => rhs; rw [← List.take_append_drop i l, List.sum_append]
  omega

set_option maxRecDepth 20000 in
set_option maxHeartbeats 8000000 in
theorem treeKids_core (mk : MkD) (w : World) (v : Value) (zs : List Int) (hv : IRow w v zs) : Does Tryz.prog 7 #[v] w fun r w' => r = .bool true ∧ Ext w w' := by
  refine does1 Tryz.func7 rfl (by kernel_rfl) ?_
  have hN : ∀ {a b c : World} {g : Nat}, Ext a b → Fr (· = g) b c → a.heap.size ≤ g → Ext a c := fun h1 h2 hg => h1.trans h2 fun j hj e => absurd hj (by omega)
  refine goL ?_
  refine xcallE rfl rfl (mk w v zs hv) (fun r w1 h1 => ?_)
  obtain ⟨ve, vn, nvs, rfl, hT1, hE1⟩ := h1
  have hmay := mkT_may (zs.map uN)
  have hlen26 := mkT_len (zs.map uN)
  obtain ⟨t, ht⟩ : ∃ t, t = mkT (zs.map uN) := ⟨_, rfl⟩
  rw [← ht] at hT1 hmay hlen26
  have hg := may_good hmay
  have hns := may_ns hmay
  have hone := may_one hmay
  have hT1' := hT1
  obtain ⟨A, c, rfl, hc1, hc2, hA⟩ := hT1.e.op enC_len
  obtain ⟨N, d, rfl, hd1, hd2, hAN⟩ := hT1.n.op ndC_len
  have hlen := hT1'.len
  refine goL ?_
  refine xalloc (z := .agg #[.slice none 0 0, .slice none 0 0]) (by kernel_rfl) (fun w2 hB2 hE2 hs2 => ?_)
  refine xsta hB2 rfl rfl (by kernel_rfl) rfl (one_cells (l := [.slice A t.es.length c, .slice N nvs.length d]) rfl) (fun w3 hB3 hF3 => ?_)
  have hE13 : Ext w1 w3 := hN hE2 hF3 (Nat.le_refl _)
  have hE03 := hE1.t hE13
  obtain ⟨g3, hg3⟩ : ∃ g3, g3 = w1.heap.size := ⟨_, rfl⟩
  rw [← hg3] at hB3 ⊢
  have hA3 := hA.ext hE13
  have hAN3 := hAN.ext hE13
  have hT3 := hT1'.ext hE13
  obtain ⟨sL, hsL⟩ : ∃ sL : List Nat, sL = t.es.map fun d => (kidsT t d.path).length := ⟨_, rfl⟩
  have hsum : sL.sum = t.es.length - 1 := by rw [hsL]; exact kids_count hmay
  refine goL ?_
  refine tloop (α := Nat) (fun i => [(3, .pointer (some ⟨g3, 0, none⟩)), (4, .int .i64 (((sL.take i).sum : Nat) : Int)), (5, .int .i64 (i : Int))]) (fun i w' => Ext w3 w' ∧ i ≤ t.es.length) (fun i => t.es.length - i) 0 (sub ⟨rfl, by rw [List.take_zero]; rfl, rfl⟩) ⟨Fr.refl _ _, Nat.zero_le _⟩ ?_
  rintro i w4 ⟨hE4, hi⟩
  have m0 : w4.cell? ⟨g3, 0, none⟩ = some (.slice A t.es.length c) := (Blk.ext hB3 hE4).cell 0
  by_cases hlt : i < t.es.length
  · obtain ⟨b, o, e, rfl, _, he, _, hcell⟩ := hA3.at_ hlt
    have hem := List.mem_of_getElem? he
    have ep : w4.cell? ⟨b, o + i * 2 + 0, none⟩ = some (.string (su e.path)) := hE4.cell (hcell 0 _ rfl)
    obtain ⟨k1, k2, k3⟩ := kids_law hmay hem
    obtain ⟨kd, hkd⟩ : ∃ kd, kd = kidsT t e.path := ⟨_, rfl⟩
    rw [← hkd] at k1 k2 k3
    have hst : (sL.take (i + 1)).sum = (sL.take i).sum + kd.length := by
      rw [List.take_add_one, hsL, List.getElem?_map, he, hkd]
      simp
    have hs1 := sum_take_le sL (i + 1)
    have hpl := mayP_len (hg.path e hem)
    repeat' (first | refine xizq i (o + i * 2) rfl rfl rfl rfl rfl hlt ?_ | refine go1L ?_ | fail)
    refine xlda (t := 25) (Blk.ext hB3 hE4) rfl rfl ?_
    refine goL ?_
    refine xcallE rfl rfl (kids_does w4 _ _ t e.path (hT3.ext hE4).e (by omega)) (fun r w5 h5 => ?_)
    obtain ⟨hO5, hE5⟩ := h5
    rw [← hkd] at hO5
    have hE35 := hE4.t hE5
    obtain ⟨Ac, cc, rfl, _, _, hAc⟩ := hO5.rw.op stC_len
    have hkl3 : ∀ x ∈ kd, x.length ≤ 400000 := fun x hx => by
      rw [hkd] at hx
      obtain ⟨e', he', hp, rfl⟩ := kid_mem hx
      obtain ⟨h1, _⟩ := par_some hp
      have hm : lastP e'.path ∈ partsP e'.path := by
        unfold lastP
        obtain ⟨l, z, hl⟩ : ∃ l z, partsP e'.path = l ++ [z] := ⟨_, _, (List.dropLast_concat_getLast h1).symm⟩
        rw [hl]; simp
      have := (nameU_len (parts_name hm)).2
      omega
    refine goL ?_
    refine tloop (α := Nat) (fun k => [(3, .pointer (some ⟨g3, 0, none⟩)), (4, .int .i64 (((sL.take (i + 1)).sum : Nat) : Int)), (5, .int .i64 (i : Int)), (6, .string (su e.path)), (7, .slice Ac kd.length cc), (8, .int .i64 (k : Int))]) (fun k w' => Ext w5 w' ∧ k ≤ kd.length) (fun k => kd.length - k) 0 (sub ⟨rfl, ieq (by rw [hst]; omega), rfl, rfl, rfl, rfl⟩) ⟨Fr.refl _ _, Nat.zero_le _⟩ ?_
    rintro k w6 ⟨hE6, hk⟩
    have hE36 := hE35.t hE6
    by_cases hkl : k < kd.length
    · obtain ⟨bc, oc, x, rfl, _, hx, _, hcx⟩ := hAc.at_ hkl
      have hxm := List.mem_of_getElem? hx
      obtain ⟨e', he', hj, hf⟩ := k1 x hxm
      have cx : w6.cell? ⟨bc, oc + k, none⟩ = some (.string (su x)) := by
        have := hE6.cell (hcx 0 _ rfl)
        rwa [Nat.mul_one, Nat.add_zero] at this
      repeat' (first | refine xisq k (oc + k) rfl rfl rfl rfl rfl hkl ?_ | refine go1L ?_ | fail)
      refine xcallE rfl rfl (rjoin_does w6 e.path x (by omega) (hkl3 x hxm)) (fun r w7 h7 => ?_)
      obtain ⟨rfl, hE7⟩ := h7
      rw [joinR_some hj]
      dsimp only
      have hE37 := hE36.t hE7
      refine goL ?_
      refine xlda (t := 25) (Blk.ext hB3 hE37) rfl rfl ?_
      refine goL ?_
      refine xcallE rfl rfl (find_does w7 _ _ t.es e'.path (hT3.ext hE37).e) (fun r w8 h8 => ?_)
      obtain ⟨rfl, hE8⟩ := h8
      rw [hf]
      simp only [Option.getD_some, Option.isSome_some]
      have hE68 := hE7.t hE8
      have cx8 : w8.drew.cell? ⟨bc, oc + k, none⟩ = some (.string (su x)) := by
        have := (hE6.t hE68).ed.cell (hcx 0 _ rfl)
        rwa [Nat.mul_one, Nat.add_zero] at this
      cases k with
      | zero =>
        refine goL ?_
        exact tfin ⟨1, sub ⟨rfl, rfl, rfl, rfl, rfl, rfl⟩, ⟨(hE6.t hE68).d, hkl⟩, (by show kd.length - 1 < kd.length - 0; omega)⟩
      | succ k =>
        obtain ⟨y, hy⟩ : ∃ y, kd[k]? = some y := ⟨_, List.getElem?_eq_getElem (by omega)⟩
        obtain ⟨bc', oc', y', e', _, hy', _, hcy⟩ := hAc.at_ (i := k) (by omega)
        injection e' with e'
        injection e' with e1 e2
        subst e1; subst e2
        rw [hy] at hy'
        injection hy' with hy'
        subst hy'
        have hless : Op.bytesLess y x = true := pw_get k2 hy hx
        have cy8 : w8.drew.cell? ⟨bc, oc + k, none⟩ = some (.string (su y)) := by
          have := (hE6.t hE68).ed.cell (hcy 0 _ rfl)
          rwa [Nat.mul_one, Nat.add_zero] at this
        have hle : cmpU .leq x y = some false := by
          have h1 := bl_asym hless
          have h2 : ¬ x = y := fun h => by rw [h, bl_irr] at hless; cases hless
          simp [cmpU, h1, h2]
        repeat' (first | refine xisq k (oc + k) rfl rfl rfl (by omega) rfl (by omega) ?_ | refine xisq (k + 1) (oc + (k + 1)) rfl rfl rfl rfl rfl hkl ?_ | refine xucmp (op := .leq) (a := x) (b := y) (r := false) rfl rfl hle ?_ | refine go1L ?_ | fail)
        exact tfin ⟨k + 1 + 1, sub ⟨rfl, rfl, rfl, rfl, rfl, rfl⟩, ⟨(hE6.t hE68).d, hkl⟩, (by show kd.length - (k + 1 + 1) < kd.length - (k + 1); omega)⟩
    · obtain rfl : k = kd.length := by omega
      have hgi := hg.inr e hem
      obtain ⟨q, hq⟩ := Int.eq_ofNat_of_zero_le hgi.1
      obtain ⟨bn, on, y, rfl, _, hy, _, hcn⟩ := hAN3.at_ (i := q) (by omega)
      have n0 : w6.drew.cell? ⟨g3, 0, none⟩ = some (.slice (some ⟨b, o, none⟩) t.es.length c) := (Blk.ext hB3 hE36.ed).cell 0
      have n1 : w6.drew.cell? ⟨g3, 1, none⟩ = some (.slice (some ⟨bn, on, none⟩) nvs.length d) := (Blk.ext hB3 hE36.ed).cell 1
      have en : w6.drew.cell? ⟨b, o + i * 2 + 1, none⟩ = some (.int .i64 (q : Int)) := by rw [← hq]; exact hE36.ed.cell (hcell 1 _ rfl)
      have ek : w6.drew.cell? ⟨bn, on + q * 12 + 0, none⟩ = some (.int .i64 y.n.kind) := hE36.ed.cell (hcn 0 _ rfl)
      have hkind : kindAt t.ns e.node = y.n.kind := by
        unfold kindAt
        rw [hq, Int.toNat_natCast, hT3.getD hy]
      by_cases h0 : kd = []
      · have hl0 : kd.length = 0 := by rw [h0]; rfl
        refine goL ?_
        exact tfin ⟨i + 1, sub ⟨rfl, rfl, rfl⟩, ⟨hE36.d, hlt⟩, (by show t.es.length - (i + 1) < t.es.length - i; omega)⟩
      · have hl0 : 0 < kd.length := List.length_pos_iff.2 h0
        have hk1 : y.n.kind = 1 := by rw [← hkind]; exact k3 h0
        repeat' (first | refine xizq i (o + i * 2) rfl rfl rfl rfl rfl hlt ?_ | refine xizq q (on + q * 12) rfl rfl rfl rfl rfl (by omega) ?_ | refine go1L ?_ | fail)
        exact tfin ⟨i + 1, sub ⟨rfl, rfl, rfl⟩, ⟨hE36.d, hlt⟩, (by show t.es.length - (i + 1) < t.es.length - i; omega)⟩
  · obtain rfl : i = t.es.length := by omega
    have hall : (sL.take t.es.length).sum = t.es.length - 1 := by
      rw [List.take_of_length_le (by rw [hsL, List.length_map]; exact Nat.le_refl _), hsum]
    rw [hall]
    refine goL ?_
    refine xcallE rfl rfl (told6_does w4) (fun r w5 h5 => ?_)
    obtain ⟨rfl, hE5⟩ := h5
    have m1 : w5.cell? ⟨g3, 0, none⟩ = some (.slice A t.es.length c) := (Blk.ext hB3 (hE4.t hE5)).cell 0
    refine goL ?_
    exact tret1 rfl rfl ⟨rfl, hE03.t (hE4.t hE5)⟩
end Eng
end Go.Proofs.YtleaanenpimanaaGreatDoor
