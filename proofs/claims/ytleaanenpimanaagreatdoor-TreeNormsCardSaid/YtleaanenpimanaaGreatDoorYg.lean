/-
  Laws of made trees: what all of them need; classes.
-/
import Derived.Test.YtleaanenpimanaaGreatDoorYf
import Derived.Test.YtleaanenpimanaaGreatDoorWp
import Derived.Test.YtleaanenpimanaaGreatDoorXe
namespace Go.Proofs.YtleaanenpimanaaGreatDoor
open Go.RowKit
namespace Eng
attribute [local irreducible] xs T

/-- What is known of Make. -/
def MkD : Prop := ∀ (w : World) (v : Value) (zs : List Int), IRow w v zs → Does Tryz.prog 32 #[v] w fun r w' => ∃ ve vn nvs, r = .agg #[ve, vn] ∧ TrV w' ve vn nvs (mkT (zs.map uN)) ∧ Ext w w'
theorem may_nodes {t : Tre} (h : mayT t = true) : ∀ n ∈ t.ns, nodeOK n = true := by
  obtain ⟨es, ns⟩ := t
  unfold mayT at h
  simp only [Bool.and_eq_true, decide_eq_true_eq] at h
  have := ((ordB_iff ns es none 0 (Nat.zero_le _)).1 h.1.1.2).2.2.2.1
  intro n hn
  obtain ⟨i, hi, rfl⟩ := List.getElem_of_mem hn
  have h2 := this i (Nat.zero_le _) hi
  rwa [List.getD_eq_getElem?_getD, List.getElem?_eq_getElem hi] at h2
theorem node_rows {n : Nd} (h : nodeOK n = true) : NdL n := by
  have hm : metaOK n = true := by
    unfold nodeOK at h
    rw [Bool.and_eq_true] at h
    exact h.1
  unfold metaOK aclOK at hm
  simp only [Bool.and_eq_true, decide_eq_true_eq] at hm
  refine ⟨by omega, by omega, ?_⟩
  by_cases h2 : n.kind = 2
  · have := (file_pc (node_file h h2)).2.2.2.2; omega
  · have hb := (node_small h).1
    have key : n.data = [] := by
      unfold nodeOK at h
      rw [if_neg h2] at h
      split at h
      · simp [noData, noText] at h
        exact h.2.1.1.2
      · split at h
        · simp [noData] at h
          exact h.2.1.1.1.1.2
        · split at h
          · simp [noData, noText] at h
            exact h.2.1.1.1.1.1.2
          · simp at h
    rw [key]; exact Nat.zero_le _
theorem may_ok {t : Tre} (h : mayT t = true) : NsOK t.ns ∧ (∀ n ∈ t.ns, NdL n) ∧ TsOK t := by
  have hn := may_nodes h
  have h1 : NsOK t.ns := fun n hnn => by have := (node_small (hn n hnn)).1; omega
  exact ⟨h1, fun n hnn => node_rows (hn n hnn), ⟨h1, fun n hnn => by have := (node_small (hn n hnn)).2; omega, fun e he => by have := mayP_len (mayT_path h e he); omega⟩⟩
theorem may_ns {t : Tre} (h : mayT t = true) : t.ns.length ≤ t.es.length := by
  rw [← first_all h]
  have key : ∀ (l : List En) (u : Nat), finU u l ≤ u + l.length := by
    intro l
    induction l with
    | nil => intro u; exact Nat.le_refl _
    | cons e l ih =>
      intro u
      rw [finU]
      have := ih (if e.node < u then u else u + 1)
      rw [List.length_cons]
      split at this <;> rename_i hh
      · rw [if_pos hh]; omega
      · rw [if_neg hh]; omega
  have := key t.es 0
  omega
theorem may_one {t : Tre} (h : mayT t = true) : 1 ≤ t.es.length := by
  unfold mayT at h
  simp only [Bool.and_eq_true, decide_eq_true_eq] at h
  exact h.1.1.1.1
theorem pw_get {α : Type} {R : α → α → Prop} {l : List α} (h : l.Pairwise R) {i : Nat} {a b : α} (ha : l[i]? = some a) (hb : l[i + 1]? = some b) : R a b := by
  obtain ⟨h1, rfl⟩ := List.getElem?_eq_some_iff.1 ha
  obtain ⟨h2, rfl⟩ := List.getElem?_eq_some_iff.1 hb
  exact List.pairwise_iff_getElem.1 h i (i + 1) h1 h2 (by omega)

set_option maxRecDepth 20000 in
set_option maxHeartbeats 8000000 in
theorem treeClasses_core (mk : MkD) (w : World) (v : Value) (zs : List Int) (hv : IRow w v zs) : Does Tryz.prog 6 #[v] w fun r w' => r = .bool true ∧ Ext w w' := by
  refine does1 Tryz.func6 rfl (by kernel_rfl) ?_
  have hN : ∀ {a b c : World} {g : Nat}, Ext a b → Fr (· = g) b c → a.heap.size ≤ g → Ext a c := fun h1 h2 hg => h1.trans h2 fun j hj e => absurd hj (by omega)
  refine goL ?_
  refine xcallE rfl rfl (mk w v zs hv) (fun r w1 h1 => ?_)
  obtain ⟨ve, vn, nvs, rfl, hT1, hE1⟩ := h1
  have hmay := mkT_may (zs.map uN)
  have hlen26 := mkT_len (zs.map uN)
  obtain ⟨t, ht⟩ : ∃ t, t = mkT (zs.map uN) := ⟨_, rfl⟩
  rw [← ht] at hT1 hmay hlen26
  have hg := may_good hmay
  have hns := may_ns hmay
  have hT1' := hT1
  obtain ⟨A, c, rfl, hc1, hc2, hA⟩ := hT1.e.op enC_len
  obtain ⟨N, d, rfl, _, _, _⟩ := hT1.n.op ndC_len
  have hlen := hT1.len
  refine goL ?_
  refine xalloc (z := .agg #[.slice none 0 0, .slice none 0 0]) (by kernel_rfl) (fun w2 hB2 hE2 hs2 => ?_)
  refine xsta hB2 rfl rfl (by kernel_rfl) rfl (one_cells (l := [.slice A t.es.length c, .slice N nvs.length d]) rfl) (fun w3 hB3 hF3 => ?_)
  have hE13 : Ext w1 w3 := hN hE2 hF3 (Nat.le_refl _)
  have hE03 := hE1.t hE13
  obtain ⟨g3, hg3⟩ : ∃ g3, g3 = w1.heap.size := ⟨_, rfl⟩
  rw [← hg3] at hB3 ⊢
  have hA3 := hA.ext hE13
  have hT3 := hT1'.ext hE13
  refine goL ?_
  refine tloop (α := Nat) (fun i => [(3, .pointer (some ⟨g3, 0, none⟩)), (4, .int .i64 ((finU 0 (t.es.take i) : Nat) : Int)), (5, .int .i64 (i : Int))]) (fun i w' => Ext w3 w' ∧ i ≤ t.es.length) (fun i => t.es.length - i) 0 (sub ⟨rfl, rfl, rfl⟩) ⟨Fr.refl _ _, Nat.zero_le _⟩ ?_
  rintro i w4 ⟨hE4, hi⟩
  have m0 : w4.cell? ⟨g3, 0, none⟩ = some (.slice A t.es.length c) := (Blk.ext hB3 hE4).cell 0
  by_cases hlt : i < t.es.length
  · obtain ⟨b, o, e, rfl, _, he, _, hcell⟩ := hA3.at_ hlt
    have hem := List.mem_of_getElem? he
    have ep : w4.drew.cell? ⟨b, o + i * 2 + 0, none⟩ = some (.string (su e.path)) := hE4.ed.cell (hcell 0 _ rfl)
    have m0d : w4.drew.cell? ⟨g3, 0, none⟩ = some (.slice (some ⟨b, o, none⟩) t.es.length c) := m0
    obtain ⟨cl1, cl2, cl3⟩ := class_law hmay hem
    have hfc := first_count hmay he
    obtain ⟨cl, hcl⟩ : ∃ cl, cl = classT t e.path := ⟨_, rfl⟩
    rw [← hcl] at cl1 cl2 cl3 hfc
    repeat' (first | refine xlda (t := 25) (Blk.ext hB3 hE4.ed) rfl rfl ?_ | refine xizq i (o + i * 2) rfl rfl rfl rfl rfl hlt ?_ | refine go1L ?_ | fail)
    refine xcallE rfl rfl (class_does w4.drew _ _ t e.path (hT3.ext hE4.ed).e (by omega)) (fun r w5 h5 => ?_)
    obtain ⟨hO5, hE5⟩ := h5
    rw [← hcl] at hO5
    have hE45 : Ext w4 w5 := (Fr.drew _ _).t hE5
    have hE35 := hE4.t hE45
    obtain ⟨Ac, cc, rfl, _, _, hAc⟩ := hO5.rw.op stC_len
    have hclm : ∀ x ∈ cl, ∃ e' ∈ t.es, e'.path = x := fun x hx => by
      obtain ⟨e', he', hp, _⟩ := findT_mem (cl2 x hx)
      exact ⟨e', he', hp⟩
    have hcll : ∀ x ∈ cl, x.length ≤ 1000000 := fun x hx => by
      obtain ⟨e', he', hp⟩ := hclm x hx
      have := mayP_len (hg.path e' he')
      rw [hp] at this; omega
    refine goL ?_
    refine tloop (α := Nat) (fun k => [(3, .pointer (some ⟨g3, 0, none⟩)), (4, .int .i64 ((finU 0 (t.es.take i) : Nat) : Int)), (5, .int .i64 (i : Int)), (6, .slice Ac cl.length cc), (7, .bool (decide (e.path ∈ cl.take k))), (8, .int .i64 (k : Int))]) (fun k w' => Ext w5 w' ∧ k ≤ cl.length) (fun k => cl.length - k) 0 (sub ⟨rfl, rfl, rfl, rfl, by rw [List.take_zero]; rfl, rfl⟩) ⟨Fr.refl _ _, Nat.zero_le _⟩ ?_
    rintro k w6 ⟨hE6, hk⟩
    have hE36 := hE35.t hE6
    by_cases hkl : k < cl.length
    · obtain ⟨bc, oc, x, rfl, _, hx, _, hcx⟩ := hAc.at_ hkl
      have hxm := List.mem_of_getElem? hx
      have cx : w6.drew.cell? ⟨bc, oc + k, none⟩ = some (.string (su x)) := by
        have := hE6.ed.cell (hcx 0 _ rfl)
        rwa [Nat.mul_one, Nat.add_zero] at this
      repeat' (first | refine xlda (t := 25) (Blk.ext hB3 hE36.ed) rfl rfl ?_ | refine xisq k (oc + k) rfl rfl rfl rfl rfl hkl ?_ | refine go1L ?_ | fail)
      refine xcallE rfl rfl (find_does w6.drew _ _ t.es x (hT3.ext hE36.ed).e) (fun r w7 h7 => ?_)
      obtain ⟨rfl, hE7⟩ := h7
      rw [cl2 x hxm]
      simp only [Option.getD_some, Option.isSome_some]
      have hE67 : Ext w6 w7 := (Fr.drew _ _).t hE7
      have hE57 := hE6.t hE67
      have hE37 := hE36.t hE67
      have n0 : w7.drew.cell? ⟨g3, 0, none⟩ = some (.slice (some ⟨b, o, none⟩) t.es.length c) := (Blk.ext hB3 hE37.ed).cell 0
      have en : w7.drew.cell? ⟨b, o + i * 2 + 1, none⟩ = some (.int .i64 e.node) := hE37.ed.cell (hcell 1 _ rfl)
      have cx7 : w7.drew.cell? ⟨bc, oc + k, none⟩ = some (.string (su x)) := by
        have := hE57.ed.cell (hcx 0 _ rfl)
        rwa [Nat.mul_one, Nat.add_zero] at this
      have htk : cl.take (k + 1) = cl.take k ++ [x] := by rw [List.take_add_one, hx]; rfl
      have fin : ∀ w8, Ext w7 w8 → ∀ env, Sub [(3, .pointer (some ⟨g3, 0, none⟩)), (4, .int .i64 ((finU 0 (t.es.take i) : Nat) : Int)), (5, .int .i64 (i : Int)), (6, .slice (some ⟨bc, oc, none⟩) cl.length cc), (7, .bool (decide (e.path ∈ cl.take (k + 1)))), (8, .int .i64 ((k : Int) + 1))] env → Again (fun k => [(3, .pointer (some ⟨g3, 0, none⟩)), (4, .int .i64 ((finU 0 (t.es.take i) : Nat) : Int)), (5, .int .i64 (i : Int)), (6, .slice (some ⟨bc, oc, none⟩) cl.length cc), (7, .bool (decide (e.path ∈ cl.take k))), (8, .int .i64 (k : Int))]) (fun k w' => Ext w5 w' ∧ k ≤ cl.length) (fun k => cl.length - k) (cl.length - k) env w8 := fun w8 hE8 env hs =>
        ⟨k + 1, hs, ⟨hE57.t hE8, hkl⟩, by show cl.length - (k + 1) < cl.length - k; omega⟩
      cases k with
      | zero =>
        have d7 : w7.drew.drew.cell? ⟨bc, oc + 0, none⟩ = some (.string (su x)) := cx7
        have d0 : w7.drew.drew.cell? ⟨g3, 0, none⟩ = some (.slice (some ⟨b, o, none⟩) t.es.length c) := n0
        have de : w7.drew.drew.cell? ⟨b, o + i * 2 + 0, none⟩ = some (.string (su e.path)) := hE37.ed.ed.cell (hcell 0 _ rfl)
        have hr : decide (e.path ∈ cl.take (0 + 1)) = decide (x = e.path) := by
          rw [htk, List.take_zero, List.nil_append]
          by_cases hxe : x = e.path
          · simp [hxe]
          · have : ¬ e.path = x := fun h => hxe h.symm
            simp [hxe, this]
        have h0 : decide (e.path ∈ cl.take 0) = false := by rw [List.take_zero]; rfl
        rw [h0]
        repeat' (first | refine xizq i (o + i * 2) rfl rfl rfl rfl rfl hlt ?_ | refine xisq 0 (oc + 0) rfl rfl rfl rfl rfl hkl ?_ | refine xucmp (op := .eql) (a := x) (b := e.path) (r := decide (x = e.path)) rfl rfl rfl ?_ | refine go1L ?_ | fail)
        exact tfin (fin _ (Fr.ed (Fr.ed (Fr.refl _ _))) _ (sub ⟨rfl, rfl, rfl, rfl, by rw [hr]; rfl, rfl⟩))
      | succ k =>
        obtain ⟨y, hy⟩ : ∃ y, cl[k]? = some y := ⟨_, List.getElem?_eq_getElem (by omega)⟩
        obtain ⟨bc', oc', y', e', _, hy', _, hcy⟩ := hAc.at_ (i := k) (by omega)
        injection e' with e'
        injection e' with e1 e2
        subst e1; subst e2
        rw [hy] at hy'
        injection hy' with hy'
        subst hy'
        have hless := pw_get cl3 hy hx
        have cy7 : w7.drew.cell? ⟨bc, oc + k, none⟩ = some (.string (su y)) := by
          have := hE57.ed.cell (hcy 0 _ rfl)
          rwa [Nat.mul_one, Nat.add_zero] at this
        repeat' (first | refine xizq i (o + i * 2) rfl rfl rfl rfl rfl hlt ?_ | refine xisq k (oc + k) rfl rfl rfl (by omega) rfl (by omega) ?_ | refine xisq (k + 1) (oc + (k + 1)) rfl rfl rfl rfl rfl hkl ?_ | refine go1L ?_ | fail)
        refine xcallE rfl rfl (rless_does w7.drew y x (hcll y (List.mem_of_getElem? hy)) (hcll x hxm)) (fun r w8 h8 => ?_)
        obtain ⟨rfl, hE8⟩ := h8
        rw [hless]
        have hE78 : Ext w7 w8 := (Fr.drew _ _).t hE8
        have d7 : w8.drew.cell? ⟨bc, oc + (k + 1), none⟩ = some (.string (su x)) := hE8.ed.cell cx7
        have d0 : w8.drew.cell? ⟨g3, 0, none⟩ = some (.slice (some ⟨b, o, none⟩) t.es.length c) := hE8.ed.cell n0
        have de : w8.drew.cell? ⟨b, o + i * 2 + 0, none⟩ = some (.string (su e.path)) := (hE37.t hE78).ed.cell (hcell 0 _ rfl)
        by_cases hin : e.path ∈ cl.take (k + 1)
        · have hr : decide (e.path ∈ cl.take (k + 1 + 1)) = true := by rw [htk]; simp [hin]
          rw [decide_eq_true hin]
          refine goL ?_
          exact tfin (fin _ (hE78.t (Fr.drew _ _)) _ (sub ⟨rfl, rfl, rfl, rfl, by rw [hr]; rfl, rfl⟩))
        · have hr : decide (e.path ∈ cl.take (k + 1 + 1)) = decide (x = e.path) := by
            rw [htk]
            by_cases hxe : x = e.path
            · simp [hxe]
            · have : ¬ e.path = x := fun h => hxe h.symm
              simp [hin, hxe, this]
          rw [decide_eq_false hin]
          repeat' (first | refine xizq i (o + i * 2) rfl rfl rfl rfl rfl hlt ?_ | refine xisq (k + 1) (oc + (k + 1)) rfl rfl rfl rfl rfl hkl ?_ | refine xucmp (op := .eql) (a := x) (b := e.path) (r := decide (x = e.path)) rfl rfl rfl ?_ | refine go1L ?_ | fail)
          exact tfin (fin _ (hE78.t (Fr.drew _ _)) _ (sub ⟨rfl, rfl, rfl, rfl, by rw [hr]; rfl, rfl⟩))
    · obtain rfl : k = cl.length := by omega
      rw [List.take_length, decide_eq_true cl1]
      have h0l : 0 < cl.length := List.length_pos_iff.2 (fun h => by rw [h] at cl1; cases cl1)
      obtain ⟨bc, oc, x, rfl, _, hx, _, hcx⟩ := hAc.at_ h0l
      have cx : w6.drew.cell? ⟨bc, oc + 0, none⟩ = some (.string (su x)) := by
        have := hE6.ed.cell (hcx 0 _ rfl)
        rwa [Nat.mul_one, Nat.add_zero] at this
      have n0 : w6.drew.cell? ⟨g3, 0, none⟩ = some (.slice (some ⟨b, o, none⟩) t.es.length c) := (Blk.ext hB3 hE36.ed).cell 0
      have de : w6.drew.cell? ⟨b, o + i * 2 + 0, none⟩ = some (.string (su e.path)) := hE36.ed.cell (hcell 0 _ rfl)
      have hhead : cl.head? = some x := by
        cases cl with
        | nil => cases hx
        | cons q r => exact hx
      have hfin0 : finU 0 (t.es.take i) ≤ 26 := by
        have := may_ns hmay
        have h2 : ∀ (l : List En) (u : Nat), finU u l ≤ u + l.length := by
          intro l
          induction l with
          | nil => intro u; exact Nat.le_refl _
          | cons e l ih =>
            intro u
            rw [finU]
            have := ih (if e.node < u then u else u + 1)
            rw [List.length_cons]
            split at this <;> rename_i hh
            · rw [if_pos hh]; omega
            · rw [if_neg hh]; omega
        have := h2 (t.es.take i) 0
        rw [List.length_take] at this
        omega
      by_cases hxe : x = e.path
      · rw [hhead, hxe, if_pos rfl] at hfc
        repeat' (first | refine xizq i (o + i * 2) rfl rfl rfl rfl rfl hlt ?_ | refine xisq 0 (oc + 0) rfl rfl rfl rfl rfl h0l ?_ | refine xucmp (op := .eql) (a := x) (b := e.path) (r := true) rfl rfl (by simp [cmpU, hxe]) ?_ | refine go1L ?_ | fail)
        exact tfin ⟨i + 1, sub ⟨rfl, ieq (by rw [hfc]; omega), rfl⟩, ⟨hE36.d, hlt⟩, (by show t.es.length - (i + 1) < t.es.length - i; omega)⟩
      · rw [hhead, if_neg (fun h => hxe (Option.some.inj h))] at hfc
        repeat' (first | refine xizq i (o + i * 2) rfl rfl rfl rfl rfl hlt ?_ | refine xisq 0 (oc + 0) rfl rfl rfl rfl rfl h0l ?_ | refine xucmp (op := .eql) (a := x) (b := e.path) (r := false) rfl rfl (by simp [cmpU, hxe]) ?_ | refine go1L ?_ | fail)
        exact tfin ⟨i + 1, sub ⟨rfl, ieq (by rw [hfc]; omega), rfl⟩, ⟨hE36.d, hlt⟩, (by show t.es.length - (i + 1) < t.es.length - i; omega)⟩
  · obtain rfl : i = t.es.length := by omega
    rw [List.take_length, first_all hmay]
    refine goL ?_
    refine xcallE rfl rfl (told6_does w4) (fun r w5 h5 => ?_)
    obtain ⟨rfl, hE5⟩ := h5
    have m1 : w5.cell? ⟨g3, 1, none⟩ = some (.slice N nvs.length d) := (Blk.ext hB3 (hE4.t hE5)).cell 1
    rw [hlen] at m1
    refine goL ?_
    exact tret1 rfl rfl ⟨rfl, hE03.t (hE4.t hE5)⟩
end Eng
end Go.Proofs.YtleaanenpimanaaGreatDoor
