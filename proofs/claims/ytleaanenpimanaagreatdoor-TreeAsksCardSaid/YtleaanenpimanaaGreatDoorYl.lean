/-
  The reference's SameTree; which arguments are few.
-/
import Derived.Test.YtleaanenpimanaaGreatDoorWy
import Derived.Test.YtleaanenpimanaaGreatDoorWx
import Derived.Test.YtleaanenpimanaaGreatDoorYm
namespace Go.Proofs.YtleaanenpimanaaGreatDoor
open Go.RowKit
namespace Eng
attribute [local irreducible] xs T


theorem sameT_def (a b : Tre) : sameT a b = match normT a, normT b with
    | some x, some y => alikeT x y
    | _, _ => false := by
  unfold sameT
  cases normT a with
  | none => rfl
  | some x =>
    cases normT b with
    | none => rfl
    | some y =>
      dsimp only
      unfold alikeT
      obtain ⟨e, n⟩ := x
      obtain ⟨e', n'⟩ := y
      rw [Bool.eq_iff_iff]
      simp

set_option maxRecDepth 20000 in
set_option maxHeartbeats 4000000 in
theorem sameTree_does (w : World) (ve vn ve' vn' : Value) (l l' : List NdV) (a b : Tre) (ha : TrV w ve vn l a) (hb : TrV w ve' vn' l' b) (ta : TsOK a) (tb : TsOK b) (la : a.es.length ≤ 1000000 ∧ a.ns.length ≤ 1000000) (lb : b.es.length ≤ 1000000 ∧ b.ns.length ≤ 1000000) : Does Tryz.prog 24 #[.agg #[ve, vn], .agg #[ve', vn']] w fun r w' => r = .bool (sameT a b) ∧ Ext w w' := by
  refine does2 Tryz.func24 rfl (by kernel_rfl) ?_
  rw [sameT_def]
  have hN : ∀ {a b c : World} {g : Nat}, Ext a b → Fr (· = g) b c → a.heap.size ≤ g → Ext a c := fun h1 h2 hg => h1.trans h2 fun j hj e => absurd hj (by omega)
  refine goL ?_
  refine xbox rfl (fun w1 hB1 hE1 hs1 => ?_)
  have hB1' : Blk w1 w.heap.size 25 #[ve, vn] := hB1
  refine goL ?_
  refine xbox rfl (fun w2 hB2 hE2 hs2 => ?_)
  have hB2' : Blk w2 w1.heap.size 25 #[ve', vn'] := hB2
  have hE02 : Ext w w2 := hE1.t hE2
  refine goL ?_
  refine xlda (t := 25) (hB1'.ext hE2) rfl rfl ?_
  refine goL ?_
  refine xcallE rfl rfl (rnorm_does w2 ve vn l a (ha.ext hE02) ta la.1 la.2) (fun r w3 h3 => ?_)
  obtain ⟨hE3, h3⟩ := h3
  have hE03 : Ext w w3 := hE02.t hE3
  have hB23 := hB2'.ext hE3
  cases hn : normT a with
  | none =>
    rw [hn] at h3
    dsimp only at h3
    subst h3
    refine goL ?_
    refine xalloc (z := .agg #[.slice none 0 0, .slice none 0 0]) (by kernel_rfl) (fun w4 hB4 hE4 hs4 => ?_)
    refine xsta hB4 rfl rfl (by kernel_rfl) rfl (one_cells (l := [.slice none 0 0, .slice none 0 0]) rfl) (fun w5 hB5 hF5 => ?_)
    have hE35 : Ext w3 w5 := hN hE4 hF5 (Nat.le_refl _)
    refine goL ?_
    refine xlda (t := 25) (hB23.ext hE35) rfl rfl ?_
    refine goL ?_
    refine xcallE rfl rfl (rnorm_does w5 ve' vn' l' b (hb.ext (hE03.t hE35)) tb lb.1 lb.2) (fun r w6 h6 => ?_)
    obtain ⟨hE6, h6⟩ := h6
    have hE06 := (hE03.t hE35).t hE6
    cases hn2 : normT b with
    | none =>
      rw [hn2] at h6
      dsimp only at h6
      subst h6
      refine goL ?_
      refine xalloc (z := .agg #[.slice none 0 0, .slice none 0 0]) (by kernel_rfl) (fun w7 hB7 hE7 hs7 => ?_)
      refine xsta hB7 rfl rfl (by kernel_rfl) rfl (one_cells (l := [.slice none 0 0, .slice none 0 0]) rfl) (fun w8 hB8 hF8 => ?_)
      refine goL ?_
      exact tret1 rfl rfl ⟨rfl, hE06.t (hN hE7 hF8 (Nat.le_refl _))⟩
    | some y =>
      rw [hn2] at h6
      dsimp only at h6
      obtain ⟨ve2, vn2, l2, rfl, hT2⟩ := h6
      obtain ⟨A2, c2, rfl, _, _, _⟩ := hT2.e.op enC_len
      obtain ⟨N2, d2, rfl, _, _, _⟩ := hT2.n.op ndC_len
      refine goL ?_
      refine xalloc (z := .agg #[.slice none 0 0, .slice none 0 0]) (by kernel_rfl) (fun w7 hB7 hE7 hs7 => ?_)
      refine xsta hB7 rfl rfl (by kernel_rfl) rfl (one_cells (l := [.slice A2 y.es.length c2, .slice N2 l2.length d2]) rfl) (fun w8 hB8 hF8 => ?_)
      refine goL ?_
      exact tret1 rfl rfl ⟨rfl, hE06.t (hN hE7 hF8 (Nat.le_refl _))⟩
  | some x =>
    rw [hn] at h3
    dsimp only at h3
    obtain ⟨ve1, vn1, l1, rfl, hT1⟩ := h3
    have hT1' := hT1
    obtain ⟨A1, c1, rfl, _, _, _⟩ := hT1.e.op enC_len
    obtain ⟨N1, d1, rfl, _, _, _⟩ := hT1.n.op ndC_len
    refine goL ?_
    refine xalloc (z := .agg #[.slice none 0 0, .slice none 0 0]) (by kernel_rfl) (fun w4 hB4 hE4 hs4 => ?_)
    refine xsta hB4 rfl rfl (by kernel_rfl) rfl (one_cells (l := [.slice A1 x.es.length c1, .slice N1 l1.length d1]) rfl) (fun w5 hB5 hF5 => ?_)
    have hE35 : Ext w3 w5 := hN hE4 hF5 (Nat.le_refl _)
    refine goL ?_
    refine xlda (t := 25) (hB23.ext hE35) rfl rfl ?_
    refine goL ?_
    refine xcallE rfl rfl (rnorm_does w5 ve' vn' l' b (hb.ext (hE03.t hE35)) tb lb.1 lb.2) (fun r w6 h6 => ?_)
    obtain ⟨hE6, h6⟩ := h6
    have hE06 := (hE03.t hE35).t hE6
    cases hn2 : normT b with
    | none =>
      rw [hn2] at h6
      dsimp only at h6
      subst h6
      refine goL ?_
      refine xalloc (z := .agg #[.slice none 0 0, .slice none 0 0]) (by kernel_rfl) (fun w7 hB7 hE7 hs7 => ?_)
      refine xsta hB7 rfl rfl (by kernel_rfl) rfl (one_cells (l := [.slice none 0 0, .slice none 0 0]) rfl) (fun w8 hB8 hF8 => ?_)
      refine goL ?_
      exact tret1 rfl rfl ⟨rfl, hE06.t (hN hE7 hF8 (Nat.le_refl _))⟩
    | some y =>
      rw [hn2] at h6
      dsimp only at h6
      obtain ⟨ve2, vn2, l2, rfl, hT2⟩ := h6
      have hT2' := hT2
      obtain ⟨A2, c2, rfl, _, _, _⟩ := hT2.e.op enC_len
      obtain ⟨N2, d2, rfl, _, _, _⟩ := hT2.n.op ndC_len
      refine goL ?_
      refine xalloc (z := .agg #[.slice none 0 0, .slice none 0 0]) (by kernel_rfl) (fun w7 hB7 hE7 hs7 => ?_)
      refine xsta hB7 rfl rfl (by kernel_rfl) rfl (one_cells (l := [.slice A2 y.es.length c2, .slice N2 l2.length d2]) rfl) (fun w8 hB8 hF8 => ?_)
      have hE68 : Ext w6 w8 := hN hE7 hF8 (Nat.le_refl _)
      have hE58 : Ext w5 w8 := hE6.t hE68
      refine goL ?_
      refine xlda (t := 25) (Blk.ext hB5 hE58) rfl rfl ?_
      refine goL ?_
      refine xlda (t := 25) hB8 rfl rfl ?_
      refine goL ?_
      refine xcallE rfl rfl (alike_does w8 _ _ _ _ l1 l2 x y (hT1'.ext (hE35.t hE58)) (hT2'.ext hE68)) (fun r w9 h9 => ?_)
      obtain ⟨rfl, hE9⟩ := h9
      refine goL ?_
      exact tret1 rfl rfl ⟨rfl, (hE06.t hE68).t hE9⟩

/-! Which arguments are few. -/
def fewM (n : Nd) : Bool := n.attrs.all (fun a => decide (a.name.length ≤ 250) && decide (a.value.length ≤ 250)) && decide (n.attrs.length ≤ 12) && decide (n.acl.length ≤ 20)
def fewN (n : Nd) : Bool := n.data.all (fun p => decide (p.data.length ≤ 300)) && decide (n.data.length ≤ 20) && decide (n.target.length ≤ 300) && fewM n
def fewT (t : Tre) : Bool := t.es.all (fun e => decide (e.path.length ≤ 120)) && t.ns.all fewN && decide (t.es.length ≤ 30) && decide (t.ns.length ≤ 30)
theorem all_drop {α : Type} {p : α → Bool} {l : List α} {i : Nat} {x : α} (h : l[i]? = some x) : (l.drop i).all p = (p x && (l.drop (i + 1)).all p) := by
  rw [drop_get h, List.all_cons]

set_option maxRecDepth 20000 in
set_option maxHeartbeats 4000000 in
theorem few4_does (w : World) (x : NdV) (hx : NdIn w x) : Does Tryz.prog 79 #[.agg (mtC x).toArray] w fun r w' => r = .bool (fewM x.n) ∧ Ext w w' := by
  refine does1 Tryz.func79 rfl (by kernel_rfl) ?_
  obtain ⟨A, c, eva, hc1, hc2, hA⟩ := hx.a.op attC_len
  obtain ⟨A2, c2, evc, _, _, _⟩ := hx.c.op acC_len
  refine goL ?_
  refine xbox rfl (fun w1 hB1 hE1 hs1 => ?_)
  have hB : Blk w1 w.heap.size 44 (mtC x).toArray := hB1
  have k4 : w1.cell? ⟨w.heap.size, 4, none⟩ = some (.slice A x.n.attrs.length c) := by rw [← eva]; exact hB.cell 4
  have k5 : w1.cell? ⟨w.heap.size, 5, none⟩ = some (.slice A2 x.n.acl.length c2) := by rw [← evc]; exact hB.cell 5
  refine goL ?_
  refine tloop (α := Nat) (fun i => [(1, .pointer (some ⟨w.heap.size, 0, none⟩)), (3, .int .i64 (i : Int))]) (fun i w' => Ext w1 w' ∧ i ≤ x.n.attrs.length ∧ ((x.n.attrs.drop i).all (fun a => decide (a.name.length ≤ 250) && decide (a.value.length ≤ 250)) && decide (x.n.attrs.length ≤ 12) && decide (x.n.acl.length ≤ 20)) = fewM x.n) (fun i => x.n.attrs.length - i) 0 (sub ⟨rfl, rfl⟩) ⟨Fr.refl _ _, Nat.zero_le _, rfl⟩ ?_
  rintro i w2 ⟨hE2, hi, hgo⟩
  have m4 : w2.cell? ⟨w.heap.size, 4, none⟩ = some (.slice A x.n.attrs.length c) := hE2.cell k4
  have m5 : w2.cell? ⟨w.heap.size, 5, none⟩ = some (.slice A2 x.n.acl.length c2) := hE2.cell k5
  by_cases hlt : i < x.n.attrs.length
  · obtain ⟨b, o, a, rfl, _, ha, _, hcell⟩ := hA.at_ hlt
    have c0 : w2.cell? ⟨b, o + i * 2 + 0, none⟩ = some (.string (su a.name)) := (hE1.t hE2).ee.cell (hcell 0 _ rfl)
    have c1 : w2.cell? ⟨b, o + i * 2 + 1, none⟩ = some (.string (su a.value)) := (hE1.t hE2).ee.cell (hcell 1 _ rfl)
    rw [all_drop ha] at hgo
    by_cases h1 : a.name.length ≤ 250
    · rw [decide_eq_true h1] at hgo
      by_cases h2 : a.value.length ≤ 250
      · rw [decide_eq_true h2] at hgo
        repeat' (first | refine xizq i (o + i * 2) rfl rfl rfl rfl rfl hlt ?_ | refine xuln rfl rfl ?_ | refine go1L ?_ | fail)
        exact tfin ⟨i + 1, sub ⟨rfl, rfl⟩, ⟨hE2, hlt, by rw [← hgo]; simp⟩, (by show x.n.attrs.length - (i + 1) < x.n.attrs.length - i; omega)⟩
      · rw [decide_eq_false h2] at hgo
        repeat' (first | refine xizq i (o + i * 2) rfl rfl rfl rfl rfl hlt ?_ | refine xuln rfl rfl ?_ | refine go1L ?_ | fail)
        exact tret1 rfl rfl ⟨by rw [← hgo]; simp, hE1.t hE2⟩
    · rw [decide_eq_false h1] at hgo
      repeat' (first | refine xizq i (o + i * 2) rfl rfl rfl rfl rfl hlt ?_ | refine xuln rfl rfl ?_ | refine go1L ?_ | fail)
      exact tret1 rfl rfl ⟨by rw [← hgo]; simp, hE1.t hE2⟩
  · obtain rfl : i = x.n.attrs.length := by omega
    rw [List.drop_length, List.all_nil, Bool.true_and] at hgo
    by_cases h1 : x.n.attrs.length ≤ 12
    · rw [decide_eq_true h1, Bool.true_and] at hgo
      by_cases h2 : x.n.acl.length ≤ 20
      · rw [decide_eq_true h2] at hgo
        refine goL ?_
        exact tret1 rfl rfl ⟨by rw [← hgo], hE1.t hE2⟩
      · rw [decide_eq_false h2] at hgo
        refine goL ?_
        exact tret1 rfl rfl ⟨by rw [← hgo], hE1.t hE2⟩
    · rw [decide_eq_false h1, Bool.false_and] at hgo
      refine goL ?_
      exact tret1 rfl rfl ⟨by rw [← hgo], hE1.t hE2⟩

set_option maxRecDepth 20000 in
set_option maxHeartbeats 4000000 in
theorem few5_does (w : World) (x : NdV) (hx : NdIn w x) : Does Tryz.prog 46 #[.agg (ndC x).toArray] w fun r w' => r = .bool (fewN x.n) ∧ Ext w w' := by
  refine does1 Tryz.func46 rfl (by kernel_rfl) ?_
  obtain ⟨A, c, evd, hc1, hc2, hA⟩ := hx.d.op pcC_len
  refine goL ?_
  refine xbox rfl (fun w1 hB1 hE1 hs1 => ?_)
  have hB : Blk w1 w.heap.size 47 (ndC x).toArray := hB1
  have k8 : w1.cell? ⟨w.heap.size, 8, none⟩ = some (.slice A x.n.data.length c) := by rw [← evd]; exact hB.cell 8
  have k9 : w1.cell? ⟨w.heap.size, 9, none⟩ = some (.string (su x.n.target)) := hB.cell 9
  have hmt : ∀ j u, (mtC x)[j]? = some u → w1.cell? ⟨w.heap.size, 0 + 1 + j, none⟩ = some u := fun j u hu => by rw [Nat.zero_add, hB.cell]; exact mt_get hu
  refine goL ?_
  refine tloop (α := Nat) (fun i => [(1, .pointer (some ⟨w.heap.size, 0, none⟩)), (3, .int .i64 (i : Int))]) (fun i w' => Ext w1 w' ∧ i ≤ x.n.data.length ∧ ((x.n.data.drop i).all (fun p => decide (p.data.length ≤ 300)) && decide (x.n.data.length ≤ 20) && decide (x.n.target.length ≤ 300) && fewM x.n) = fewN x.n) (fun i => x.n.data.length - i) 0 (sub ⟨rfl, rfl⟩) ⟨Fr.refl _ _, Nat.zero_le _, rfl⟩ ?_
  rintro i w2 ⟨hE2, hi, hgo⟩
  have m8 : w2.cell? ⟨w.heap.size, 8, none⟩ = some (.slice A x.n.data.length c) := hE2.cell k8
  have m9 : w2.cell? ⟨w.heap.size, 9, none⟩ = some (.string (su x.n.target)) := hE2.cell k9
  by_cases hlt : i < x.n.data.length
  · obtain ⟨b, o, a, rfl, _, ha, _, hcell⟩ := hA.at_ hlt
    have c1 : w2.cell? ⟨b, o + i * 2 + 1, none⟩ = some (.string (su a.data)) := (hE1.t hE2).ee.cell (hcell 1 _ rfl)
    rw [all_drop ha] at hgo
    by_cases h1 : a.data.length ≤ 300
    · rw [decide_eq_true h1, Bool.true_and] at hgo
      repeat' (first | refine xizq i (o + i * 2) rfl rfl rfl rfl rfl hlt ?_ | refine xuln rfl rfl ?_ | refine go1L ?_ | fail)
      exact tfin ⟨i + 1, sub ⟨rfl, rfl⟩, ⟨hE2, hlt, hgo⟩, (by show x.n.data.length - (i + 1) < x.n.data.length - i; omega)⟩
    · rw [decide_eq_false h1] at hgo
      repeat' (first | refine xizq i (o + i * 2) rfl rfl rfl rfl rfl hlt ?_ | refine xuln rfl rfl ?_ | refine go1L ?_ | fail)
      exact tret1 rfl rfl ⟨by rw [← hgo]; simp, hE1.t hE2⟩
  · obtain rfl : i = x.n.data.length := by omega
    rw [List.drop_length, List.all_nil, Bool.true_and] at hgo
    by_cases h1 : x.n.data.length ≤ 20
    · rw [decide_eq_true h1, Bool.true_and] at hgo
      by_cases h2 : x.n.target.length ≤ 300
      · rw [decide_eq_true h2, Bool.true_and] at hgo
        repeat' (first | refine xuln rfl rfl ?_ | refine go1L ?_ | fail)
        refine xldz (cs := mtC x) rfl rfl (fun j u hu => hE2.cell (hmt j u hu)) ?_
        refine goL ?_
        refine xcallE rfl rfl (few4_does w2 x (hx.ext (hE1.t hE2))) (fun r w3 h3 => ?_)
        obtain ⟨rfl, hE3⟩ := h3
        refine goL ?_
        exact tret1 rfl rfl ⟨by rw [← hgo], (hE1.t hE2).t hE3⟩
      · rw [decide_eq_false h2, Bool.false_and] at hgo
        repeat' (first | refine xuln rfl rfl ?_ | refine go1L ?_ | fail)
        exact tret1 rfl rfl ⟨by rw [← hgo], hE1.t hE2⟩
    · rw [decide_eq_false h1] at hgo
      repeat' (first | refine xuln rfl rfl ?_ | refine go1L ?_ | fail)
      exact tret1 rfl rfl ⟨by rw [← hgo]; simp, hE1.t hE2⟩

set_option maxRecDepth 20000 in
set_option maxHeartbeats 4000000 in
theorem few6_does (w : World) (ve vn : Value) (nvs : List NdV) (t : Tre) (hv : TrV w ve vn nvs t) : Does Tryz.prog 12 #[.agg #[ve, vn]] w fun r w' => r = .bool (fewT t) ∧ Ext w w' := by
  refine does1 Tryz.func12 rfl (by kernel_rfl) ?_
  have hv0 := hv
  obtain ⟨A, c, rfl, hc1, hc2, hA⟩ := hv.e.op enC_len
  obtain ⟨A', c', rfl, hc1', hc2', hA'⟩ := hv.n.op ndC_len
  have hlen := hv.len
  refine goL ?_
  refine xbox rfl (fun w1 hB1 hE1 hs1 => ?_)
  have hB : Blk w1 w.heap.size 25 #[.slice A t.es.length c, .slice A' nvs.length c'] := hB1
  have k0 : w1.cell? ⟨w.heap.size, 0, none⟩ = some (.slice A t.es.length c) := hB.cell 0
  have k1 : w1.cell? ⟨w.heap.size, 1, none⟩ = some (.slice A' t.ns.length c') := by rw [← hlen]; exact hB.cell 1
  refine goL ?_
  refine tloop (α := Nat) (fun i => [(1, .pointer (some ⟨w.heap.size, 0, none⟩)), (3, .int .i64 (i : Int))]) (fun i w' => Ext w1 w' ∧ i ≤ t.es.length ∧ ((t.es.drop i).all (fun e => decide (e.path.length ≤ 120)) && t.ns.all fewN && decide (t.es.length ≤ 30) && decide (t.ns.length ≤ 30)) = fewT t) (fun i => t.es.length - i) 0 (sub ⟨rfl, rfl⟩) ⟨Fr.refl _ _, Nat.zero_le _, rfl⟩ ?_
  rintro i w2 ⟨hE2, hi, hgo⟩
  have m0 : w2.cell? ⟨w.heap.size, 0, none⟩ = some (.slice A t.es.length c) := hE2.cell k0
  by_cases hlt : i < t.es.length
  · obtain ⟨b, o, e, rfl, _, he, _, hcell⟩ := hA.at_ hlt
    have c0 : w2.cell? ⟨b, o + i * 2 + 0, none⟩ = some (.string (su e.path)) := (hE1.t hE2).ee.cell (hcell 0 _ rfl)
    rw [all_drop he] at hgo
    by_cases h1 : e.path.length ≤ 120
    · rw [decide_eq_true h1, Bool.true_and] at hgo
      repeat' (first | refine xizq i (o + i * 2) rfl rfl rfl rfl rfl hlt ?_ | refine xuln rfl rfl ?_ | refine go1L ?_ | fail)
      exact tfin ⟨i + 1, sub ⟨rfl, rfl⟩, ⟨hE2, hlt, hgo⟩, (by show t.es.length - (i + 1) < t.es.length - i; omega)⟩
    · rw [decide_eq_false h1] at hgo
      repeat' (first | refine xizq i (o + i * 2) rfl rfl rfl rfl rfl hlt ?_ | refine xuln rfl rfl ?_ | refine go1L ?_ | fail)
      exact tret1 rfl rfl ⟨by rw [← hgo]; simp, hE1.t hE2⟩
  · obtain rfl : i = t.es.length := by omega
    rw [List.drop_length, List.all_nil, Bool.true_and] at hgo
    refine goL ?_
    refine tloop (α := Nat) (fun i => [(1, .pointer (some ⟨w.heap.size, 0, none⟩)), (4, .int .i64 (i : Int))]) (fun i w' => Ext w1 w' ∧ i ≤ t.ns.length ∧ ((t.ns.drop i).all fewN && decide (t.es.length ≤ 30) && decide (t.ns.length ≤ 30)) = fewT t) (fun i => t.ns.length - i) 0 (sub ⟨rfl, rfl⟩) ⟨hE2, Nat.zero_le _, hgo⟩ ?_
    clear hgo m0 hE2 hi
    rintro i w3 ⟨hE3, hi, hgo⟩
    have m0 : w3.cell? ⟨w.heap.size, 0, none⟩ = some (.slice A t.es.length c) := hE3.cell k0
    have m1 : w3.cell? ⟨w.heap.size, 1, none⟩ = some (.slice A' t.ns.length c') := hE3.cell k1
    by_cases hlt : i < t.ns.length
    · obtain ⟨b, o, y, rfl, _, hy, _, hcell⟩ := hA'.at_ (i := i) (by omega)
      have hyn := hv0.get hy
      rw [all_drop hyn] at hgo
      repeat' (first | refine xizq i (o + i * 12) rfl rfl rfl rfl rfl (by omega) ?_ | refine go1L ?_ | fail)
      refine xldz (cs := ndC y) rfl rfl (fun j u hu => (hE1.t hE3).ee.cell (hcell j u hu)) ?_
      refine xcallE rfl rfl (few5_does w3 y ((hv0.i y (List.mem_of_getElem? hy)).ext (hE1.t hE3))) (fun r w4 h4 => ?_)
      obtain ⟨rfl, hE4⟩ := h4
      cases hf : fewN y.n with
      | true =>
        rw [hf, Bool.true_and] at hgo
        refine goL ?_
        exact tfin ⟨i + 1, sub ⟨rfl, rfl⟩, ⟨hE3.t hE4, hlt, hgo⟩, (by show t.ns.length - (i + 1) < t.ns.length - i; omega)⟩
      | false =>
        rw [hf] at hgo
        refine goL ?_
        exact tret1 rfl rfl ⟨by rw [← hgo]; simp, (hE1.t hE3).t hE4⟩
    · obtain rfl : i = t.ns.length := by omega
      rw [List.drop_length, List.all_nil, Bool.true_and] at hgo
      by_cases h1 : t.es.length ≤ 30
      · rw [decide_eq_true h1, Bool.true_and] at hgo
        by_cases h2 : t.ns.length ≤ 30
        · rw [decide_eq_true h2] at hgo
          refine goL ?_
          exact tret1 rfl rfl ⟨by rw [← hgo], hE1.t hE3⟩
        · rw [decide_eq_false h2] at hgo
          refine goL ?_
          exact tret1 rfl rfl ⟨by rw [← hgo], hE1.t hE3⟩
      · rw [decide_eq_false h1, Bool.false_and] at hgo
        refine goL ?_
        exact tret1 rfl rfl ⟨by rw [← hgo], hE1.t hE3⟩
theorem few_ok {t : Tre} (h : fewT t = true) : NsOK t.ns ∧ (∀ n ∈ t.ns, NdL n) ∧ TsOK t ∧ t.es.length ≤ 30 ∧ t.ns.length ≤ 30 := by
  unfold fewT at h
  simp only [Bool.and_eq_true, List.all_eq_true, decide_eq_true_eq] at h
  obtain ⟨⟨⟨h1, h2⟩, h3⟩, h4⟩ := h
  have hn : ∀ n ∈ t.ns, bytesP n.data ≤ 6000 ∧ n.target.length ≤ 300 ∧ NdL n := fun n hn => by
    have := h2 n hn
    unfold fewN fewM at this
    simp only [Bool.and_eq_true, List.all_eq_true, decide_eq_true_eq] at this
    obtain ⟨⟨⟨g1, g2⟩, g3⟩, ⟨g4, g5⟩, g6⟩ := this
    refine ⟨?_, g3, ⟨by omega, by omega, by omega⟩⟩
    have key : ∀ l : List Pce, (∀ p ∈ l, p.data.length ≤ 300) → bytesP l ≤ 300 * l.length := by
      intro l
      induction l with
      | nil => intro _; exact Nat.le_refl _
      | cons p l ih =>
        intro h
        have := ih fun q hq => h q (by simp [hq])
        have := h p (by simp)
        rw [bytesP, List.length_cons]
        omega
    have := key n.data g1
    omega
  exact ⟨fun n hnn => by have := (hn n hnn).1; omega, fun n hnn => (hn n hnn).2.2, ⟨fun n hnn => by have := (hn n hnn).1; omega, fun n hnn => by have := (hn n hnn).2.1; omega, fun e he => by have := h1 e he; omega⟩, h3, h4⟩
end Eng
end Go.Proofs.YtleaanenpimanaaGreatDoor
