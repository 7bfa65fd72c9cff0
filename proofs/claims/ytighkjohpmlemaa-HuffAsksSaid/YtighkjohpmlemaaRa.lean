/-
  The reference's heaps: least, out.
-/
import Derived.Test.YtighkjohpmlemaaEngE
import Derived.Test.YtighkjohpmlemaaEngF
import Derived.Test.YtighkjohpmlemaaHj
import Derived.Test.YtighkjohpmlemaaPe
namespace Go.Proofs.Ytighkjohpmlemaa
open Go.RowKit
namespace Eng
attribute [local irreducible] xs T

/-- The cells of heaps: the weight, the slice of what it holds. -/
def hcs (hs : List (Int × Value)) : List Value := hs.flatMap fun h => [.int .i64 h.1, h.2]
theorem hcs_len (hs : List (Int × Value)) : (hcs hs).length = hs.length * 2 := by
  induction hs with
  | nil => rfl
  | cons h r ih => unfold hcs at *; rw [List.flatMap_cons, List.length_append, ih]; simp; omega
theorem hcs_app (a b : List (Int × Value)) : hcs (a ++ b) = hcs a ++ hcs b := by simp [hcs]
theorem hcs_get : ∀ {hs : List (Int × Value)} {i : Nat} {h : Int × Value}, hs[i]? = some h → (hcs hs)[2 * i]? = some (.int .i64 h.1) ∧ (hcs hs)[2 * i + 1]? = some h.2
  | [], i, h, e => by simp at e
  | x :: r, 0, h, e => by
    have : x = h := by simpa using e
    subst this
    exact ⟨rfl, rfl⟩
  | x :: r, i + 1, h, e => by
    have ih := hcs_get (hs := r) (i := i) (h := h) (by simpa using e)
    have e1 : hcs (x :: r) = .int .i64 x.1 :: x.2 :: hcs r := by simp [hcs]
    rw [e1, show 2 * (i + 1) = 2 * i + 1 + 1 from by omega]
    simpa using ih
theorem hcs_take (hs : List (Int × Value)) : ∀ k, hcs (hs.take k) = (hcs hs).take (2 * k) := by
  induction hs with
  | nil => intro k; simp [hcs]
  | cons x r ih =>
    intro k
    cases k with
    | zero => simp [hcs]
    | succ k =>
      have e1 : hcs (x :: r) = .int .i64 x.1 :: x.2 :: hcs r := by simp [hcs]
      rw [List.take_succ_cons, e1, show 2 * (k + 1) = 2 * k + 1 + 1 from by omega, List.take_succ_cons, List.take_succ_cons, ← ih k]
      simp [hcs]
theorem hcs_drop (hs : List (Int × Value)) : ∀ k, hcs (hs.drop k) = (hcs hs).drop (2 * k) := by
  induction hs with
  | nil => intro k; simp [hcs]
  | cons x r ih =>
    intro k
    cases k with
    | zero => simp
    | succ k =>
      have e1 : hcs (x :: r) = .int .i64 x.1 :: x.2 :: hcs r := by simp [hcs]
      rw [List.drop_succ_cons, e1, show 2 * (k + 1) = 2 * k + 1 + 1 from by omega, List.drop_succ_cons, List.drop_succ_cons, ← ih k]

theorem sl_heaps : SlT 118 120 (.agg #[.int .i64 0, .slice none 0 0]) 2 32 := slT Try.underlying118 (by kernel_rfl)

/-- What a row shows; kept whole. -/
def Cz (w : World) (A : Option Addr) (n : Nat) (vs : List Value) : Prop := 0 < n → ∃ b o, A = some ⟨b, o, none⟩ ∧ b < w.heap.size ∧ ∀ j u, vs[j]? = some u → w.cell? ⟨b, o + j, none⟩ = some u
theorem Row.op {w : World} {v : Value} {n : Nat} {vs : List Value} (h : Row w v n vs) : ∃ A c, v = .slice A n c ∧ n ≤ c ∧ c ≤ 9223372036854775807 ∧ Cz w A n vs := by
  obtain ⟨A, c, h1, h2, h3, h4⟩ := h
  exact ⟨A, c, h1, h2, h3, h4⟩
theorem Cz.at_ {w : World} {A : Option Addr} {n : Nat} {vs : List Value} (h : Cz w A n vs) (hn : 0 < n) : ∃ b o, A = some ⟨b, o, none⟩ ∧ b < w.heap.size ∧ ∀ j u, vs[j]? = some u → w.cell? ⟨b, o + j, none⟩ = some u := h hn

set_option maxRecDepth 20000 in
set_option maxHeartbeats 2000000 in
theorem least_does (w : World) (v : Value) (hs : List (Int × Value)) (hv : Row w v hs.length (hcs hs)) (hl : hs.length ≤ 1000) :
    Does Try.prog 76 #[v] w fun r w' => r = .int .i64 (leastB (hs.map (·.1)) : Int) ∧ Ext w w' := by
  refine does1 Try.func76 rfl (by kernel_rfl) ?_
  obtain ⟨A, c, rfl, hcc, hcm, hA⟩ := hv.op
  repeat' (first | refine xmv rfl ?_ | refine xas rfl ?_ | refine xld rfl rfl (by with_reducible assumption) ?_ | refine xixn rfl rfl rfl (by omega) ?_ | refine xfa rfl rfl rfl ?_ | refine xln rfl rfl ?_ | refine xnil ?_ | refine xpk rfl rfl rfl rfl ?_ | refine xgy' rfl ?_ | refine xgn' rfl ?_ | refine xex rfl rfl ?_ | refine xnot rfl ?_ | refine xnc rfl ?_ | refine xeqn rfl rfl rfl ?_ | refine xnen rfl rfl rfl ?_ | refine xadd rfl rfl (by omega) (by omega) ?_ | refine xsub rfl rfl (by omega) (by omega) ?_ | refine xmul rfl rfl (by omega) (by omega) ?_ | refine xaddu rfl rfl (by omega) (by omega) ?_ | refine xsubu rfl rfl (by omega) (by omega) ?_ | refine xquo rfl rfl (by omega) (by omega) (by omega) ?_ | refine xrem rfl rfl (by omega) (by omega) (by omega) ?_ | refine xt_eql rfl rfl (by omega) ?_ | refine xf_eql rfl rfl (by omega) ?_ | refine xt_neq rfl rfl (by omega) ?_ | refine xf_neq rfl rfl (by omega) ?_ | refine xt_lss rfl rfl (by omega) ?_ | refine xf_lss rfl rfl (by omega) ?_ | refine xt_leq rfl rfl (by omega) ?_ | refine xf_leq rfl rfl (by omega) ?_ | refine xt_gtr rfl rfl (by omega) ?_ | refine xf_gtr rfl rfl (by omega) ?_ | refine xt_geq rfl rfl (by omega) ?_ | refine xf_geq rfl rfl (by omega) ?_ | refine tseq ?_ | refine tct rfl ?_ | refine tcf rfl ?_ | refine tskip ?_ | refine treg (by kernel_rfl) ?_ | refine tdraw (by kernel_rfl) (by decide +kernel) ?_ | refine tblock ?_ | refine tblk ?_ | refine texit rfl ?_ | refine xld rfl rfl (by assumption) ?_)
  refine tloop (α := Nat) (fun i => [(0, .slice A hs.length c), (3, .int .i64 (lstGo (hs.map (·.1)) i : Int)), (4, .int .i64 (i : Int))]) (fun i w' => 1 ≤ i ∧ i ≤ max 1 hs.length ∧ Ext w w') (fun i => hs.length - i) 1 (sub ⟨rfl, ieq (by simp [lstGo]), rfl⟩) ⟨by omega, by omega, Fr.refl _ _⟩ ?_
  rintro i w1 ⟨h1, hi, hE⟩
  by_cases hlt : i < hs.length
  · have hle := (lstGo_le (hs.map (·.1)) i).1
    obtain ⟨b, o, rfl, _, hcell⟩ := hA.at_ (by omega)
    obtain ⟨k, hk⟩ : ∃ k, k = lstGo (hs.map (·.1)) i := ⟨_, rfl⟩
    have hki : k < hs.length := by omega
    obtain ⟨x, hx⟩ : ∃ x, hs[i]? = some x := ⟨_, List.getElem?_eq_getElem hlt⟩
    obtain ⟨y, hy⟩ : ∃ y, hs[k]? = some y := ⟨_, List.getElem?_eq_getElem hki⟩
    have cx : w1.cell? ⟨b, o + 2 * i + 0, none⟩ = some (.int .i64 x.1) := hE.cell (hcell _ _ (hcs_get hx).1)
    have cy : w1.cell? ⟨b, o + 2 * k + 0, none⟩ = some (.int .i64 y.1) := hE.cell (hcell _ _ (hcs_get hy).1)
    have gx : (hs.map (·.1)).getD i 0 = x.1 := by rw [List.getD_eq_getElem?_getD, List.getElem?_map, hx]; rfl
    have gy : (hs.map (·.1)).getD k 0 = y.1 := by rw [List.getD_eq_getElem?_getD, List.getElem?_map, hy]; rfl
    have hstep : lstGo (hs.map (·.1)) (i + 1) = if x.1 < y.1 then i else k := by
      show (if (hs.map (·.1)).getD i 0 < (hs.map (·.1)).getD (lstGo (hs.map (·.1)) i) 0 then i else lstGo (hs.map (·.1)) i) = _
      rw [← hk, gx, gy]
    rw [← hk]
    have fin : ∀ env, Sub [(0, .slice (some ⟨b, o, none⟩) hs.length c), (3, .int .i64 (lstGo (hs.map (·.1)) (i + 1) : Int)), (4, .int .i64 ((i : Int) + 1))] env → Again (fun i : Nat => [(0, .slice (some ⟨b, o, none⟩) hs.length c), (3, .int .i64 (lstGo (hs.map (·.1)) i : Int)), (4, .int .i64 (i : Int))]) (fun i w' => 1 ≤ i ∧ i ≤ max 1 hs.length ∧ Ext w w') (fun i => hs.length - i) (hs.length - i) env w1.drew :=
      fun env hs' => ⟨i + 1, hs', ⟨by omega, by omega, hE.d⟩, (by show hs.length - (i + 1) < hs.length - i; omega)⟩
    by_cases hxy : x.1 < y.1
    · rw [if_pos hxy] at hstep
      rw [hstep] at fin
      repeat' (first | refine xizq i (o + 2 * i) rfl rfl rfl rfl (by omega) (by omega) ?_ | refine xizq k (o + 2 * k) rfl rfl rfl rfl (by omega) (by omega) ?_ | refine xmv rfl ?_ | refine xas rfl ?_ | refine xld rfl rfl (by with_reducible assumption) ?_ | refine xixn rfl rfl rfl (by omega) ?_ | refine xfa rfl rfl rfl ?_ | refine xln rfl rfl ?_ | refine xnil ?_ | refine xpk rfl rfl rfl rfl ?_ | refine xgy' rfl ?_ | refine xgn' rfl ?_ | refine xex rfl rfl ?_ | refine xnot rfl ?_ | refine xnc rfl ?_ | refine xeqn rfl rfl rfl ?_ | refine xnen rfl rfl rfl ?_ | refine xadd rfl rfl (by omega) (by omega) ?_ | refine xsub rfl rfl (by omega) (by omega) ?_ | refine xmul rfl rfl (by omega) (by omega) ?_ | refine xaddu rfl rfl (by omega) (by omega) ?_ | refine xsubu rfl rfl (by omega) (by omega) ?_ | refine xquo rfl rfl (by omega) (by omega) (by omega) ?_ | refine xrem rfl rfl (by omega) (by omega) (by omega) ?_ | refine xt_eql rfl rfl (by omega) ?_ | refine xf_eql rfl rfl (by omega) ?_ | refine xt_neq rfl rfl (by omega) ?_ | refine xf_neq rfl rfl (by omega) ?_ | refine xt_lss rfl rfl (by omega) ?_ | refine xf_lss rfl rfl (by omega) ?_ | refine xt_leq rfl rfl (by omega) ?_ | refine xf_leq rfl rfl (by omega) ?_ | refine xt_gtr rfl rfl (by omega) ?_ | refine xf_gtr rfl rfl (by omega) ?_ | refine xt_geq rfl rfl (by omega) ?_ | refine xf_geq rfl rfl (by omega) ?_ | refine tseq ?_ | refine tct rfl ?_ | refine tcf rfl ?_ | refine tskip ?_ | refine treg (by kernel_rfl) ?_ | refine tdraw (by kernel_rfl) (by decide +kernel) ?_ | refine tblock ?_ | refine tblk ?_ | refine texit rfl ?_ | refine xld rfl rfl (by assumption) ?_)
      exact tfin (fin _ (sub ⟨rfl, rfl, rfl⟩))
    · rw [if_neg hxy] at hstep
      rw [hstep] at fin
      repeat' (first | refine xizq i (o + 2 * i) rfl rfl rfl rfl (by omega) (by omega) ?_ | refine xizq k (o + 2 * k) rfl rfl rfl rfl (by omega) (by omega) ?_ | refine xmv rfl ?_ | refine xas rfl ?_ | refine xld rfl rfl (by with_reducible assumption) ?_ | refine xixn rfl rfl rfl (by omega) ?_ | refine xfa rfl rfl rfl ?_ | refine xln rfl rfl ?_ | refine xnil ?_ | refine xpk rfl rfl rfl rfl ?_ | refine xgy' rfl ?_ | refine xgn' rfl ?_ | refine xex rfl rfl ?_ | refine xnot rfl ?_ | refine xnc rfl ?_ | refine xeqn rfl rfl rfl ?_ | refine xnen rfl rfl rfl ?_ | refine xadd rfl rfl (by omega) (by omega) ?_ | refine xsub rfl rfl (by omega) (by omega) ?_ | refine xmul rfl rfl (by omega) (by omega) ?_ | refine xaddu rfl rfl (by omega) (by omega) ?_ | refine xsubu rfl rfl (by omega) (by omega) ?_ | refine xquo rfl rfl (by omega) (by omega) (by omega) ?_ | refine xrem rfl rfl (by omega) (by omega) (by omega) ?_ | refine xt_eql rfl rfl (by omega) ?_ | refine xf_eql rfl rfl (by omega) ?_ | refine xt_neq rfl rfl (by omega) ?_ | refine xf_neq rfl rfl (by omega) ?_ | refine xt_lss rfl rfl (by omega) ?_ | refine xf_lss rfl rfl (by omega) ?_ | refine xt_leq rfl rfl (by omega) ?_ | refine xf_leq rfl rfl (by omega) ?_ | refine xt_gtr rfl rfl (by omega) ?_ | refine xf_gtr rfl rfl (by omega) ?_ | refine xt_geq rfl rfl (by omega) ?_ | refine xf_geq rfl rfl (by omega) ?_ | refine tseq ?_ | refine tct rfl ?_ | refine tcf rfl ?_ | refine tskip ?_ | refine treg (by kernel_rfl) ?_ | refine tdraw (by kernel_rfl) (by decide +kernel) ?_ | refine tblock ?_ | refine tblk ?_ | refine texit rfl ?_ | refine xld rfl rfl (by assumption) ?_)
      exact tfin (fin _ (sub ⟨rfl, rfl, rfl⟩))
  · repeat' (first | refine xmv rfl ?_ | refine xas rfl ?_ | refine xld rfl rfl (by with_reducible assumption) ?_ | refine xixn rfl rfl rfl (by omega) ?_ | refine xfa rfl rfl rfl ?_ | refine xln rfl rfl ?_ | refine xnil ?_ | refine xpk rfl rfl rfl rfl ?_ | refine xgy' rfl ?_ | refine xgn' rfl ?_ | refine xex rfl rfl ?_ | refine xnot rfl ?_ | refine xnc rfl ?_ | refine xeqn rfl rfl rfl ?_ | refine xnen rfl rfl rfl ?_ | refine xadd rfl rfl (by omega) (by omega) ?_ | refine xsub rfl rfl (by omega) (by omega) ?_ | refine xmul rfl rfl (by omega) (by omega) ?_ | refine xaddu rfl rfl (by omega) (by omega) ?_ | refine xsubu rfl rfl (by omega) (by omega) ?_ | refine xquo rfl rfl (by omega) (by omega) (by omega) ?_ | refine xrem rfl rfl (by omega) (by omega) (by omega) ?_ | refine xt_eql rfl rfl (by omega) ?_ | refine xf_eql rfl rfl (by omega) ?_ | refine xt_neq rfl rfl (by omega) ?_ | refine xf_neq rfl rfl (by omega) ?_ | refine xt_lss rfl rfl (by omega) ?_ | refine xf_lss rfl rfl (by omega) ?_ | refine xt_leq rfl rfl (by omega) ?_ | refine xf_leq rfl rfl (by omega) ?_ | refine xt_gtr rfl rfl (by omega) ?_ | refine xf_gtr rfl rfl (by omega) ?_ | refine xt_geq rfl rfl (by omega) ?_ | refine xf_geq rfl rfl (by omega) ?_ | refine tseq ?_ | refine tct rfl ?_ | refine tcf rfl ?_ | refine tskip ?_ | refine treg (by kernel_rfl) ?_ | refine tdraw (by kernel_rfl) (by decide +kernel) ?_ | refine tblock ?_ | refine tblk ?_ | refine texit rfl ?_ | refine xld rfl rfl (by assumption) ?_)
    refine tret1 rfl rfl ⟨?_, hE⟩
    congr 2
    unfold leastB
    rw [List.length_map]
    by_cases h0 : hs.length = 0
    · have : i = 1 := by omega
      subst this
      rw [h0]
      have := (lstGo_le (hs.map (·.1)) 1).1
      simp [lstGo]
    · have : i = hs.length := by omega
      rw [this]

set_option maxRecDepth 20000 in
set_option maxHeartbeats 2000000 in
theorem out_does (w : World) (v : Value) (hs : List (Int × Value)) (k : Nat) (hv : Row w v hs.length (hcs hs)) (hl : hs.length ≤ 1000) (hk : k < hs.length) (h1 : ∀ h ∈ hs, h.2.oneCell' = true) :
    Does Try.prog 77 #[v, .int .i64 (k : Int)] w fun r w' => OwnZ w' w.heap.size 120 2 r (hs.eraseIdx k).length (hcs (hs.eraseIdx k)) ∧ Ext w w' := by
  refine does2 Try.func77 rfl (by kernel_rfl) ?_
  obtain ⟨A, c, rfl, hcc, hcm, hA⟩ := hv.op
  obtain ⟨b, o, rfl, hb, hcell⟩ := hA.at_ (by omega)
  have hone : ∀ u ∈ hcs hs, u.oneCell' = true := fun u hu => by
    obtain ⟨h, hh, hu⟩ := List.mem_flatMap.1 hu
    rcases List.mem_cons.1 hu with rfl | hu
    · rfl
    · rw [List.mem_singleton.1 hu]; exact h1 h hh
  repeat' (first | refine xmv rfl ?_ | refine xas rfl ?_ | refine xld rfl rfl (by with_reducible assumption) ?_ | refine xixn rfl rfl rfl (by omega) ?_ | refine xfa rfl rfl rfl ?_ | refine xln rfl rfl ?_ | refine xnil ?_ | refine xpk rfl rfl rfl rfl ?_ | refine xgy' rfl ?_ | refine xgn' rfl ?_ | refine xex rfl rfl ?_ | refine xnot rfl ?_ | refine xnc rfl ?_ | refine xeqn rfl rfl rfl ?_ | refine xnen rfl rfl rfl ?_ | refine xadd rfl rfl (by omega) (by omega) ?_ | refine xsub rfl rfl (by omega) (by omega) ?_ | refine xmul rfl rfl (by omega) (by omega) ?_ | refine xaddu rfl rfl (by omega) (by omega) ?_ | refine xsubu rfl rfl (by omega) (by omega) ?_ | refine xquo rfl rfl (by omega) (by omega) (by omega) ?_ | refine xrem rfl rfl (by omega) (by omega) (by omega) ?_ | refine xt_eql rfl rfl (by omega) ?_ | refine xf_eql rfl rfl (by omega) ?_ | refine xt_neq rfl rfl (by omega) ?_ | refine xf_neq rfl rfl (by omega) ?_ | refine xt_lss rfl rfl (by omega) ?_ | refine xf_lss rfl rfl (by omega) ?_ | refine xt_leq rfl rfl (by omega) ?_ | refine xf_leq rfl rfl (by omega) ?_ | refine xt_gtr rfl rfl (by omega) ?_ | refine xf_gtr rfl rfl (by omega) ?_ | refine xt_geq rfl rfl (by omega) ?_ | refine xf_geq rfl rfl (by omega) ?_ | refine tseq ?_ | refine tct rfl ?_ | refine tcf rfl ?_ | refine tskip ?_ | refine treg (by kernel_rfl) ?_ | refine tdraw (by kernel_rfl) (by decide +kernel) ?_ | refine tblock ?_ | refine tblk ?_ | refine texit rfl ?_ | refine xld rfl rfl (by assumption) ?_)
  refine xbz0 sl_heaps (fun w1 hown1 hE1 hs1 => ?_)
  repeat' (first | refine xmv rfl ?_ | refine xas rfl ?_ | refine xld rfl rfl (by with_reducible assumption) ?_ | refine xixn rfl rfl rfl (by omega) ?_ | refine xfa rfl rfl rfl ?_ | refine xln rfl rfl ?_ | refine xnil ?_ | refine xpk rfl rfl rfl rfl ?_ | refine xgy' rfl ?_ | refine xgn' rfl ?_ | refine xex rfl rfl ?_ | refine xnot rfl ?_ | refine xnc rfl ?_ | refine xeqn rfl rfl rfl ?_ | refine xnen rfl rfl rfl ?_ | refine xadd rfl rfl (by omega) (by omega) ?_ | refine xsub rfl rfl (by omega) (by omega) ?_ | refine xmul rfl rfl (by omega) (by omega) ?_ | refine xaddu rfl rfl (by omega) (by omega) ?_ | refine xsubu rfl rfl (by omega) (by omega) ?_ | refine xquo rfl rfl (by omega) (by omega) (by omega) ?_ | refine xrem rfl rfl (by omega) (by omega) (by omega) ?_ | refine xt_eql rfl rfl (by omega) ?_ | refine xf_eql rfl rfl (by omega) ?_ | refine xt_neq rfl rfl (by omega) ?_ | refine xf_neq rfl rfl (by omega) ?_ | refine xt_lss rfl rfl (by omega) ?_ | refine xf_lss rfl rfl (by omega) ?_ | refine xt_leq rfl rfl (by omega) ?_ | refine xf_leq rfl rfl (by omega) ?_ | refine xt_gtr rfl rfl (by omega) ?_ | refine xf_gtr rfl rfl (by omega) ?_ | refine xt_geq rfl rfl (by omega) ?_ | refine xf_geq rfl rfl (by omega) ?_ | refine tseq ?_ | refine tct rfl ?_ | refine tcf rfl ?_ | refine tskip ?_ | refine treg (by kernel_rfl) ?_ | refine tdraw (by kernel_rfl) (by decide +kernel) ?_ | refine tblock ?_ | refine tblk ?_ | refine texit rfl ?_ | refine xld rfl rfl (by assumption) ?_)
  refine xsl0 (z := 2) rfl rfl rfl (by omega) (by omega) (fun A1 hA1 => ?_)
  obtain rfl := hA1 b o rfl (by omega)
  rw [Int.toNat_natCast]
  have hr1 : Row w1 (.slice (some ⟨b, o, none⟩) k c) k (hcs (hs.take k)) := ⟨_, _, rfl, by omega, hcm, fun _ => ⟨b, o, rfl, by have := hE1.size; omega, fun j u hu => by
    rw [hcs_take] at hu
    have hj : j < 2 * k := by
      have := (List.getElem?_eq_some_iff.1 hu).1
      rw [List.length_take] at this; omega
    rw [List.getElem?_take_of_lt hj] at hu
    exact hE1.cell (hcell j u hu)⟩⟩
  have htl : (hs.take k).length = k := by rw [List.length_take]; omega
  refine xapz sl_heaps rfl (by decide) rfl hown1 rfl hr1 (by rw [hcs_len, htl]) (fun u hu => hone u (by rw [hcs_take] at hu; exact List.mem_of_mem_take hu)) (by unfold maxLen; omega) (by omega) (by omega) (fun v2 w2 hown2 hF2 hv2 => ?_)
  rw [Nat.zero_add, List.nil_append] at hown2
  have hE2 : Ext w w2 := Ext.te hE1 hF2 fun j hj e => by
    have : w.heap.size = j := by simpa [Value.ownBlock] using e
    omega
  repeat' (first | refine xmv rfl ?_ | refine xas rfl ?_ | refine xld rfl rfl (by with_reducible assumption) ?_ | refine xixn rfl rfl rfl (by omega) ?_ | refine xfa rfl rfl rfl ?_ | refine xln rfl rfl ?_ | refine xnil ?_ | refine xpk rfl rfl rfl rfl ?_ | refine xgy' rfl ?_ | refine xgn' rfl ?_ | refine xex rfl rfl ?_ | refine xnot rfl ?_ | refine xnc rfl ?_ | refine xeqn rfl rfl rfl ?_ | refine xnen rfl rfl rfl ?_ | refine xadd rfl rfl (by omega) (by omega) ?_ | refine xsub rfl rfl (by omega) (by omega) ?_ | refine xmul rfl rfl (by omega) (by omega) ?_ | refine xaddu rfl rfl (by omega) (by omega) ?_ | refine xsubu rfl rfl (by omega) (by omega) ?_ | refine xquo rfl rfl (by omega) (by omega) (by omega) ?_ | refine xrem rfl rfl (by omega) (by omega) (by omega) ?_ | refine xt_eql rfl rfl (by omega) ?_ | refine xf_eql rfl rfl (by omega) ?_ | refine xt_neq rfl rfl (by omega) ?_ | refine xf_neq rfl rfl (by omega) ?_ | refine xt_lss rfl rfl (by omega) ?_ | refine xf_lss rfl rfl (by omega) ?_ | refine xt_leq rfl rfl (by omega) ?_ | refine xf_leq rfl rfl (by omega) ?_ | refine xt_gtr rfl rfl (by omega) ?_ | refine xf_gtr rfl rfl (by omega) ?_ | refine xt_geq rfl rfl (by omega) ?_ | refine xf_geq rfl rfl (by omega) ?_ | refine tseq ?_ | refine tct rfl ?_ | refine tcf rfl ?_ | refine tskip ?_ | refine treg (by kernel_rfl) ?_ | refine tdraw (by kernel_rfl) (by decide +kernel) ?_ | refine tblock ?_ | refine tblk ?_ | refine texit rfl ?_ | refine xld rfl rfl (by assumption) ?_)
  refine xsl1 (z := 2) rfl rfl rfl (by omega) (by omega) (by omega) (fun A3 hA3 => ?_)
  have hkn : ((k : Int) + 1).toNat = k + 1 := by omega
  rw [hkn] at hA3 ⊢
  have hr3 : Row w2 (.slice A3 (hs.length - (k + 1)) (c - (k + 1))) (hs.length - (k + 1)) (hcs (hs.drop (k + 1))) := ⟨_, _, rfl, by omega, by unfold maxLen; omega, fun h0 => ⟨b, o + (k + 1) * 2, hA3 b o rfl (by omega), by have := hE2.size; omega, fun j u hu => by
    rw [hcs_drop, List.getElem?_drop] at hu
    rw [show o + (k + 1) * 2 + j = o + (2 * (k + 1) + j) from by omega]
    exact hE2.cell (hcell _ u hu)⟩⟩
  have hdl : (hs.drop (k + 1)).length = hs.length - (k + 1) := by rw [List.length_drop]
  refine xapz sl_heaps rfl (by decide) rfl hown2 rfl hr3 (by rw [hcs_len, hdl]) (fun u hu => hone u (by rw [hcs_drop] at hu; exact List.mem_of_mem_drop hu)) (by unfold maxLen; omega) (by omega) (by have := hE2.size; omega) (fun v4 w4 hown4 hF4 _ => ?_)
  repeat' (first | refine xmv rfl ?_ | refine xas rfl ?_ | refine xld rfl rfl (by with_reducible assumption) ?_ | refine xixn rfl rfl rfl (by omega) ?_ | refine xfa rfl rfl rfl ?_ | refine xln rfl rfl ?_ | refine xnil ?_ | refine xpk rfl rfl rfl rfl ?_ | refine xgy' rfl ?_ | refine xgn' rfl ?_ | refine xex rfl rfl ?_ | refine xnot rfl ?_ | refine xnc rfl ?_ | refine xeqn rfl rfl rfl ?_ | refine xnen rfl rfl rfl ?_ | refine xadd rfl rfl (by omega) (by omega) ?_ | refine xsub rfl rfl (by omega) (by omega) ?_ | refine xmul rfl rfl (by omega) (by omega) ?_ | refine xaddu rfl rfl (by omega) (by omega) ?_ | refine xsubu rfl rfl (by omega) (by omega) ?_ | refine xquo rfl rfl (by omega) (by omega) (by omega) ?_ | refine xrem rfl rfl (by omega) (by omega) (by omega) ?_ | refine xt_eql rfl rfl (by omega) ?_ | refine xf_eql rfl rfl (by omega) ?_ | refine xt_neq rfl rfl (by omega) ?_ | refine xf_neq rfl rfl (by omega) ?_ | refine xt_lss rfl rfl (by omega) ?_ | refine xf_lss rfl rfl (by omega) ?_ | refine xt_leq rfl rfl (by omega) ?_ | refine xf_leq rfl rfl (by omega) ?_ | refine xt_gtr rfl rfl (by omega) ?_ | refine xf_gtr rfl rfl (by omega) ?_ | refine xt_geq rfl rfl (by omega) ?_ | refine xf_geq rfl rfl (by omega) ?_ | refine tseq ?_ | refine tct rfl ?_ | refine tcf rfl ?_ | refine tskip ?_ | refine treg (by kernel_rfl) ?_ | refine tdraw (by kernel_rfl) (by decide +kernel) ?_ | refine tblock ?_ | refine tblk ?_ | refine texit rfl ?_ | refine xld rfl rfl (by assumption) ?_)
  refine tret1 rfl rfl ⟨?_, Ext.te hE2 hF4 fun j hj e => by have := (hown2.blk e).1; omega⟩
  have e1 : hs.eraseIdx k = hs.take k ++ hs.drop (k + 1) := List.eraseIdx_eq_take_drop_succ hs k
  rw [e1, hcs_app, List.length_append, htl, hdl]
  exact hown4
end Eng
end Go.Proofs.Ytighkjohpmlemaa
