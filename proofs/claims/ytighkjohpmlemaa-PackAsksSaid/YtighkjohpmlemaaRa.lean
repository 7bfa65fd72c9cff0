/-
  The reference's heaps: least, out. The reference's joins.
-/
import Derived.Test.YtighkjohpmlemaaEngD
import Derived.Test.YtighkjohpmlemaaEngF
import Derived.Test.YtighkjohpmlemaaHj
import Derived.Test.YtighkjohpmlemaaPa
/-! The reference's heaps: least, out. -/
namespace Go.Proofs.Ytighkjohpmlemaa
open Go.RowKit
namespace Eng
attribute [local irreducible] xs T

/-- The cells of heaps: the weight, the slice of what it holds. -/
def hcs (hs : List (Int × Value)) : List Value := hs.flatMap fun h => [.int .i64 h.1, h.2]
theorem hcs_len (hs : List (Int × Value)) : (hcs hs).length = hs.length * 2 := by
  induction hs with
  | nil => rfl
  | cons h r ih => unfold hcs at *; rw [List.flatMap_cons, List.length_append, ih]; simp; omega
theorem hcs_app (a b : List (Int × Value)) : hcs (a ++ b) = hcs a ++ hcs b := by simp [hcs]
theorem hcs_get : ∀ {hs : List (Int × Value)} {i : Nat} {h : Int × Value}, hs[i]? = some h → (hcs hs)[2 * i]? = some (.int .i64 h.1) ∧ (hcs hs)[2 * i + 1]? = some h.2
  | [], i, h, e => by simp at e
  | x :: r, 0, h, e => by
    have : x = h := by simpa using e
    subst this
    exact ⟨rfl, rfl⟩
  | x :: r, i + 1, h, e => by
    have ih := hcs_get (hs := r) (i := i) (h := h) (by simpa using e)
    have e1 : hcs (x :: r) = .int .i64 x.1 :: x.2 :: hcs r := by simp [hcs]
    rw [e1, show 2 * (i + 1) = 2 * i + 1 + 1 from by omega]
    simpa using ih
theorem hcs_take (hs : List (Int × Value)) : ∀ k, hcs (hs.take k) = (hcs hs).take (2 * k) := by
  induction hs with
  | nil => intro k; simp [hcs]
  | cons x r ih =>
    intro k
    cases k with
    | zero => simp [hcs]
    | succ k =>
      have e1 : hcs (x :: r) = .int .i64 x.1 :: x.2 :: hcs r := by simp [hcs]
      rw [List.take_succ_cons, e1, show 2 * (k + 1) = 2 * k + 1 + 1 from by omega, List.take_succ_cons, List.take_succ_cons, ← ih k]
      simp [hcs]
theorem hcs_drop (hs : List (Int × Value)) : ∀ k, hcs (hs.drop k) = (hcs hs).drop (2 * k) := by
  induction hs with
  | nil => intro k; simp [hcs]
  | cons x r ih =>
    intro k
    cases k with
    | zero => simp
    | succ k =>
      have e1 : hcs (x :: r) = .int .i64 x.1 :: x.2 :: hcs r := by simp [hcs]
      rw [List.drop_succ_cons, e1, show 2 * (k + 1) = 2 * k + 1 + 1 from by omega, List.drop_succ_cons, List.drop_succ_cons, ← ih k]

theorem sl_heaps : SlT 118 120 (.agg #[.int .i64 0, .slice none 0 0]) 2 32 := slT Try.underlying118 (by kernel_rfl)

/-- What a row shows; kept whole. -/
def Cz (w : World) (A : Option Addr) (n : Nat) (vs : List Value) : Prop := 0 < n → ∃ b o, A = some ⟨b, o, none⟩ ∧ b < w.heap.size ∧ ∀ j u, vs[j]? = some u → w.cell? ⟨b, o + j, none⟩ = some u
theorem Row.op {w : World} {v : Value} {n : Nat} {vs : List Value} (h : Row w v n vs) : ∃ A c, v = .slice A n c ∧ n ≤ c ∧ c ≤ 9223372036854775807 ∧ Cz w A n vs := by
  obtain ⟨A, c, h1, h2, h3, h4⟩ := h
  exact ⟨A, c, h1, h2, h3, h4⟩
theorem Cz.at_ {w : World} {A : Option Addr} {n : Nat} {vs : List Value} (h : Cz w A n vs) (hn : 0 < n) : ∃ b o, A = some ⟨b, o, none⟩ ∧ b < w.heap.size ∧ ∀ j u, vs[j]? = some u → w.cell? ⟨b, o + j, none⟩ = some u := h hn

set_option maxRecDepth 20000 in
set_option maxHeartbeats 2000000 in
theorem least_does (w : World) (v : Value) (hs : List (Int × Value)) (hv : Row w v hs.length (hcs hs)) (hl : hs.length ≤ 1000) :
    Does Try.prog 76 #[v] w fun r w' => r = .int .i64 (leastB (hs.map (·.1)) : Int) ∧ Ext w w' := by
  refine does1 Try.func76 rfl (by kernel_rfl) ?_
  obtain ⟨A, c, rfl, hcc, hcm, hA⟩ := hv.op
  refine go ?_
  refine tloop (α := Nat) (fun i => [(0, .slice A hs.length c), (3, .int .i64 (lstGo (hs.map (·.1)) i : Int)), (4, .int .i64 (i : Int))]) (fun i w' => 1 ≤ i ∧ i ≤ max 1 hs.length ∧ Ext w w') (fun i => hs.length - i) 1 (sub ⟨rfl, ieq (by simp [lstGo]), rfl⟩) ⟨by omega, by omega, Fr.refl _ _⟩ ?_
  rintro i w1 ⟨h1, hi, hE⟩
  by_cases hlt : i < hs.length
  · have hle := (lstGo_le (hs.map (·.1)) i).1
    obtain ⟨b, o, rfl, _, hcell⟩ := hA.at_ (by omega)
    obtain ⟨k, hk⟩ : ∃ k, k = lstGo (hs.map (·.1)) i := ⟨_, rfl⟩
    have hki : k < hs.length := by omega
    obtain ⟨x, hx⟩ : ∃ x, hs[i]? = some x := ⟨_, List.getElem?_eq_getElem hlt⟩
    obtain ⟨y, hy⟩ : ∃ y, hs[k]? = some y := ⟨_, List.getElem?_eq_getElem hki⟩
    have cx : w1.cell? ⟨b, o + 2 * i + 0, none⟩ = some (.int .i64 x.1) := hE.cell (hcell _ _ (hcs_get hx).1)
    have cy : w1.cell? ⟨b, o + 2 * k + 0, none⟩ = some (.int .i64 y.1) := hE.cell (hcell _ _ (hcs_get hy).1)
    have gx : (hs.map (·.1)).getD i 0 = x.1 := by rw [List.getD_eq_getElem?_getD, List.getElem?_map, hx]; rfl
    have gy : (hs.map (·.1)).getD k 0 = y.1 := by rw [List.getD_eq_getElem?_getD, List.getElem?_map, hy]; rfl
    have hstep : lstGo (hs.map (·.1)) (i + 1) = if x.1 < y.1 then i else k := by
      show (if (hs.map (·.1)).getD i 0 < (hs.map (·.1)).getD (lstGo (hs.map (·.1)) i) 0 then i else lstGo (hs.map (·.1)) i) = _
      rw [← hk, gx, gy]
    rw [← hk]
    have fin : ∀ env, Sub [(0, .slice (some ⟨b, o, none⟩) hs.length c), (3, .int .i64 (lstGo (hs.map (·.1)) (i + 1) : Int)), (4, .int .i64 ((i : Int) + 1))] env → Again (fun i : Nat => [(0, .slice (some ⟨b, o, none⟩) hs.length c), (3, .int .i64 (lstGo (hs.map (·.1)) i : Int)), (4, .int .i64 (i : Int))]) (fun i w' => 1 ≤ i ∧ i ≤ max 1 hs.length ∧ Ext w w') (fun i => hs.length - i) (hs.length - i) env w1.drew :=
      fun env hs' => ⟨i + 1, hs', ⟨by omega, by omega, hE.d⟩, (by show hs.length - (i + 1) < hs.length - i; omega)⟩
    by_cases hxy : x.1 < y.1
    · rw [if_pos hxy] at hstep
      rw [hstep] at fin
      repeat' (first | refine xizq i (o + 2 * i) rfl rfl rfl rfl (by omega) (by omega) ?_ | refine xizq k (o + 2 * k) rfl rfl rfl rfl (by omega) (by omega) ?_ | refine go1 ?_ | fail)
      exact tfin (fin _ (sub ⟨rfl, rfl, rfl⟩))
    · rw [if_neg hxy] at hstep
      rw [hstep] at fin
      repeat' (first | refine xizq i (o + 2 * i) rfl rfl rfl rfl (by omega) (by omega) ?_ | refine xizq k (o + 2 * k) rfl rfl rfl rfl (by omega) (by omega) ?_ | refine go1 ?_ | fail)
      exact tfin (fin _ (sub ⟨rfl, rfl, rfl⟩))
  · refine go ?_
    refine tret1 rfl rfl ⟨?_, hE⟩
    congr 2
    unfold leastB
    rw [List.length_map]
    by_cases h0 : hs.length = 0
    · have : i = 1 := by omega
      subst this
      rw [h0]
      have := (lstGo_le (hs.map (·.1)) 1).1
      simp [lstGo]
    · have : i = hs.length := by omega
      rw [this]

set_option maxRecDepth 20000 in
set_option maxHeartbeats 2000000 in
theorem out_does (w : World) (v : Value) (hs : List (Int × Value)) (k : Nat) (hv : Row w v hs.length (hcs hs)) (hl : hs.length ≤ 1000) (hk : k < hs.length) (h1 : ∀ h ∈ hs, h.2.oneCell' = true) :
    Does Try.prog 77 #[v, .int .i64 (k : Int)] w fun r w' => OwnZ w' w.heap.size 120 2 r (hs.eraseIdx k).length (hcs (hs.eraseIdx k)) ∧ Ext w w' := by
  refine does2 Try.func77 rfl (by kernel_rfl) ?_
  obtain ⟨A, c, rfl, hcc, hcm, hA⟩ := hv.op
  obtain ⟨b, o, rfl, hb, hcell⟩ := hA.at_ (by omega)
  have hone : ∀ u ∈ hcs hs, u.oneCell' = true := fun u hu => by
    obtain ⟨h, hh, hu⟩ := List.mem_flatMap.1 hu
    rcases List.mem_cons.1 hu with rfl | hu
    · rfl
    · rw [List.mem_singleton.1 hu]; exact h1 h hh
  refine go ?_
  refine xbz0 sl_heaps (fun w1 hown1 hE1 hs1 => ?_)
  refine go ?_
  refine xsl0 (z := 2) rfl rfl rfl (by omega) (by omega) (fun A1 hA1 => ?_)
  obtain rfl := hA1 b o rfl (by omega)
  rw [Int.toNat_natCast]
  have hr1 : Row w1 (.slice (some ⟨b, o, none⟩) k c) k (hcs (hs.take k)) := ⟨_, _, rfl, by omega, hcm, fun _ => ⟨b, o, rfl, by have := hE1.size; omega, fun j u hu => by
    rw [hcs_take] at hu
    have hj : j < 2 * k := by
      have := (List.getElem?_eq_some_iff.1 hu).1
      rw [List.length_take] at this; omega
    rw [List.getElem?_take_of_lt hj] at hu
    exact hE1.cell (hcell j u hu)⟩⟩
  have htl : (hs.take k).length = k := by rw [List.length_take]; omega
  refine xapz sl_heaps rfl (by decide) rfl hown1 rfl hr1 (by rw [hcs_len, htl]) (fun u hu => hone u (by rw [hcs_take] at hu; exact List.mem_of_mem_take hu)) (by unfold maxLen; omega) (by omega) (by omega) (fun v2 w2 hown2 hF2 hv2 => ?_)
  rw [Nat.zero_add, List.nil_append] at hown2
  have hE2 : Ext w w2 := Ext.te hE1 hF2 fun j hj e => by
    have : w.heap.size = j := by simpa [Value.ownBlock] using e
    omega
  refine go ?_
  refine xsl1 (z := 2) rfl rfl rfl (by omega) (by omega) (by omega) (fun A3 hA3 => ?_)
  have hkn : ((k : Int) + 1).toNat = k + 1 := by omega
  rw [hkn] at hA3 ⊢
  have hr3 : Row w2 (.slice A3 (hs.length - (k + 1)) (c - (k + 1))) (hs.length - (k + 1)) (hcs (hs.drop (k + 1))) := ⟨_, _, rfl, by omega, by unfold maxLen; omega, fun h0 => ⟨b, o + (k + 1) * 2, hA3 b o rfl (by omega), by have := hE2.size; omega, fun j u hu => by
    rw [hcs_drop, List.getElem?_drop] at hu
    rw [show o + (k + 1) * 2 + j = o + (2 * (k + 1) + j) from by omega]
    exact hE2.cell (hcell _ u hu)⟩⟩
  have hdl : (hs.drop (k + 1)).length = hs.length - (k + 1) := by rw [List.length_drop]
  refine xapz sl_heaps rfl (by decide) rfl hown2 rfl hr3 (by rw [hcs_len, hdl]) (fun u hu => hone u (by rw [hcs_drop] at hu; exact List.mem_of_mem_drop hu)) (by unfold maxLen; omega) (by omega) (by have := hE2.size; omega) (fun v4 w4 hown4 hF4 _ => ?_)
  refine go ?_
  refine tret1 rfl rfl ⟨?_, Ext.te hE2 hF4 fun j hj e => by have := (hown2.blk e).1; omega⟩
  have e1 : hs.eraseIdx k = hs.take k ++ hs.drop (k + 1) := List.eraseIdx_eq_take_drop_succ hs k
  rw [e1, hcs_app, List.length_append, htl, hdl]
  exact hown4
end Eng
end Go.Proofs.Ytighkjohpmlemaa

/-! The reference's joins. -/
namespace Go.Proofs.Ytighkjohpmlemaa
open Go.RowKit
namespace Eng
attribute [local irreducible] xs T

theorem isum_erase {l : List Hp} (h : 0 < l.length) : isum (l.map (·.1)) = (jA l).1 + isum ((jR l).map (·.1)) ∧ jA l ∈ l ∧ (∀ p ∈ jR l, p ∈ l) ∧ (jR l).length + 1 = l.length ∧ (l.map (·.2.length)).sum = (jA l).2.length + ((jR l).map (·.2.length)).sum := by
  have hlt : leastB (l.map (·.1)) < l.length := by have := leastB_lt (ws := l.map (·.1)) (by simpa using h); simpa using this
  have e : jA l = l[leastB (l.map (·.1))] := by unfold jA; rw [List.getD_eq_getElem?_getD, List.getElem?_eq_getElem hlt]; rfl
  have hp : (jA l :: jR l).Perm l := by
    rw [e]
    unfold jR
    rw [List.eraseIdx_eq_take_drop_succ]
    have h1 : l = l.take (leastB (l.map (·.1))) ++ l[leastB (l.map (·.1))] :: l.drop (leastB (l.map (·.1)) + 1) := by
      rw [← List.drop_eq_getElem_cons hlt, List.take_append_drop]
    exact List.perm_middle.symm.trans (by rw [← h1])
  refine ⟨?_, hp.subset (List.mem_cons_self ..), fun p hp' => hp.subset (List.mem_cons_of_mem _ hp'), by have := hp.length_eq; simpa using this, ?_⟩
  · have := isum_perm (hp.map (·.1))
    rw [List.map_cons, isum_cons] at this
    omega
  · have := List.Perm.sum_nat (hp.map (·.2.length))
    rw [List.map_cons, List.sum_cons] at this
    omega

theorem incs_snoc : ∀ (L lens : List Int) (s : Int), incs lens (L ++ [s]) = (incs lens L).set s.toNat ((incs lens L).getD s.toNat 0 + 1)
  | [], lens, s => rfl
  | x :: r, lens, s => by rw [List.cons_append, incs, incs, incs_snoc r]
theorem incs_bd : ∀ (L lens : List Int) (m : Int), (∀ i : Nat, 0 ≤ lens.getD i 0 ∧ lens.getD i 0 ≤ m) → ∀ i : Nat, 0 ≤ (incs lens L).getD i 0 ∧ (incs lens L).getD i 0 ≤ m + L.length
  | [], lens, m, h, i => by have := h i; rw [incs]; simpa using this
  | x :: r, lens, m, h, i => by
    have := incs_bd r (lens.set x.toNat (lens.getD x.toNat 0 + 1)) (m + 1) (fun j => by
      rw [getD_set]
      split
      · have := h x.toNat; omega
      · have := h j; omega) i
    rw [incs, List.length_cons]
    omega

structure JB (cs : List Int) (k : Nat) : Prop where
  len : (jrun cs k).1.length + k = (posB cs).length
  nn : ∀ p ∈ (jrun cs k).1, 0 ≤ p.1
  sum : isum ((jrun cs k).1.map (·.1)) ≤ 429496729600
  mem : ∀ p ∈ (jrun cs k).1, ∀ s ∈ p.2, 0 ≤ s ∧ s < cs.length
  ll : ((jrun cs k).1.map (·.2.length)).sum = (posB cs).length
  ln : (jrun cs k).2.length = cs.length
  lb : ∀ i : Nat, 0 ≤ (jrun cs k).2.getD i 0 ∧ (jrun cs k).2.getD i 0 ≤ 400 * k

theorem jb_of {cs : List Int} (hl : cs.length ≤ 400) (hc : ∀ z ∈ cs, 0 ≤ z ∧ z ≤ 1073741824) : ∀ k, k < (posB cs).length ∨ k = 0 → JB cs k
  | 0, _ => by
    have h0 := isum_wts_le cs hl hc
    refine ⟨by simp [jrun, jinit], fun p hp => ?_, ?_, fun p hp s hs => ?_, ?_, by simp [jrun, jinit], fun i => ?_⟩
    · obtain ⟨s, hs, rfl⟩ := List.mem_map.1 (show p ∈ (posB cs).map _ from hp)
      have := (posB_mem hs).2.2; dsimp only; omega
    · show isum (((posB cs).map fun s => (cnt cs s, [s])).map (·.1)) ≤ _
      rw [List.map_map]
      have e : isum ((posB cs).map (cnt cs)) = isum (wts cs) := (isum_perm ((ordB_perm cs).map (cnt cs))).symm
      have e2 : (posB cs).map ((fun p : Hp => p.1) ∘ fun s => (cnt cs s, [s])) = (posB cs).map (cnt cs) := rfl
      rw [e2]; omega
    · obtain ⟨s', hs', rfl⟩ := List.mem_map.1 (show p ∈ (posB cs).map _ from hp)
      rw [List.mem_singleton.1 hs]
      have := posB_mem hs'; omega
    · show (((posB cs).map fun s => (cnt cs s, [s])).map (·.2.length)).sum = _
      rw [List.map_map]
      have : ∀ l : List Int, (l.map ((fun p : Hp => p.2.length) ∘ fun s => (cnt cs s, [s]))).sum = l.length := by
        intro l
        induction l with
        | nil => rfl
        | cons x r ih => rw [List.map_cons, List.sum_cons, ih, List.length_cons]; show 1 + _ = _; omega
      exact this _
    · show 0 ≤ (List.replicate cs.length 0).getD i 0 ∧ _ ≤ _
      rw [show (jrun cs 0).2 = List.replicate cs.length 0 from rfl, List.getD_eq_getElem?_getD, List.getElem?_replicate]
      split <;> simp
  | k + 1, hk => by
    have hJ := jb_of hl hc k (by omega)
    obtain ⟨len, nn, sum, mem, ll, ln, lb⟩ := hJ
    have hpl := posB_le cs
    have a := isum_erase (l := (jrun cs k).1) (by omega)
    have b := isum_erase (l := jR (jrun cs k).1) (by omega)
    have hrun1 : (jrun cs (k + 1)).1 = jR (jR (jrun cs k).1) ++ [jH (jrun cs k).1] := rfl
    have hrun2 : (jrun cs (k + 1)).2 = incs (jrun cs k).2 (jH (jrun cs k).1).2 := rfl
    have hH1 : (jH (jrun cs k).1).1 = (jA (jrun cs k).1).1 + (jA (jR (jrun cs k).1)).1 := rfl
    have hH2 : (jH (jrun cs k).1).2 = (jA (jrun cs k).1).2 ++ (jA (jR (jrun cs k).1)).2 := rfl
    have hb2 := a.2.2.1 _ b.2.1
    refine ⟨by rw [hrun1]; simp; omega, fun p hp => ?_, ?_, fun p hp s hs => ?_, ?_, by rw [hrun2]; simpa using ln, fun i => ?_⟩
    · rw [hrun1] at hp
      rcases List.mem_append.1 hp with hp | hp
      · exact nn p (a.2.2.1 p (b.2.2.1 p hp))
      · rw [List.mem_singleton.1 hp, hH1]
        have := nn _ a.2.1; have := nn _ hb2; omega
    · rw [hrun1, List.map_append, isum_app]
      simp only [List.map_cons, List.map_nil]
      rw [isum_cons, hH1]
      have : isum ([] : List Int) = 0 := rfl
      omega
    · rw [hrun1] at hp
      rcases List.mem_append.1 hp with hp | hp
      · exact mem p (a.2.2.1 p (b.2.2.1 p hp)) s hs
      · rw [List.mem_singleton.1 hp, hH2] at hs
        rcases List.mem_append.1 hs with hs | hs
        · exact mem _ a.2.1 s hs
        · exact mem _ hb2 s hs
    · rw [hrun1, List.map_append, List.sum_append]
      simp only [List.map_cons, List.map_nil, List.sum_cons, List.sum_nil]
      rw [hH2, List.length_append]
      omega
    · have h1 := incs_bd (jH (jrun cs k).1).2 (jrun cs k).2 (400 * k) lb i
      rw [hH2, List.length_append] at h1
      have : ((jA (jrun cs k).1).2.length : Int) + (jA (jR (jrun cs k).1)).2.length ≤ 400 := by omega
      rw [hrun2, hH2]
      constructor
      · omega
      · have e : ((k + 1 : Nat) : Int) = k + 1 := by omega
        rw [e]; rw [Int.natCast_add] at h1; omega

/-- The heaps in memory. -/
structure HL (w : World) (gl : Nat) (v : Value) (l : List Hp) (hs : List (Int × Value)) : Prop where
  len : hs.length = l.length
  at_ : ∀ (i : Nat) (h : Int × Value) (p : Hp), hs[i]? = some h → l[i]? = some p → h.1 = p.1 ∧ IRow w h.2 p.2 ∧ ∀ b, h.2.ownBlock = some b → gl < b ∧ b < w.heap.size ∧ v.ownBlock ≠ some b

theorem HL.fst {w : World} {gl : Nat} {v : Value} {l : List Hp} {hs : List (Int × Value)} (h : HL w gl v l hs) : hs.map (·.1) = l.map (·.1) := by
  apply List.ext_getElem
  · simp [h.len]
  · intro i h1 h2
    simp only [List.length_map] at h1 h2
    simp only [List.getElem_map]
    exact (h.at_ i _ _ (List.getElem?_eq_getElem h1) (List.getElem?_eq_getElem h2)).1
theorem HL.one {w : World} {gl : Nat} {v : Value} {l : List Hp} {hs : List (Int × Value)} (h : HL w gl v l hs) : ∀ x ∈ hs, x.2.oneCell' = true := by
  intro x hx
  obtain ⟨i, hi, e⟩ := List.getElem_of_mem hx
  have hl := h.len
  obtain ⟨A, c, e2, _⟩ := (h.at_ i x l[i] (by rw [List.getElem?_eq_getElem hi, e]) (List.getElem?_eq_getElem (by omega))).2.1
  rw [e2]; rfl
theorem HL.fr {S : Nat → Prop} {w w' : World} {gl : Nat} {v : Value} {l : List Hp} {hs : List (Int × Value)} (h : HL w gl v l hs) (hf : Fr S w w') (hS : ∀ b, S b → b ≤ gl ∨ v.ownBlock = some b ∨ w.heap.size ≤ b) (v' : Value) (hv : ∀ b, v'.ownBlock = some b → v.ownBlock = some b ∨ w.heap.size ≤ b) : HL w' gl v' l hs :=
  ⟨h.len, fun i x p hx hp => by
    obtain ⟨h1, h2, h3⟩ := h.at_ i x p hx hp
    refine ⟨h1, h2.fr hf fun b hb hs => ?_, fun b hb => ?_⟩
    · have := h3 b hb
      rcases hS b hs with h | h | h
      · omega
      · exact this.2.2 h
      · omega
    · have h4 := h3 b hb
      refine ⟨h4.1, Nat.lt_of_lt_of_le h4.2.1 hf.size, fun e => ?_⟩
      rcases hv b e with h | h
      · exact h4.2.2 h
      · omega⟩
theorem HL.erase {w : World} {gl : Nat} {v : Value} {l : List Hp} {hs : List (Int × Value)} (h : HL w gl v l hs) (k : Nat) : HL w gl v (l.eraseIdx k) (hs.eraseIdx k) := by
  refine ⟨by rw [List.length_eraseIdx, List.length_eraseIdx, h.len], fun i x p hx hp => ?_⟩
  rw [List.getElem?_eraseIdx] at hx hp
  split at hx
  · rename_i hik; rw [if_pos hik] at hp; exact h.at_ i x p hx hp
  · rename_i hik; rw [if_neg hik] at hp; exact h.at_ (i + 1) x p hx hp
theorem HL.snoc {w : World} {gl : Nat} {v : Value} {l : List Hp} {hs : List (Int × Value)} (h : HL w gl v l hs) {x : Int × Value} {p : Hp} (h1 : x.1 = p.1) (h2 : IRow w x.2 p.2) (h3 : ∀ b, x.2.ownBlock = some b → gl < b ∧ b < w.heap.size ∧ v.ownBlock ≠ some b) : HL w gl v (l ++ [p]) (hs ++ [x]) := by
  refine ⟨by simp [h.len], fun i y q hy hq => ?_⟩
  have hl := h.len
  rcases Nat.lt_or_ge i hs.length with hi | hi
  · rw [List.getElem?_append_left hi] at hy
    rw [List.getElem?_append_left (by omega)] at hq
    exact h.at_ i y q hy hq
  · rw [List.getElem?_append_right hi] at hy
    rw [List.getElem?_append_right (by omega)] at hq
    cases hk : i - hs.length with
    | zero =>
      rw [hk] at hy
      rw [show i - l.length = 0 from by omega] at hq
      simp only [List.getElem?_cons_zero, Option.some.injEq] at hy hq
      subst hy; subst hq
      exact ⟨h1, h2, h3⟩
    | succ m => rw [hk] at hy; simp at hy
end Eng
end Go.Proofs.Ytighkjohpmlemaa
