/-
  Parts of the proof: Hf.
-/
import Derived.Test.YtpfelapckcojjaaGreatDoorQB0d
set_option maxRecDepth 100000
set_option maxHeartbeats 64000000
namespace Go.Proofs.YtpfelapckcojjaaGreatDoor.Eng
open Go.RowKit
section
def manyB (zs : List Int) (l : Nat) : Nat := if l = 0 then 0 else zs.count (l : Int)
def firstB (zs : List Int) : Nat → Nat
 | 0 => 0
 | l + 1 => (firstB zs l + manyB zs l) * 2
def tabL (f m : Nat → Nat) : List Value := (List.range 13).map (fun l => Value.int .u64 (f l : Int)) ++ (List.range 13).map (fun l => Value.int .u64 (m l : Int))
def tabA (f m : Nat → Nat) : Array Value := (tabL f m).toArray
def updF (f : Nat → Nat) (n v : Nat) : Nat → Nat := fun l => if l = n then v else f l
theorem size_tabA (f m : Nat → Nat) : (tabA f m).size = 26 := by simp [tabA, tabL]
theorem tabA_f (f m : Nat → Nat) (l : Nat) (h : l < 13) : (tabA f m)[l]? = some (.int .u64 (f l : Int)) := by
 simp only [tabA, tabL, List.getElem?_toArray]
 rw [List.getElem?_append_left (by simp; omega)]; simp [h]
theorem tabA_m (f m : Nat → Nat) (l : Nat) (h : l < 13) : (tabA f m)[13 + l]? = some (.int .u64 (m l : Int)) := by
 simp only [tabA, tabL, List.getElem?_toArray]
 rw [List.getElem?_append_right (by simp)]; simp [h]
theorem tabA_set_f (f m : Nat → Nat) (n v : Nat) (h : n < 13) : (tabA f m).setIfInBounds n (.int .u64 (v : Int)) = tabA (updF f n v) m := by
 apply Array.ext'
 apply List.ext_getElem?
 intro i
 rw [Array.toList_setIfInBounds, List.getElem?_set]
 have e1 : (tabA f m).toList[i]? = (tabA f m)[i]? := by simp
 have e2 : (tabA (updF f n v) m).toList[i]? = (tabA (updF f n v) m)[i]? := by simp
 rw [e1, e2]
 by_cases hi : n = i
 ·subst hi; rw [if_pos rfl, if_pos (by simp [tabA, tabL]; omega), tabA_f _ _ _ h]; simp [updF]
 ·rw [if_neg hi]
  by_cases h13 : i < 13
  ·rw [tabA_f _ _ _ h13, tabA_f _ _ _ h13]; simp [updF, Ne.symm hi]
  ·by_cases h26 : i < 26
   ·obtain ⟨q, rfl⟩ : ∃ q, i = 13 + q := ⟨i - 13, by omega⟩
    rw [tabA_m _ _ _ (by omega), tabA_m _ _ _ (by omega)]
   ·rw [Array.getElem?_eq_none (by rw [size_tabA]; omega), Array.getElem?_eq_none (by rw [size_tabA]; omega)]
theorem tabA_set_m (f m : Nat → Nat) (n v : Nat) (h : n < 13) : (tabA f m).setIfInBounds (13 + n) (.int .u64 (v : Int)) = tabA f (updF m n v) := by
 apply Array.ext'
 apply List.ext_getElem?
 intro i
 rw [Array.toList_setIfInBounds, List.getElem?_set]
 have e1 : (tabA f m).toList[i]? = (tabA f m)[i]? := by simp
 have e2 : (tabA f (updF m n v)).toList[i]? = (tabA f (updF m n v))[i]? := by simp
 rw [e1, e2]
 by_cases hi : 13 + n = i
 ·subst hi; rw [if_pos rfl, if_pos (by simp [tabA, tabL]; omega), tabA_m _ _ _ h]; simp [updF]
 ·rw [if_neg hi]
  by_cases h13 : i < 13
  ·rw [tabA_f _ _ _ h13, tabA_f _ _ _ h13]
  ·by_cases h26 : i < 26
   ·obtain ⟨q, rfl⟩ : ∃ q, i = 13 + q := ⟨i - 13, by omega⟩
    rw [tabA_m _ _ _ (by omega), tabA_m _ _ _ (by omega)]; simp [updF, show ¬ q = n by omega]
   ·rw [Array.getElem?_eq_none (by rw [size_tabA]; omega), Array.getElem?_eq_none (by rw [size_tabA]; omega)]
theorem tabA_congr {f f' m m' : Nat → Nat} (hf : ∀ l, l < 13 → f l = f' l) (hm : ∀ l, l < 13 → m l = m' l) : tabA f m = tabA f' m' := by
 unfold tabA tabL
 congr 2
 ·exact List.map_congr_left fun l hl => by rw [hf l (by simpa using hl)]
 ·exact List.map_congr_left fun l hl => by rw [hm l (by simpa using hl)]
theorem tabA_one (f m : Nat → Nat) : (tabA f m).all (·.oneCell') = true := by
 rw [Array.all_eq_true_iff_forall_mem]
 intro v hv
 simp only [tabA, tabL, List.mem_toArray, List.mem_append, List.mem_map] at hv
 rcases hv with ⟨l, _, rfl⟩ | ⟨l, _, rfl⟩ <;> rfl
theorem firstB_le (zs : List Int) (hl : zs.length ≤ 400) : ∀ l, firstB zs l + manyB zs l ≤ 400 * 2 ^ (l + 1) - 400 := by
 have hm : ∀ l, manyB zs l ≤ 400 := fun l => by
  unfold manyB
  split
  ·omega
  ·exact Nat.le_trans List.count_le_length hl
 intro l
 induction l with
 | zero => have := hm 0; simp [firstB]; omega
 | succ l ih =>
  have := hm (l + 1)
  rw [firstB, Nat.pow_succ]
  have hp : 1 ≤ 2 ^ (l + 1) := Nat.two_pow_pos _
  omega
theorem firstB_lt (zs : List Int) (hl : zs.length ≤ 400) (l : Nat) (h : l ≤ 12) : firstB zs l + manyB zs l < 4000000 := by
 have h1 := firstB_le zs hl l
 have h2 : 2 ^ (l + 1) ≤ 2 ^ 13 := Nat.pow_le_pow_right (by decide) (by omega)
 omega
def Lens (zs : List Int) : Prop := ∀ z ∈ zs, 0 ≤ z ∧ z ≤ 12
structure CntI (zs : List Int) (g g2 : Nat) (w0 : World) (k : Nat) (w : World) : Prop where
 le : k ≤ zs.length
 B : Blk w g 467 (tabA (fun _ => 0) (fun l => (zs.take k).count (l : Int)))
 B2 : Blk w g2 467 (tabA (fun _ => 0) (fun _ => 0))
 ext : Ext w0 w
structure CntJ (zs : List Int) (g g2 : Nat) (w0 : World) (n : Nat) (w : World) : Prop where
 n1 : 1 ≤ n
 le : n ≤ 13
 B : Blk w g 467 (tabA (fun l => if l < n then firstB zs l else 0) (manyB zs))
 B2 : Blk w g2 467 (tabA (fun _ => 0) (fun _ => 0))
 ext : Ext w0 w
theorem hcount_does (w : World) (v : Value) (zs : List Int) (hv : IRow w v zs) (hz : Lens zs) (hl : zs.length ≤ 400) :
  Does Tryz.prog 418 #[v] w fun r w' => r = .agg (tabA (firstB zs) (manyB zs)) ∧ Ext w w' := by
 have hrow := hv
 obtain ⟨A, c, rfl, hc, hcm, hA⟩ := hv
 refine does1 Tryz.func418 rfl (by kernel_rfl) ?_
 refine wk ?_
 refine xalloc (z := .agg (tabA (fun _ => 0) (fun _ => 0))) (by kernel_rfl) (fun w1 hB1 hE1 hs1 => ?_)
 refine wk ?_
 refine tscope1 (α := Nat) 0 rfl (fun n => [(2, .pointer (some ⟨w.heap.size, 0, none⟩)), (3, .pointer (some ⟨w.heap.size + 1, 0, none⟩)), (6, .int .i64 (n : Int))]) (CntJ zs (w.heap.size + 1) w.heap.size w) (fun n => 13 - n) ?_ ?_
 ·rintro n w2 ⟨hn1, hn, hB, hB2, hE⟩
  by_cases hlt : n ≤ 12
  ·obtain ⟨m, rfl⟩ : ∃ m, n = m + 1 := ⟨n - 1, by omega⟩
   have hf := firstB_lt zs hl m (by omega)
   have hc1 : w2.cell? ⟨w.heap.size + 1, m, none⟩ = some (.int .u64 (firstB zs m : Int)) := by rw [hB.cell, tabA_f _ _ _ (by omega)]; simp
   have hc2 : w2.cell? ⟨w.heap.size + 1, 13 + m, none⟩ = some (.int .u64 (manyB zs m : Int)) := by rw [hB.cell, tabA_m _ _ _ (by omega)]
   refine wk ?_
   refine xiq m m rfl rfl rfl rfl (by omega) (by omega) (by omega) ?_
   refine wk ?_
   refine xiq m (13 + m) rfl rfl rfl rfl (by omega) (by omega) (by omega) ?_
   refine wk ?_
   refine xshl (r := (firstB zs (m + 1) : Int)) rfl rfl (by decide) (by decide) (by
    have e : ((firstB zs m : Int) + (manyB zs m : Int)) * 2 ^ (1 : Int).toNat = (firstB zs (m + 1) : Int) := by
     rw [firstB]; show ((firstB zs m : Int) + (manyB zs m : Int)) * 2 = _; omega
    rw [e]
    exact u64_in _ (by omega) (by rw [firstB]; omega)) ?_
   refine wk ?_
   refine xiq (m + 1) (m + 1) rfl rfl rfl rfl (by omega) (by omega) (by omega) ?_
   refine wk ?_
   refine xstb hB rfl rfl rfl rfl (by rw [size_tabA]; simp; omega) (fun w3 hB3 hF3 => ?_)
   refine wk ?_
   have hF : Fr (· = w.heap.size + 1) w2 w3 := (Fr.drew _ _).t hF3
   refine tgoto rfl ⟨_, (by show 13 - (m + 1 + 1) < 13 - (m + 1); omega), rfl, m + 1 + 1, sub ⟨rfl, rfl, rfl⟩, ⟨by omega, by omega, ?_, hB2.fr hF (by show ¬ w.heap.size = _; omega), hE.te hF fun j hj e => by omega⟩, rfl⟩
   rw [tabA_set_f _ _ _ _ (by omega)] at hB3
   rw [tabA_congr (f' := updF (fun l => if l < m + 1 then firstB zs l else 0) (m + 1) (firstB zs (m + 1))) (m' := manyB zs) (fun l hl => ?_) (fun l hl => rfl)]
   ·exact hB3
   ·unfold updF
    by_cases h1 : l = m + 1
    ·subst h1; simp
    ·rw [if_neg h1]
     dsimp only
     by_cases h2 : l < m + 1
     ·rw [if_pos h2, if_pos (by omega)]
     ·rw [if_neg h2, if_neg (by omega)]
  ·obtain rfl : n = 13 := by omega
   refine wk ?_
   refine xlda hB rfl (by rw [size_tabA]; rfl) ?_
   refine xsta hB2 rfl rfl (by rw [size_tabA]; rfl) (by rw [size_tabA, size_tabA]) (tabA_one _ _) (fun w3 hB3 hF3 => ?_)
   refine wk ?_
   have e : tabA (fun l => if l < 13 then firstB zs l else 0) (manyB zs) = tabA (firstB zs) (manyB zs) := tabA_congr (fun l hl => by simp [hl]) (fun l hl => rfl)
   rw [e] at hB3
   refine tretc rfl rfl hB3 (by rw [size_tabA]; rfl) ⟨rfl, hE.te hF3 fun j hj e => by omega⟩
 ·intro H
  refine wk ?_
  refine xalloc (z := .agg (tabA (fun _ => 0) (fun _ => 0))) (by kernel_rfl) (fun w2 hB2 hE2 hs2 => ?_)
  rw [hs1] at hB2 ⊢
  refine wk ?_
  refine tloop (α := Nat) (fun k => [(2, .pointer (some ⟨w.heap.size, 0, none⟩)), (3, .pointer (some ⟨w.heap.size + 1, 0, none⟩)), (7, .slice A zs.length c), (8, .int .i64 (zs.length : Int)), (9, .int .i64 (k : Int))]) (CntI zs (w.heap.size + 1) w.heap.size w) (fun k => zs.length - k) 0 (sub ⟨rfl, rfl, rfl, rfl, rfl⟩) ⟨by omega, hB2, hB1.ext hE2, hE1.te hE2 fun _ _ hh => hh⟩ ?_
  rintro k w3 ⟨hk, hB3, hB32, hE3⟩
  by_cases hlt : k < zs.length
  ·obtain ⟨b, o, z, rfl, hb, hzk, hcell, hdrop⟩ := at_row hA hlt
   have hzz := hz z (List.mem_of_getElem? hzk)
   obtain ⟨q, rfl⟩ := Int.eq_ofNat_of_zero_le hzz.1
   have hcell3 := hE3.cell hcell
   have hcq : w3.cell? ⟨w.heap.size + 1, 13 + q, none⟩ = some (.int .u64 ((zs.take k).count (q : Int) : Int)) := by rw [hB3.cell, tabA_m _ _ _ (by omega)]
   have hcnt : (zs.take k).count (q : Int) ≤ 400 := by
    have := List.count_le_length (a := (q : Int)) (l := zs.take k)
    rw [List.length_take] at this; omega
   refine wk ?_
   refine xiq q (13 + q) rfl rfl rfl rfl (by omega) (by omega) (by omega) ?_
   refine wk ?_
   refine wk ?_
   refine xiq q (13 + q) rfl rfl rfl rfl (by omega) (by omega) (by omega) ?_
   refine xstb hB3 rfl rfl rfl rfl (by rw [size_tabA]; simp; omega) (fun w4 hB4 hF4 => ?_)
   refine wk ?_
   refine tfin ⟨k + 1, sub ⟨rfl, rfl, rfl, rfl, rfl⟩, ⟨by omega, ?_, hB32.fr hF4 (by show ¬ w.heap.size = _; omega), hE3.te hF4 fun j hj e => by omega⟩, by dsimp only; omega⟩
   have e : ((List.count (q : Int) (List.take k zs) : Int) + 1) = ((List.count (q : Int) (List.take k zs) + 1 : Nat) : Int) := by omega
   rw [e, tabA_set_m _ _ _ _ (by omega)] at hB4
   rw [tabA_congr (f' := fun _ => 0) (m' := updF (fun l => (zs.take k).count (l : Int)) q ((zs.take k).count (q : Int) + 1)) (fun l hl => rfl) (fun l hl => ?_)]
   ·exact hB4
   ·rw [List.take_add_one, hzk]
    unfold updF
    simp only [Option.toList_some, List.count_append, List.count_singleton]
    by_cases h1 : l = q
    ·subst h1; simp
    ·have : ¬ (q : Int) = (l : Int) := by omega
     simp [h1, this]
  ·obtain rfl : k = zs.length := by omega
   refine wk ?_
   refine xiq 0 13 rfl rfl rfl rfl (by omega) (by omega) (by omega) ?_
   refine xstb hB3 rfl rfl rfl rfl (by rw [size_tabA]; rfl) (fun w4 hB4 hF4 => ?_)
   refine wk ?_
   refine tlabel ?_
   refine tweak (H 1 w4 ⟨by omega, by omega, ?_, hB32.fr hF4 (by show ¬ w.heap.size = _; omega), hE3.te hF4 fun j hj e => by omega⟩) (sub ⟨rfl, rfl, rfl⟩)
   have hB4' : Blk w4 (w.heap.size + 1) 467 ((tabA (fun _ => 0) (fun l => (zs.take zs.length).count (l : Int))).setIfInBounds (13 + 0) (.int .u64 ((0 : Nat) : Int))) := hB4
   rw [tabA_set_m _ _ _ _ (by omega)] at hB4'
   rw [tabA_congr (f' := fun _ => 0) (m' := updF (fun l => (zs.take zs.length).count (l : Int)) 0 0) (fun l hl => ?_) (fun l hl => ?_)]
   ·exact hB4'
   ·by_cases h1 : l < 1
    ·obtain rfl : l = 0 := by omega
     rfl
    ·rw [if_neg h1]
   ·unfold updF manyB
    rw [List.take_length]
def codeB (zs : List Int) (s : Nat) : Nat := match zs[s]? with
 | some z => if 0 < z then firstB zs z.toNat + (zs.take s).count z else 0
 | none => 0
def codesB (zs : List Int) : List Int := (List.range zs.length).map fun s => (codeB zs s : Int)
def UB (w : World) (b : Nat) (l : List Int) : Prop := Blk w b 23 (l.map (Value.int .u64)).toArray
theorem UB.row {w : World} {b : Nat} {l : List Int} (h : UB w b l) (hl : l.length ≤ maxLen) : URow w (.slice (some ⟨b, 0, none⟩) l.length l.length) l :=
 ⟨_, _, rfl, Nat.le_refl _, hl, fun _ => ⟨b, 0, rfl, Blk.lt h, fun j u hu => by rw [Nat.zero_add, Blk.cell h]; simpa using hu⟩⟩
theorem sl_uints : SlT 244 23 (.int .u64 0) 1 8 := slT Tryz.underlying244 (by kernel_rfl)
def codesTo (zs : List Int) (k : Nat) : List Int := (List.range zs.length).map fun s => if s < k then (codeB zs s : Int) else 0
structure CodI (zs : List Int) (g b : Nat) (w0 : World) (k : Nat) (w : World) : Prop where
 le : k ≤ zs.length
 B : Blk w g 467 (tabA (fun l => firstB zs l + if l = 0 then 0 else (zs.take k).count (l : Int)) (manyB zs))
 U : UB w b (codesTo zs k)
 ext : Ext w0 w
theorem may_len {zs : List Int} (h : mayB zs = true) : zs.length ≤ 400 := by
 simp only [mayB, Bool.and_eq_true, decide_eq_true_eq] at h; exact h.1
theorem may_lens {zs : List Int} (h : mayB zs = true) : Lens zs := by
 simp only [mayB, Bool.and_eq_true, decide_eq_true_eq] at h
 have key : ∀ (l : List Int) (c s : Int), hmayGo l c s = true → Lens l := by
  intro l
  induction l with
  | nil => intro c s _ z hz; cases hz
  | cons n r ih =>
   intro c s hg
   rw [hmayGo_cons] at hg
   split at hg
   ·cases hg
   ·rename_i hn
    have hr : Lens r := by
     split at hg
     ·exact ih _ _ hg
     ·exact ih _ _ hg
    intro z hz
    rcases List.mem_cons.1 hz with rfl | h'
    ·omega
    ·exact hr z h'
 exact key zs 0 0 h.2
theorem take_count_lt {zs : List Int} {k : Nat} {z : Int} (h : zs[k]? = some z) : (zs.take k).count z < zs.count z := by
 have e : zs = zs.take k ++ (z :: zs.drop (k + 1)) := by
  have hk : k < zs.length := (List.getElem?_eq_some_iff.1 h).1
  have hz : zs[k] = z := by rw [List.getElem?_eq_getElem hk] at h; injection h
  rw [← hz, ← List.drop_eq_getElem_cons hk, List.take_append_drop]
 have e2 : zs.count z = (zs.take k).count z + ((z :: zs.drop (k + 1)).count z) := by
  conv => lhs; rw [e, List.count_append]
 rw [e2, List.count_cons_self]; omega
theorem codes_does (w : World) (v : Value) (zs : List Int) (hv : IRow w v zs) (hm : mayB zs = true) :
  Does Tryz.prog 394 #[v] w fun r w' => ∃ b, r = .slice (some ⟨b, 0, none⟩) zs.length zs.length ∧ w.heap.size ≤ b ∧ UB w' b (codesB zs) ∧ Ext w w' := by
 have hrow := hv
 have hl := may_len hm
 have hz := may_lens hm
 obtain ⟨A, c, rfl, hc, hcm, hA⟩ := hv
 refine does1 Tryz.func394 rfl (by kernel_rfl) ?_
 refine wk ?_
 refine tscope1 (α := Nat × Nat × Nat) 0 rfl (fun x => [(0, .slice A zs.length c), (3, .pointer (some ⟨x.2.1, 0, none⟩)), (4, .slice (some ⟨x.2.2, 0, none⟩) zs.length zs.length), (5, .int .i64 (x.1 : Int))]) (fun x w' => CodI zs x.2.1 x.2.2 w x.1 w' ∧ w.heap.size ≤ x.2.1 ∧ w.heap.size ≤ x.2.2) (fun x => zs.length - x.1) ?_ ?_
 ·rintro ⟨k, g, b⟩ w1 ⟨⟨hk, hB, hU, hE⟩, hg, hb⟩
  dsimp only at hk hB hU hg hb ⊢
  have hgb : g ≠ b := Blk.ne_ hB hU (by decide)
  by_cases hlt : k < zs.length
  ·obtain ⟨b0, o0, z, rfl, hb0, hzk, hcell, hdrop⟩ := at_row hA hlt
   have hzz := hz z (List.mem_of_getElem? hzk)
   obtain ⟨q, rfl⟩ := Int.eq_ofNat_of_zero_le hzz.1
   have hcell1 := hE.cell hcell
   by_cases hq : q = 0
   ·subst hq
    refine wk ?_
    refine tgoto rfl ⟨_, (by show zs.length - (k + 1) < zs.length - k; omega), rfl, (k + 1, g, b), sub ⟨rfl, rfl, rfl, rfl⟩, ⟨⟨by dsimp only; omega, ?_, ?_, hE⟩, hg, hb⟩, rfl⟩
    ·dsimp only
     rw [tabA_congr (f' := fun l => firstB zs l + if l = 0 then 0 else (zs.take k).count (l : Int)) (m' := manyB zs) (fun l hl => ?_) (fun l hl => rfl)]
     ·exact hB
     ·by_cases h0 : l = 0
      ·simp [h0]
      ·rw [if_neg h0, if_neg h0, List.take_add_one, hzk]
       simp only [Option.toList_some, List.count_append, List.count_singleton]
       have : ¬ (0 : Int) = (l : Int) := by omega
       simp [this]
    ·have : codesTo zs (k + 1) = codesTo zs k := by
      unfold codesTo
      refine List.map_congr_left fun s hs => ?_
      by_cases h1 : s < k
      ·rw [if_pos h1, if_pos (by omega)]
      ·by_cases h2 : s = k
       ·subst h2; rw [if_pos (by omega), if_neg h1]; simp [codeB, hzk]
       ·rw [if_neg h1, if_neg (by omega)]
     rw [this]; exact hU
   ·have hfb := firstB_lt zs hl q (by omega)
    have hmq : manyB zs q = zs.count (q : Int) := by unfold manyB; rw [if_neg hq]
    have htc := take_count_lt hzk
    rw [← hmq] at htc
    have hcq : w1.cell? ⟨g, q, none⟩ = some (.int .u64 ((firstB zs q + (zs.take k).count (q : Int) : Nat) : Int)) := by rw [hB.cell, tabA_f _ _ _ (by omega)]; simp [hq]
    refine wk ?_
    refine xiq q q rfl rfl rfl rfl rfl (by omega) (by omega) ?_
    refine wk ?_
    refine xstb hU rfl rfl rfl rfl (by simp [codesTo]; omega) (fun w2 hU2 hF2 => ?_)
    have hB2 := hB.fr hF2 (by show ¬ g = b; exact hgb)
    have hcq2 : w2.cell? ⟨g, q, none⟩ = some (.int .u64 ((firstB zs q + (zs.take k).count (q : Int) : Nat) : Int)) := by rw [hB2.cell, tabA_f _ _ _ (by omega)]; simp [hq]
    refine wk ?_
    refine xiq q q rfl rfl rfl rfl rfl (by omega) (by omega) ?_
    refine wk ?_
    refine xiq q q rfl rfl rfl rfl rfl (by omega) (by omega) ?_
    refine xstb hB2 rfl rfl rfl rfl (by rw [size_tabA]; simp; omega) (fun w3 hB3 hF3 => ?_)
    refine wk ?_
    refine tgoto rfl ⟨_, (by show zs.length - (k + 1) < zs.length - k; omega), rfl, (k + 1, g, b), sub ⟨rfl, rfl, rfl, rfl⟩, ⟨⟨by dsimp only; omega, ?_, ?_, (hE.te hF2 fun j hj e => by omega).te hF3 fun j hj e => by omega⟩, hg, hb⟩, rfl⟩
    ·have e : ((firstB zs q + (zs.take k).count (q : Int) : Nat) : Int) + 1 = ((firstB zs q + (zs.take k).count (q : Int) + 1 : Nat) : Int) := by omega
     rw [e, tabA_set_f _ _ _ _ (by omega)] at hB3
     dsimp only
     rw [tabA_congr (f' := updF (fun l => firstB zs l + if l = 0 then 0 else (zs.take k).count (l : Int)) q (firstB zs q + (zs.take k).count (q : Int) + 1)) (m' := manyB zs) (fun l hl => ?_) (fun l hl => rfl)]
     ·exact hB3
     ·unfold updF
      by_cases h0 : l = 0
      ·subst h0; simp [Ne.symm hq]
      ·rw [if_neg h0, List.take_add_one, hzk]
       simp only [Option.toList_some, List.count_append, List.count_singleton]
       by_cases h1 : l = q
       ·subst h1; simp; omega
       ·have : ¬ (q : Int) = (l : Int) := by omega
        simp [h1, this, h0]
    ·dsimp only
     have : UB w3 b ((codesTo zs k).set k ((firstB zs q + (zs.take k).count (q : Int) : Nat) : Int)) := by
      unfold UB
      rw [List.map_set]
      have := Blk.fr hU2 hF3 (by show ¬ b = g; exact Ne.symm hgb)
      simpa using this
     have e : (codesTo zs k).set k ((firstB zs q + (zs.take k).count (q : Int) : Nat) : Int) = codesTo zs (k + 1) := by
      apply List.ext_getElem?
      intro s
      rw [List.getElem?_set]
      unfold codesTo
      by_cases hs : s < zs.length
      ·by_cases h1 : k = s
       ·subst h1
        simp only [List.length_map, List.length_range, hlt, if_true, List.getElem?_map, List.getElem?_range hlt, Option.map_some]
        rw [if_pos (by omega)]
        simp [codeB, hzk, show 0 < q by omega]
       ·rw [if_neg h1]
        simp only [List.getElem?_map, List.getElem?_range hs, Option.map_some]
        by_cases h2 : s < k
        ·rw [if_pos h2, if_pos (by omega)]
        ·rw [if_neg h2, if_neg (by omega)]
      ·rw [if_neg (by omega), List.getElem?_eq_none (by simp; omega), List.getElem?_eq_none (by simp; omega)]
     rw [e] at this
     exact this
  ·obtain rfl : k = zs.length := by omega
   refine wk ?_
   have e : codesTo zs zs.length = codesB zs := by
    unfold codesTo codesB
    exact List.map_congr_left fun s hs => by rw [if_pos (by simpa using hs)]
   rw [e] at hU
   exact tret1 rfl rfl ⟨b, rfl, hb, hU, hE⟩
 ·intro H
  refine wk ?_
  refine xcall rfl rfl (hmay_does w _ zs hrow) (fun r w1 h1 => ?_)
  obtain ⟨rfl, rfl⟩ := h1
  rw [hm]
  refine wk ?_
  refine xcall rfl rfl (hcount_does _ _ zs hrow hz hl) (fun r w2 h2 => ?_)
  obtain ⟨rfl, hE2⟩ := h2
  refine xalloc (z := .agg (tabA (fun _ => 0) (fun _ => 0))) (by kernel_rfl) (fun w3 hB3 hE3 hs3 => ?_)
  refine xsta hB3 rfl rfl (by rw [size_tabA]; rfl) (by show (tabA _ _).size = _; rw [size_tabA, size_tabA]) (tabA_one _ _) (fun w4 hB4 hF4 => ?_)
  refine wk ?_
  refine xmk sl_uints rfl rfl rfl (by omega) (by omega) (by omega) (fun w5 hB5 hE5 hs5 => ?_)
  rw [Int.toNat_natCast] at hB5 ⊢
  refine wk ?_
  refine tlabel ?_
  have hsz2 := hE2.size
  have hF24 : Ext w w4 := (hE2.te hE3 fun _ _ hh => hh).te hF4 fun j hj e => by omega
  have hsz4 := hF24.size
  refine tweak (H (0, w2.heap.size, w4.heap.size) w5 ⟨⟨by dsimp only; omega, ?_, ?_, hF24.te hE5 fun _ _ hh => hh⟩, hsz2, hsz4⟩) (sub ⟨rfl, rfl, rfl, rfl⟩)
  ·dsimp only
   have := hB4.ext hE5
   rw [tabA_congr (f' := firstB zs) (m' := manyB zs) (fun l hl => by simp) (fun l hl => rfl)]
   exact this
  ·dsimp only
   unfold UB
   have e : codesTo zs 0 = List.replicate zs.length 0 := by
    apply List.ext_getElem
    ·simp [codesTo]
    ·intro i h1 h2; simp [codesTo]
   rw [e, List.map_replicate]
   simpa using hB5
end
end Go.Proofs.YtpfelapckcojjaaGreatDoor.Eng
