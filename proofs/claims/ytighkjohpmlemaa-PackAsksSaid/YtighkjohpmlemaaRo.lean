/-
  The reference's GetCode.
-/
import Derived.Test.YtighkjohpmlemaaRg
namespace Go.Proofs.Ytighkjohpmlemaa
open Go.RowKit
namespace Eng
attribute [local irreducible] xs T

theorem any_ok (zs : List Int) (hm : mayB zs = true) : decide (0 < npos zs) = okGet zs := by
  have hL := may_lens hm
  rw [Bool.eq_iff_iff, decide_eq_true_eq]
  simp only [okGet, hm, Bool.true_and, Bool.and_eq_true, Bool.not_eq_true', decide_eq_true_eq]
  constructor
  · intro h
    obtain ⟨z, hz, hp⟩ := List.countP_pos_iff.1 h
    have hp' : 0 < z := by simpa using hp
    have := maxL_le hz
    exact ⟨by cases zs with | nil => cases hz | cons a r => rfl, by omega⟩
  · rintro ⟨h1, h2⟩
    have hne : zs ≠ [] := fun e => by rw [e] at h1; cases h1
    have hmem := maxL_mem hne
    have := (hL _ hmem).1
    exact List.countP_pos_iff.2 ⟨_, hmem, by simp; omega⟩

structure GcI (zs ys : List Int) (gc p : Nat) (w0 : World) (k : Nat) (w : World) : Prop where
  top : k < (maxL zs).toNat
  U : UB w gc (codesB zs)
  go : getGo zs ys (maxL zs).toNat ((maxL zs).toNat - k) (p + k) k (val (unpk ys p k)) = getB zs ys p
  lo : firstB zs (k + 1) ≤ 2 * val (unpk ys p k)
  fr : Ext w0 w

set_option maxRecDepth 20000 in
set_option maxHeartbeats 8000000 in
theorem rgetc_ok (w : World) (g : Nat) (v : Value) (zs ys : List Int) (p : Nat) (hi : RIn w g ys p) (hv : IRow w v zs) (hg : v.ownBlock ≠ some g) (hok : okGet zs = true) (hy : ys.length ≤ 2 ^ 40) :
    Does Try.prog 28 #[.pointer (some ⟨g, 0, none⟩), v] w fun r w' => r = .tuple #[.int .i64 (getB zs ys p).1, .int .i64 (getB zs ys p).2.1] ∧ RIn w' g ys (if (getB zs ys p).2.1 = 0 then (getB zs ys p).2.2 else p) ∧ Fr (· = g) w w' := by
  have hm : mayB zs = true := by
    simp only [okGet, Bool.and_eq_true] at hok; exact hok.1.1
  have hl := may_len hm
  have hz := may_lens hm
  have hnp : 0 < npos zs := by have := any_ok zs hm; rw [hok] at this; simpa using this
  have hne : zs ≠ [] := fun e => by rw [e] at hnp; simp [npos] at hnp
  have hmx := hz _ (maxL_mem hne)
  have hmp : 0 < maxL zs := by
    simp only [okGet, Bool.and_eq_true, decide_eq_true_eq] at hok; have := hok.2; omega
  have htop : ∀ k, k < (maxL zs).toNat → 0 < k → 2 ≤ npos zs := fun k h1 h2 => by
    apply Classical.byContradiction
    intro hc
    have := one_top hm (by omega)
    rw [this] at h1
    have : (1 : Int).toNat = 1 := rfl
    omega
  have hrow := hv
  obtain ⟨A, c, rfl, hcc, hcm, hA⟩ := hv.op
  refine does2 Try.func28 rfl (by kernel_rfl) ?_
  refine go ?_
  refine tloop (α := Nat) (fun i => [(0, .pointer (some ⟨g, 0, none⟩)), (1, .slice A zs.length c), (6, .bool (decide (0 < npos (zs.take i)))), (7, .int .i64 (i : Int))]) (fun i w' => i ≤ zs.length ∧ w = w') (fun i => zs.length - i) 0 (sub ⟨rfl, rfl, rfl, rfl⟩) ⟨Nat.zero_le _, rfl⟩ ?_
  rintro i _ ⟨hile, rfl⟩
  by_cases hlt : i < zs.length
  · obtain ⟨b, o, z, rfl, _, hzi, hcell, _⟩ := hA.at_ hlt
    have t2 := npos_take hzi
    by_cases h0 : 0 < npos (zs.take i)
    · have e1 : decide (0 < npos (zs.take i)) = true := by simpa using h0
      have e2 : decide (0 < npos (zs.take (i + 1))) = true := by rw [t2]; simp; omega
      rw [e1]
      refine go ?_
      exact tfin ⟨i + 1, sub ⟨rfl, rfl, by rw [e2]; rfl, rfl⟩, ⟨by omega, rfl⟩, (by show zs.length - (i + 1) < zs.length - i; omega)⟩
    · have e1 : decide (0 < npos (zs.take i)) = false := by simpa using h0
      rw [e1]
      by_cases hp : 0 < z
      · rw [if_pos hp] at t2
        have e2 : decide (0 < npos (zs.take (i + 1))) = true := by rw [t2]; simp
        refine go ?_
        exact tfin ⟨i + 1, sub ⟨rfl, rfl, by rw [e2]; rfl, rfl⟩, ⟨by omega, rfl⟩, (by show zs.length - (i + 1) < zs.length - i; omega)⟩
      · rw [if_neg hp] at t2
        have e2 : decide (0 < npos (zs.take (i + 1))) = false := by rw [t2]; simp; omega
        refine go ?_
        exact tfin ⟨i + 1, sub ⟨rfl, rfl, by rw [e2]; rfl, rfl⟩, ⟨by omega, rfl⟩, (by show zs.length - (i + 1) < zs.length - i; omega)⟩
  obtain rfl : i = zs.length := by omega
  rw [List.take_length, show decide (0 < npos zs) = true from by simpa using hnp]
  refine go ?_
  refine xcall rfl rfl (mayLens_does w _ zs hrow (by omega)) (fun r w1 h1 => ?_)
  obtain ⟨rfl, rfl⟩ := h1
  rw [hm]
  refine go ?_
  refine xcall rfl rfl (rcodes_does w _ zs hrow hm) (fun r w2 h2 => ?_)
  obtain ⟨gc, rfl, hgc, hU, hE2⟩ := h2
  refine go ?_
  refine tloop (α := Nat) (fun k => [(0, .pointer (some ⟨g, 0, none⟩)), (1, .slice A zs.length c), (8, .slice (some ⟨gc, 0, none⟩) zs.length zs.length), (9, .int .i64 ((k + 1 : Nat) : Int))]) (GcI zs ys gc p w) (fun k => 13 - k) 0 (sub ⟨rfl, rfl, rfl, rfl⟩) ⟨by omega, hU, rfl, by simp [firstB, manyB], hE2⟩ ?_
  rintro k w3 ⟨hk, hU3, hgo, hlo, hE3⟩
  obtain ⟨f, hf⟩ : ∃ f, (maxL zs).toNat - k = f + 1 := ⟨(maxL zs).toNat - k - 1, by omega⟩
  have hsucc : val (unpk ys p (k + 1)) = 2 * val (unpk ys p k) + bitAt ys (p + k) := by rw [unpk_succ, val_snoc]
  rw [hf, getGo, ← hsucc] at hgo
  have hin3 := hi.ext hE3
  have hile2 := hi.le
  refine go ?_
  refine xcall rfl rfl (rleft_does w3 g ys p hin3 hy) (fun r w4 h4 => ?_)
  obtain ⟨rfl, hE4⟩ := h4
  by_cases hcut : 8 * ys.length ≤ p + k
  · rw [if_pos hcut] at hgo
    refine go ?_
    refine tret2 rfl rfl rfl ⟨by rw [← hgo], by rw [← hgo, if_neg (show ¬ (5 : Int) = 0 by decide)]; exact hin3.ext hE4, (hE3.te hE4 (fun _ _ hh => hh)).fr⟩
  rw [if_neg hcut] at hgo
  have hin4 := hin3.ext hE4
  have c0 : w4.cell? ⟨g, 0, none⟩ = some (.string (strOfNums ys)) := hin4.blk.cell 0
  have c1 : w4.cell? ⟨g, 1, none⟩ = some (.int .i64 (p : Int)) := hin4.blk.cell 1
  refine go ?_
  refine xbd (cells := #[.string (strOfNums ys), .int .i64 (p : Int)]) rfl (by kernel_rfl) ?_
  refine xbox rfl (fun w5 hB5 hE5 hs5 => ?_)
  refine go ?_
  have hE35 : Ext w w5 := (hE3.te hE4 (fun _ _ hh => hh)).te ((Fr.drew _ _).te hE5) (fun _ _ hh => hh)
  have hj5 : RIn w5 w4.heap.size ys p := ⟨hB5, hi.byts, hi.le⟩
  refine xcall rfl rfl (rget_does w5 _ ys p (k + 1) hj5 (by omega) (by omega) hy) (fun r w6 h6 => ?_)
  obtain ⟨rfl, hj6, hF6⟩ := h6
  have hsz4 := hE3.size
  have hsz5 := hE4.size
  have hE6 : Ext w w6 := hE35.te hF6 fun j hj e => by have e' : j = w4.heap.size := e; omega
  have hgl := hi.blk.lt
  have hin6 := hi.ext hE6
  have hU6 : UB w6 gc (codesB zs) := (((hU3.ext hE4).ext (Fr.drew _ _)).ext hE5).fr hF6 (by have := hU3.lt; show ¬ gc = w4.heap.size; omega)
  have hr6 : Cl .i64 w6 A zs := by
    obtain ⟨_, _, e, _, _, hA6⟩ := (hrow.ext hE6).op
    injection e with e1 e2 e3
    rw [e1]; exact hA6
  obtain ⟨n, hn⟩ : ∃ n, n = val (unpk ys p (k + 1)) := ⟨_, rfl⟩
  have hnl : n < 2 ^ (k + 1) := by rw [hn]; have := val_lt (bits_unpk ys p (k + 1)); rwa [length_unpk] at this
  rw [← hn] at hgo hsucc ⊢
  have hn2 : n < 2 ^ 12 := Nat.lt_of_lt_of_le hnl (Nat.pow_le_pow_right (by decide) (by omega))
  clear c0 c1 hj5 hB5
  refine go ?_
  refine tloop (α := Nat) (fun i => [(0, .pointer (some ⟨g, 0, none⟩)), (1, .slice A zs.length c), (8, .slice (some ⟨gc, 0, none⟩) zs.length zs.length), (9, .int .i64 ((k + 1 : Nat) : Int)), (10, .pointer (some ⟨w4.heap.size, 0, none⟩)), (11, .int .u64 (n : Int)), (13, .int .i64 (i : Int))]) (fun i w' => i ≤ zs.length ∧ w6 = w' ∧ ∀ j, j < i → zs[j]? = some ((k + 1 : Nat) : Int) → codeB zs j ≠ n) (fun i => zs.length - i) 0 (sub ⟨rfl, rfl, rfl, rfl, rfl, rfl, rfl⟩) ⟨Nat.zero_le _, rfl, fun j hj => absurd hj (Nat.not_lt_zero _)⟩ ?_
  rintro i _ ⟨hile, rfl, hno⟩
  by_cases hlt : i < zs.length
  · obtain ⟨b, o, z, rfl, _, hzi, hcell, _⟩ := hr6.at_ hlt
    have hcode : (codesB zs)[i]? = some (codeB zs i : Int) := by simp [codesB, hlt]
    have hcc : w6.cell? ⟨gc, 0 + i, none⟩ = some (.int .u64 (codeB zs i : Int)) := by
      rw [Nat.zero_add, Blk.cell hU6]; simp [hcode]
    by_cases hzk : z = ((k + 1 : Nat) : Int)
    · by_cases hcn : codeB zs i = n
      · have hhit : hitB zs (k + 1) n = true := by
          cases hh : hitB zs (k + 1) n with
          | true => rfl
          | false => exact absurd hcn (hit_not (by omega) hh (by rw [hzi, hzk]))
        obtain ⟨i', h1, h2, h3⟩ := hit_at (by omega) hhit
        have hii : i' = i := hit_one (by omega) h1 (by rw [hzi, hzk]) h2 hcn
        rw [hii] at h3
        simp only [hitB, Bool.and_eq_true, decide_eq_true_eq] at hhit
        rw [if_pos hhit, h3] at hgo
        have c1 : w6.cell? ⟨w4.heap.size, 1, none⟩ = some (.int .i64 ((p + (k + 1) : Nat) : Int)) := hj6.blk.cell 1
        refine go ?_
        refine xstb hin6.blk rfl rfl rfl rfl rfl (fun w7 hB7 hF7 => ?_)
        refine go ?_
        refine tret2 rfl rfl rfl ⟨by rw [← hgo], by rw [← hgo, if_pos rfl]; exact (⟨hB7, hi.byts, by omega⟩ : RIn w7 g ys (p + k + 1)), hE6.fr.t hF7⟩
      · refine go ?_
        exact tfin ⟨i + 1, sub ⟨rfl, rfl, rfl, rfl, rfl, rfl, rfl⟩, ⟨by omega, rfl, fun j hj hjz => by
          by_cases e : j = i
          · rw [e]; exact hcn
          · exact hno j (by omega) hjz⟩, (by show zs.length - (i + 1) < zs.length - i; omega)⟩
    · refine go ?_
      exact tfin ⟨i + 1, sub ⟨rfl, rfl, rfl, rfl, rfl, rfl, rfl⟩, ⟨by omega, rfl, fun j hj hjz => by
          by_cases e : j = i
          · rw [e, hzi] at hjz; injection hjz with hjz; exact absurd hjz hzk
          · exact hno j (by omega) hjz⟩, (by show zs.length - (i + 1) < zs.length - i; omega)⟩
  obtain rfl : i = zs.length := by omega
  have hhit : hitB zs (k + 1) n = false := by
    cases hh : hitB zs (k + 1) n with
    | false => rfl
    | true =>
      obtain ⟨i', h1, h2, h3⟩ := hit_at (by omega) hh
      exact absurd h2 (hno i' (List.getElem?_eq_some_iff.1 h1).1 h1)
  have hnh : ¬ (firstB zs (k + 1) ≤ n ∧ n - firstB zs (k + 1) < manyB zs (k + 1)) := by
    intro hc
    rw [show hitB zs (k + 1) n = true from by simp only [hitB, Bool.and_eq_true, decide_eq_true_eq]; exact hc] at hhit
    cases hhit
  rw [if_neg hnh] at hgo
  have hge : firstB zs (k + 1) + manyB zs (k + 1) ≤ n := by omega
  have hlast : 2 ≤ npos zs → k + 1 < (maxL zs).toNat := fun h2 => by
    apply Classical.byContradiction
    intro hc
    have hw := whole hm h2
    rw [show (maxL zs).toNat = k + 1 from by omega] at hw
    omega
  have hnext : k + 1 < (maxL zs).toNat → GcI zs ys gc p w (k + 1) w6 := fun h => by
    rw [if_pos h, hn] at hgo
    exact ⟨h, hU6, by rw [show (maxL zs).toNat - (k + 1) = f from by omega]; exact hgo, by rw [← hn]; show (firstB zs (k + 1) + manyB zs (k + 1)) * 2 ≤ _; omega, hE6⟩
  by_cases hk0 : k = 0
  · subst hk0
    refine go ?_
    refine xcall rfl rfl (rsingle_does w6 _ zs (hrow.ext hE6)) (fun r w7 h7 => ?_)
    obtain ⟨rfl, rfl⟩ := h7
    by_cases h1 : npos zs = 1
    · rw [show decide (npos zs = 1) = true from by simpa using h1]
      have h3 := one_top hm h1
      rw [if_neg (by rw [h3]; decide)] at hgo
      refine go ?_
      exact tret2 rfl rfl rfl ⟨by rw [← hgo], by rw [← hgo, if_neg (show ¬ (3 : Int) = 0 by decide)]; exact hin6, hE6.fr⟩
    · rw [show decide (npos zs = 1) = false from by simpa using h1]
      refine go ?_
      exact tfin ⟨0 + 1, sub ⟨rfl, rfl, rfl, rfl⟩, hnext (hlast (by omega)), (by show 13 - (0 + 1) < 13 - 0; omega)⟩
  · refine go ?_
    exact tfin ⟨k + 1, sub ⟨rfl, rfl, rfl, rfl⟩, hnext (hlast (htop k hk (by omega))), (by show 13 - (k + 1) < 13 - k; omega)⟩

set_option maxRecDepth 20000 in
set_option maxHeartbeats 4000000 in
theorem rgetc_no (w : World) (g : Nat) (v : Value) (zs : List Int) (hv : IRow w v zs) (hl : zs.length ≤ 1000) (hok : okGet zs = false) :
    Does Try.prog 28 #[.pointer (some ⟨g, 0, none⟩), v] w fun r w' => r = .tuple #[.int .i64 0, .int .i64 1] ∧ w = w' := by
  have hrow := hv
  obtain ⟨A, c, rfl, hcc, hcm, hA⟩ := hv.op
  refine does2 Try.func28 rfl (by kernel_rfl) ?_
  refine go ?_
  refine tloop (α := Nat) (fun i => [(0, .pointer (some ⟨g, 0, none⟩)), (1, .slice A zs.length c), (6, .bool (decide (0 < npos (zs.take i)))), (7, .int .i64 (i : Int))]) (fun i w' => i ≤ zs.length ∧ w = w') (fun i => zs.length - i) 0 (sub ⟨rfl, rfl, rfl, rfl⟩) ⟨Nat.zero_le _, rfl⟩ ?_
  rintro i _ ⟨hile, rfl⟩
  by_cases hlt : i < zs.length
  · obtain ⟨b, o, z, rfl, _, hzi, hcell, _⟩ := hA.at_ hlt
    have t2 := npos_take hzi
    by_cases h0 : 0 < npos (zs.take i)
    · have e1 : decide (0 < npos (zs.take i)) = true := by simpa using h0
      have e2 : decide (0 < npos (zs.take (i + 1))) = true := by rw [t2]; simp; omega
      rw [e1]
      refine go ?_
      exact tfin ⟨i + 1, sub ⟨rfl, rfl, by rw [e2]; rfl, rfl⟩, ⟨by omega, rfl⟩, (by show zs.length - (i + 1) < zs.length - i; omega)⟩
    · have e1 : decide (0 < npos (zs.take i)) = false := by simpa using h0
      rw [e1]
      by_cases hp : 0 < z
      · rw [if_pos hp] at t2
        have e2 : decide (0 < npos (zs.take (i + 1))) = true := by rw [t2]; simp
        refine go ?_
        exact tfin ⟨i + 1, sub ⟨rfl, rfl, by rw [e2]; rfl, rfl⟩, ⟨by omega, rfl⟩, (by show zs.length - (i + 1) < zs.length - i; omega)⟩
      · rw [if_neg hp] at t2
        have e2 : decide (0 < npos (zs.take (i + 1))) = false := by rw [t2]; simp; omega
        refine go ?_
        exact tfin ⟨i + 1, sub ⟨rfl, rfl, by rw [e2]; rfl, rfl⟩, ⟨by omega, rfl⟩, (by show zs.length - (i + 1) < zs.length - i; omega)⟩
  obtain rfl : i = zs.length := by omega
  rw [List.take_length]
  refine go ?_
  refine xcall rfl rfl (mayLens_does w _ zs hrow hl) (fun r w1 h1 => ?_)
  obtain ⟨rfl, rfl⟩ := h1
  cases hm : mayB zs with
  | false =>
    refine go ?_
    exact tret2 rfl rfl rfl ⟨rfl, rfl⟩
  | true =>
    rw [any_ok zs hm, hok]
    refine go ?_
    exact tret2 rfl rfl rfl ⟨rfl, rfl⟩
set_option maxRecDepth 20000 in
set_option maxHeartbeats 4000000 in
theorem hget_no (w : World) (g : Nat) (v : Value) (zs : List Int) (hv : IRow w v zs) (hl : zs.length ≤ 1000) (hok : okGet zs = false) :
    Does Try.prog 26 #[.pointer (some ⟨g, 0, none⟩), v] w fun r w' => r = .tuple #[.int .i64 0, .int .i64 1] ∧ Ext w w' := by
  have hrow := hv
  obtain ⟨A, c, rfl, hcc, hcm, hA⟩ := hv.op
  refine does2 Try.func26 rfl (by kernel_rfl) ?_
  refine go ?_
  refine tscope1 (α := Nat) 0 rfl (fun _ => []) (fun _ _ => False) (fun x => x) (fun _ _ h => h.elim) ?_
  intro _
  refine go ?_
  refine xcall rfl rfl (may_does w _ zs hrow) (fun r w1 h1 => ?_)
  obtain ⟨rfl, rfl⟩ := h1
  cases hm : mayB zs with
  | false =>
    refine go ?_
    exact tret2 rfl rfl rfl ⟨rfl, Fr.refl _ _⟩
  | true =>
    by_cases h0 : zs.length = 0
    · refine go ?_
      exact tret2 rfl rfl rfl ⟨rfl, Fr.refl _ _⟩
    · have hmx : maxL zs = 0 := by
        simp only [okGet, hm, Bool.true_and] at hok
        cases zs with
        | nil => simp at h0
        | cons a r => simpa using hok
      refine go ?_
      refine xcall rfl rfl (max_does _ _ zs hrow (by omega) (by omega)) (fun r w2 h2 => ?_)
      obtain ⟨rfl, rfl⟩ := h2
      rw [hmx]
      refine go ?_
      exact tret2 rfl rfl rfl ⟨rfl, Fr.refl _ _⟩
end Eng
end Go.Proofs.Ytighkjohpmlemaa
