/-
  Package huff: Put and Get.
-/
import Derived.Test.YtighkjohpmlemaaHf
namespace Go.Proofs.Ytighkjohpmlemaa
open Go.RowKit
namespace Eng

set_option maxRecDepth 20000 in
set_option maxHeartbeats 2000000 in
theorem hput_ok (w : World) (g : Nat) (bs : List Nat) (v : Value) (zs : List Int) (s q : Nat) (ho : OutR w g bs) (hv : IRow w v zs) (hg : v.ownBlock ≠ some g) (hm : mayB zs = true) (hs : zs[s]? = some (q : Int)) (hq : 0 < q) (hlen : bs.length ≤ 2 ^ 40) :
    Does Try.prog 22 #[.pointer (some ⟨g, 0, none⟩), v, .int .i64 (s : Int)] w fun r w' => r = .int .i64 0 ∧ OutR w' g (bs ++ bitsOf (codeB zs s) q) ∧ Fr (· = g) w w' := by
  have hl := may_len hm
  have hz := may_lens hm
  have hrow := hv
  obtain ⟨A, c, rfl, hc, hcm, hA⟩ := hv
  have hlt : s < zs.length := (List.getElem?_eq_some_iff.1 hs).1
  obtain ⟨b, o, z, rfl, hb, hzs, hcell, _⟩ := at_row hA hlt
  obtain rfl : z = (q : Int) := by rw [hs] at hzs; injection hzs with h; exact h.symm
  have hq12 := (hz _ (List.mem_of_getElem? hs)).2
  have hbg : b ≠ g := fun e => hg (by rw [← e]; rfl)
  refine does3 Try.func22 rfl (by kernel_rfl) ?_
  refine wk ?_
  refine xcall rfl rfl (may_does w _ zs hrow) (fun r w1 h1 => ?_)
  obtain ⟨rfl, rfl⟩ := h1
  rw [hm]
  refine wk ?_
  refine tdrawH [40] (fun w' => w'.cell? ⟨b, o + s, none⟩ = some (.int .i64 (q : Int))) (by kernel_rfl) (by kernel_rfl) hcell ?_
  refine wk ?_
  refine xcall rfl rfl (codes_does w.drew _ zs hrow hm) (fun r w2 h2 => ?_) (fun r w2 h2 => by obtain ⟨b2, _, _, _, hE2⟩ := h2; exact hE2.cell (w := w.drew) hcell)
  obtain ⟨b2, rfl, hb2, hU2, hE2⟩ := h2
  have hE : Ext w w2 := (Fr.drew _ _).te hE2
  have hcode : (codesB zs)[s]? = some (codeB zs s : Int) := by simp [codesB, hlt]
  have hcc : w2.cell? ⟨b2, 0 + s, none⟩ = some (.int .u64 (codeB zs s : Int)) := by
    rw [Nat.zero_add, Blk.cell hU2]; simp [hcode]
  refine wk ?_
  refine xldh rfl rfl (fun w' h => h) ?_
  have hcl : codeB zs s < 2 ^ 64 := by
    have h1 := firstB_lt zs hl q (by omega)
    have h2 := take_count_lt hs
    have h3 : manyB zs q = zs.count (q : Int) := by unfold manyB; rw [if_neg (by omega)]
    unfold codeB
    rw [hs]
    dsimp only
    split
    · rw [Int.toNat_natCast]; omega
    · omega
  refine xcall rfl rfl (outPut_does w2 g bs (codeB zs s) q (ho.ext hE) hcl (by omega) hlen) (fun r w3 h3 => ?_) (fun r w3 h3 => h3.2.2.cell (hE.cell hcell) (by show ¬ b = g; exact hbg))
  obtain ⟨rfl, hO, hF⟩ := h3
  refine wk ?_
  exact tret1 rfl rfl ⟨rfl, hO, (hE.fr (S := (· = g))).t hF⟩

/-- May the symbol be put? -/
def okPut (zs : List Int) (s : Int) : Bool := mayB zs && decide (0 ≤ s) && (match zs[s.toNat]? with
  | some z => decide (z ≠ 0)
  | none => false)

set_option maxRecDepth 20000 in
set_option maxHeartbeats 2000000 in
theorem hput_no (w : World) (g : Nat) (v : Value) (zs : List Int) (s : Int) (hv : IRow w v zs) (hm : okPut zs s = false) (hs1 : -9223372036854775808 ≤ s) (hs2 : s ≤ 9223372036854775807) :
    Does Try.prog 22 #[.pointer (some ⟨g, 0, none⟩), v, .int .i64 s] w fun r w' => r = .int .i64 1 ∧ w = w' := by
  have hrow := hv
  obtain ⟨A, c, rfl, hc, hcm, hA⟩ := hv
  refine does3 Try.func22 rfl (by kernel_rfl) ?_
  refine wk ?_
  refine xcall rfl rfl (may_does w _ zs hrow) (fun r w1 h1 => ?_)
  obtain ⟨rfl, rfl⟩ := h1
  by_cases hmm : mayB zs = true
  · rw [hmm]
    by_cases h0 : 0 ≤ s
    · obtain ⟨i, rfl⟩ := Int.eq_ofNat_of_zero_le h0
      by_cases hlt : i < zs.length
      · obtain ⟨b, o, z, rfl, hb, hzs, hcell, _⟩ := at_row hA hlt
        have hz0 : z = 0 := by
          unfold okPut at hm
          rw [hmm, Int.toNat_natCast, hzs] at hm
          simpa using hm
        subst hz0
        refine wk ?_
        exact tret1 rfl rfl ⟨rfl, rfl⟩
      · refine wk ?_
        exact tret1 rfl rfl ⟨rfl, rfl⟩
    · refine wk ?_
      exact tret1 rfl rfl ⟨rfl, rfl⟩
  · have : mayB zs = false := by simpa using hmm
    rw [this]
    refine wk ?_
    exact tret1 rfl rfl ⟨rfl, rfl⟩

/-- The symbol whose code comes next: the symbol, the error, the bits taken. -/
def getGo (zs ys : List Int) (top : Nat) : Nat → Nat → Nat → Nat → Int × Int × Nat
  | 0, p, _, _ => (0, 3, p)
  | f + 1, p, long, code => if 8 * ys.length ≤ p then (0, 5, p) else
    if firstB zs (long + 1) ≤ 2 * code + bitAt ys p ∧ 2 * code + bitAt ys p - firstB zs (long + 1) < manyB zs (long + 1) then ((symB zs ((long + 1 : Nat) : Int) (2 * code + bitAt ys p - firstB zs (long + 1)) : Int), 0, p + 1)
    else if long + 1 < top then getGo zs ys top f (p + 1) (long + 1) (2 * code + bitAt ys p) else (0, 3, p + 1)
def okGet (zs : List Int) : Bool := mayB zs && !zs.isEmpty && decide (maxL zs ≠ 0)
def getB (zs ys : List Int) (p : Nat) : Int × Int × Nat := getGo zs ys (maxL zs).toNat (maxL zs).toNat p 0 0

theorem foldl_max_mem (l : List Int) : ∀ a : Int, l.foldl max a = a ∨ l.foldl max a ∈ l := by
  induction l with
  | nil => intro a; left; rfl
  | cons x r ih =>
    intro a
    rw [List.foldl_cons]
    rcases ih (max a x) with h | h
    · by_cases hx : x ≤ a
      · left; rw [h]; omega
      · right; rw [h]; have : max a x = x := by omega
        rw [this]; simp
    · right; simp [h]
theorem maxL_mem {zs : List Int} (h : zs ≠ []) : maxL zs ∈ zs := by
  cases zs with
  | nil => exact absurd rfl h
  | cons y r =>
    unfold maxL
    simp only [List.tail_cons, List.headD_cons]
    rcases foldl_max_mem r y with e | e
    · rw [e]; simp
    · simp [e]

structure HgI (zs ys : List Int) (gi gt : Nat) (p0 : Nat) (w0 : World) (x : Nat × Nat × Nat) (w : World) : Prop where
  lt : x.1 < (maxL zs).toNat
  code : x.2.1 < 2 ^ x.1
  in_ : InR w gi ys x.2.2
  B : Blk w gt 88 (tabA (firstB zs) (manyB zs))
  go : getGo zs ys (maxL zs).toNat ((maxL zs).toNat - x.1) x.2.2 x.1 x.2.1 = getB zs ys p0
  fr : Fr (· = gi) w0 w

theorem bit_or1 (c b : Nat) (hc : c < 2 ^ 62) (hb : b < 2) : bits .or .u64 (2 * (c : Int)) (b : Int) = ((2 * c + b : Nat) : Int) := by
  have e2 : (2 * (c : Int)) = ((2 * c : Nat) : Int) := by omega
  rw [e2, u64_or_nat _ _ (by omega) (by omega), nat_join 1 (2 * c) b (by omega) (by omega)]

set_option maxRecDepth 20000 in
set_option maxHeartbeats 4000000 in
theorem hget_does (w : World) (gi : Nat) (v : Value) (zs ys : List Int) (p : Nat) (hi : InR w gi ys p) (hv : IRow w v zs) (hg : v.ownBlock ≠ some gi) (hok : okGet zs = true) (hy : ys.length ≤ 2 ^ 40) :
    Does Try.prog 26 #[.pointer (some ⟨gi, 0, none⟩), v] w fun r w' => r = .tuple #[.int .i64 (getB zs ys p).1, .int .i64 (getB zs ys p).2.1] ∧ InR w' gi ys (getB zs ys p).2.2 ∧ Fr (· = gi) w w' := by
  simp only [okGet, Bool.and_eq_true, Bool.not_eq_true', decide_eq_true_eq] at hok
  obtain ⟨⟨hm, hne⟩, hmx⟩ := hok
  have hne' : zs ≠ [] := by intro e; rw [e] at hne; cases hne
  have hl := may_len hm
  have hz := may_lens hm
  have hmem := hz _ (maxL_mem hne')
  have hrow := hv
  have hpos : 0 < zs.length := List.length_pos_iff.2 hne'
  obtain ⟨A, c, rfl, hc, hcm, hA⟩ := hv
  refine does2 Try.func26 rfl (by kernel_rfl) ?_
  refine wk ?_
  refine tscope1 (α := Nat × Nat × Nat × Nat) 0 rfl (fun x => [(0, .pointer (some ⟨gi, 0, none⟩)), (1, .slice A zs.length c), (6, .pointer (some ⟨x.1, 0, none⟩)), (7, .int .i64 (maxL zs)), (8, .int .u64 (x.2.2.1 : Int)), (9, .int .i64 (x.2.1 : Int))]) (fun x w' => HgI zs ys gi x.1 p w x.2 w' ∧ w.heap.size ≤ x.1) (fun x => 12 - x.2.1) ?_ ?_
  · rintro ⟨gt, long, code, q⟩ w1 ⟨⟨hlt, hcode, hin, hB, hgo, hfr⟩, hgt⟩
    dsimp only at hlt hcode hin hB hgo hgt ⊢
    obtain ⟨f, hf⟩ : ∃ f, (maxL zs).toNat - long = f + 1 := ⟨(maxL zs).toNat - long - 1, by omega⟩
    rw [hf, getGo] at hgo
    have hrow1 : IRow w1 (.slice A zs.length c) zs := hrow.fr hfr fun b hb e => hg (by rw [hb, e])
    have hcode2 : code < 2 ^ 12 := Nat.lt_of_lt_of_le hcode (Nat.pow_le_pow_right (by decide) (by omega))
    refine wk ?_
    refine xcall rfl rfl (get_does w1 gi ys q 1 hin (by omega) hy) (fun r w2 h2 => ?_)
    rcases h2 with ⟨hcut, rfl, hin2, hF2⟩ | ⟨hcut, rfl, hin2, hF2⟩
    · rw [if_pos (by have := hin.le; omega)] at hgo
      refine wk ?_
      refine tret2 rfl rfl rfl ⟨by rw [← hgo], by rw [← hgo]; exact hin2, hfr.t hF2⟩
    · rw [if_neg (by omega)] at hgo
      have hbit : val (unpk ys q 1) = bitAt ys q := by simp [unpk, val]
      rw [hbit]
      have hb2 : bitAt ys q < 2 := by unfold bitAt; omega
      generalize hbb : bitAt ys q = bit at *
      have hB2 := hB.fr hF2 (by show ¬ gt = gi; have := hin.lt; intro e; obtain ⟨⟨vv, hBi, _⟩, _⟩ := hin; exact Blk.ne_ hB hBi (by decide) e)
      have hfl := firstB_lt zs hl (long + 1) (by omega)
      have hcf : w2.cell? ⟨gt, long + 1, none⟩ = some (.int .u64 (firstB zs (long + 1) : Int)) := by rw [hB2.cell, tabA_f _ _ _ (by omega)]
      have hcm : w2.cell? ⟨gt, 13 + (long + 1), none⟩ = some (.int .u64 (manyB zs (long + 1) : Int)) := by rw [hB2.cell, tabA_m _ _ _ (by omega)]
      refine wk ?_
      refine xshl (r := 2 * (code : Int)) rfl rfl (by decide) (by decide) (by
        have e : (code : Int) * 2 ^ (1 : Int).toNat = 2 * (code : Int) := by show (code : Int) * 2 = _; omega
        rw [e]; exact u64_in _ (by omega) (by omega)) ?_
      refine wk ?_
      refine xbits (r := ((2 * code + bit : Nat) : Int)) rfl rfl (.inr (.inl rfl)) (bit_or1 _ _ (by omega) hb2) ?_
      generalize hcc : 2 * code + bit = code2 at *
      have hc2 : code2 < 2 ^ (long + 1) := by rw [Nat.pow_succ]; omega
      have hrow2 : IRow w2 (.slice A zs.length c) zs := hrow1.fr hF2 fun b hb e => hg (by rw [hb, e])
      by_cases hin1 : firstB zs (long + 1) ≤ code2 ∧ code2 - firstB zs (long + 1) < manyB zs (long + 1)
      · rw [if_pos hin1] at hgo
        refine wk ?_
        refine xiq (long + 1) (long + 1) rfl rfl rfl rfl (by omega) (by omega) (by omega) ?_
        refine wk ?_
        refine xiq (long + 1) (long + 1) rfl rfl rfl rfl (by omega) (by omega) (by omega) ?_
        refine wk ?_
        refine xiq (long + 1) (13 + (long + 1)) rfl rfl rfl rfl (by omega) (by omega) (by omega) ?_
        refine wk ?_
        refine xiq (long + 1) (long + 1) rfl rfl rfl rfl (by omega) (by omega) (by omega) ?_
        refine wk ?_
        have hmq : manyB zs (long + 1) = zs.count ((long + 1 : Nat) : Int) := by unfold manyB; rw [if_neg (by omega)]
        rw [show ((code2 : Int) - (firstB zs (long + 1) : Int)) = ((code2 - firstB zs (long + 1) : Nat) : Int) from by omega]
        refine xcall rfl rfl (symbol_does _ _ zs ((long + 1 : Nat) : Int) (code2 - firstB zs (long + 1)) hrow2 (by omega) hl) (fun r w3 h3 => ?_)
        obtain ⟨rfl, rfl⟩ := h3
        refine wk ?_
        refine tret2 rfl rfl rfl ⟨by rw [← hgo], by rw [← hgo]; exact hin2.ext (Fr.drew _ _), (hfr.t hF2).d⟩
      · rw [if_neg hin1] at hgo
        by_cases h1 : firstB zs (long + 1) ≤ code2
        · refine wk ?_
          refine xiq (long + 1) (long + 1) rfl rfl rfl rfl (by omega) (by omega) (by omega) ?_
          refine wk ?_
          refine xiq (long + 1) (long + 1) rfl rfl rfl rfl (by omega) (by omega) (by omega) ?_
          refine wk ?_
          refine xiq (long + 1) (13 + (long + 1)) rfl rfl rfl rfl (by omega) (by omega) (by omega) ?_
          by_cases h2 : long + 1 < (maxL zs).toNat
          · rw [if_pos h2] at hgo
            refine wk ?_
            exact tgoto rfl ⟨_, (by show 12 - (long + 1) < 12 - long; omega), rfl, (gt, long + 1, code2, q + 1), sub ⟨rfl, rfl, rfl, rfl, rfl, rfl⟩, ⟨⟨h2, hc2, hin2.ext (Fr.drew _ _), hB2, by dsimp only; rw [show (maxL zs).toNat - (long + 1) = f from by omega]; exact hgo, (hfr.t hF2).d⟩, hgt⟩, rfl⟩
          · rw [if_neg h2] at hgo
            refine wk ?_
            exact tret2 rfl rfl rfl ⟨by rw [← hgo], by rw [← hgo]; exact hin2.ext (Fr.drew _ _), (hfr.t hF2).d⟩
        · refine wk ?_
          refine xiq (long + 1) (long + 1) rfl rfl rfl rfl (by omega) (by omega) (by omega) ?_
          by_cases h2 : long + 1 < (maxL zs).toNat
          · rw [if_pos h2] at hgo
            refine wk ?_
            exact tgoto rfl ⟨_, (by show 12 - (long + 1) < 12 - long; omega), rfl, (gt, long + 1, code2, q + 1), sub ⟨rfl, rfl, rfl, rfl, rfl, rfl⟩, ⟨⟨h2, hc2, hin2.ext (Fr.drew _ _), hB2, by dsimp only; rw [show (maxL zs).toNat - (long + 1) = f from by omega]; exact hgo, (hfr.t hF2).d⟩, hgt⟩, rfl⟩
          · rw [if_neg h2] at hgo
            refine wk ?_
            exact tret2 rfl rfl rfl ⟨by rw [← hgo], by rw [← hgo]; exact hin2.ext (Fr.drew _ _), (hfr.t hF2).d⟩
  · intro H
    refine wk ?_
    refine xcall rfl rfl (may_does w _ zs hrow) (fun r w1 h1 => ?_)
    obtain ⟨rfl, rfl⟩ := h1
    rw [hm]
    refine wk ?_
    refine xcall rfl rfl (max_does _ _ zs hrow hpos (by omega)) (fun r w2 h2 => ?_)
    obtain ⟨rfl, rfl⟩ := h2
    refine wk ?_
    refine xcall rfl rfl (count_does _ _ zs hrow hz hl) (fun r w2 h2 => ?_)
    obtain ⟨rfl, hE2⟩ := h2
    refine wk ?_
    refine xcall rfl rfl (max_does _ _ zs (hrow.ext hE2) hpos (by omega)) (fun r w3 h3 => ?_)
    obtain ⟨rfl, rfl⟩ := h3
    refine xalloc (z := .agg (tabA (fun _ => 0) (fun _ => 0))) (by kernel_rfl) (fun w3 hB3 hE3 hs3 => ?_)
    refine xsta hB3 rfl rfl (by rw [size_tabA]; rfl) (by show (tabA _ _).size = _; rw [size_tabA, size_tabA]) (tabA_one _ _) (fun w4 hB4 hF4 => ?_)
    refine wk ?_
    refine tlabel ?_
    have hs2 := hE2.size
    have hF : Ext w w4 := (hE2.te hE3 fun _ _ hh => hh).te hF4 fun j hj e => by omega
    exact tweak (H (w2.heap.size, 0, 0, p) w4 ⟨⟨by dsimp only; omega, by simp, hi.ext hF, hB4, rfl, hF.fr⟩, hs2⟩) (sub ⟨rfl, rfl, rfl, rfl, rfl, rfl⟩)
end Eng
end Go.Proofs.Ytighkjohpmlemaa
