/-
  The law HuffShort: its parts, what they return.
-/
import Derived.Test.YtighkjohpmlemaaHk
import Derived.Test.YtighkjohpmlemaaEngD
namespace Go.Proofs.Ytighkjohpmlemaa
open Go.RowKit
namespace Eng
attribute [local irreducible] xs T

theorem mg_cast {q : Nat} (h0 : 0 < q) (h : q ≤ 12) : (mg (q : Int) : Int) = p2 (12 - (q : Int)) := by
  unfold mg p2
  rw [if_pos (by omega), Int.toNat_natCast, show (12 - (q : Int)).toNat = 12 - q from by omega]
  simp
theorem mg_le (z : Int) : mg z ≤ 4096 := by
  unfold mg
  split
  · exact Nat.le_trans (Nat.pow_le_pow_right (by decide) (Nat.sub_le _ _)) (by decide)
  · omega
theorem mg_sum_le : ∀ l : List Int, (l.map mg).sum ≤ 4096 * l.length
  | [] => by simp
  | z :: r => by
    have := mg_sum_le r
    have := mg_le z
    rw [List.map_cons, List.sum_cons, List.length_cons]; omega
theorem mg_take {zs : List Int} {i : Nat} {z : Int} (h : zs[i]? = some z) : ((zs.take (i + 1)).map mg).sum = ((zs.take i).map mg).sum + mg z := by
  rw [List.take_add_one, h]; simp

/-- What is known of the lengths and codes of good counts. -/
structure ShF (cs zs : List Int) (plain : Bool) : Prop where
  n2 : 2 ≤ cs.length
  n4 : cs.length ≤ 400
  len : zs.length = cs.length
  may : mayB zs = true
  bd : ∀ i, i < cs.length → ∃ q : Nat, zs[i]? = some (q : Int) ∧ 1 ≤ q ∧ q ≤ 12
  sum : (zs.map mg).sum = 4096
  mono : plain = true → ∀ i k, i < cs.length → k < cs.length → cs.getD i 0 < cs.getD k 0 → zs.getD k 0 ≤ zs.getD i 0

theorem shF_of {cs : List Int} {plain : Bool} (h2 : 2 ≤ cs.length) (hl : cs.length ≤ 400) (hc : ∀ z ∈ cs, 1 ≤ z) (hp : plain = true → isum cs < 610) : ShF cs (lengthsB cs) plain := by
  have hc0 : ∀ z ∈ cs, 0 ≤ z := fun z hz => by have := hc z hz; omega
  have h0 : 0 < cs.length := by omega
  have hlen := lengths_len h0 hl hc0
  have hmay := lengths_may h0 hl hc0
  have hbd : ∀ i, i < cs.length → ∃ q : Nat, (lengthsB cs)[i]? = some (q : Int) ∧ 1 ≤ q ∧ q ≤ 12 := fun i hi => by
    have h1 := lengths_pos h0 hl hc0 hi
    have h2 := hc _ (getD_mem hi)
    refine ⟨((lengthsB cs).getD i 0).toNat, ?_, by omega, by omega⟩
    have e : (lengthsB cs)[i]? = some ((lengthsB cs).getD i 0) := by
      rw [List.getD_eq_getElem?_getD, List.getElem?_eq_getElem (by omega)]; rfl
    rw [e]; congr 1; omega
  refine ⟨h2, hl, hlen, hmay, hbd, ?_, fun hpl i k hi hk hlt => ?_⟩
  · have hn : npos (lengthsB cs) = cs.length := by
      unfold npos
      rw [List.countP_eq_length.2, hlen]
      intro z hz
      obtain ⟨i, hi, e⟩ := mem_get_of hz
      obtain ⟨q, hq, h1, _⟩ := hbd i (by omega)
      rw [← e, List.getD_eq_getElem?_getD, hq]; simp; omega
    rcases may_cases hmay with ⟨h, _⟩ | ⟨h, _⟩ | ⟨_, h⟩
    · omega
    · omega
    · exact h
  · obtain ⟨cs', e, h⟩ := lengths_spec h0 hl hc0
    have := h.small (hp hpl)
    subst this
    rw [e]
    have h1 : 2 ≤ (ordB cs').length := by
      rw [(ordB_perm cs').length_eq]
      have : posB cs' = (List.range cs'.length).map fun (i : Nat) => (i : Int) := by
        unfold posB
        rw [List.filter_eq_self.2]
        intro i hi
        have := hc _ (getD_mem (List.mem_range.1 hi))
        exact decide_eq_true (by omega)
      rw [this]; simpa using h2
    obtain ⟨T, hT⟩ := lok_of h1
    exact hT.mono hi hk (by have := hc _ (getD_mem hi); omega) hlt

structure ShI (i : Nat) (w0 : World) (k : Nat) (w : World) : Prop where
  le : k ≤ i
  ext : Ext w0 w

set_option maxRecDepth 20000 in
set_option maxHeartbeats 16000000 in
theorem short_does (w : World) (v : Value) (cs : List Int) (plain : Bool) (hv : IRow w v cs) (h2 : 2 ≤ cs.length) (hl : cs.length ≤ 400) (hc : ∀ z ∈ cs, 1 ≤ z ∧ z ≤ 1073741824) (hp : plain = true → isum cs < 610) :
    Does Try.prog 29 #[v, .bool plain] w fun r w' => r = .bool true ∧ Ext w w' := by
  refine does2 Try.func29 rfl (by kernel_rfl) ?_
  have hF := shF_of h2 hl (fun z hz => (hc z hz).1) hp
  have hok : okLen cs = true := okLen_of (by omega) hl fun z hz => by have := hc z hz; omega
  have hrow := hv
  obtain ⟨A, c, rfl, hcc, hcm, hA⟩ := hv.op
  refine go ?_
  refine xcall rfl rfl (lengths_does w _ cs hrow hok) (fun r w1 h1 => ?_)
  obtain ⟨gl, rfl, hgl, hL, hE1⟩ := h1
  obtain ⟨zs, hzs⟩ : ∃ zs, zs = lengthsB cs := ⟨_, rfl⟩
  rw [← hzs] at hL hF
  obtain ⟨_, _, hlen, hmay, hbd, hsum, hmono⟩ := hF
  refine go ?_
  refine xcall rfl rfl (codes_does w1 _ zs (hL.row (by unfold maxLen; omega) _ hlen.symm) hmay) (fun r w2 h2 => ?_)
  obtain ⟨gc, rfl, hgc, hU, hE2⟩ := h2
  rw [hlen]
  have hL2 := hL.ext hE2
  have hE : Ext w w2 := Fr.t hE1 hE2
  have hcl : (codesB zs).length = cs.length := by simp [codesB, hlen]
  have cL : ∀ (w' : World), Ext w2 w' → ∀ i q, zs[i]? = some (q : Int) → w'.cell? ⟨gl, 0 + i, none⟩ = some (.int .i64 (q : Int)) := fun w' he i q hq => by
    rw [Nat.zero_add]
    have hi : i < zs.length := (List.getElem?_eq_some_iff.1 hq).1
    have := he.cell (hL2.cell hi)
    rwa [List.getD_eq_getElem?_getD, hq] at this
  have cC : ∀ (w' : World), Ext w2 w' → ∀ i, i < cs.length → w'.cell? ⟨gc, 0 + i, none⟩ = some (.int .u64 (codeB zs i : Int)) := fun w' he i hi => by
    rw [Nat.zero_add]
    have := he.cell (hU.cell (i := i) (by omega))
    rwa [show (codesB zs).getD i 0 = (codeB zs i : Int) from by simp [codesB, List.getD_eq_getElem?_getD, hlen, hi]] at this
  refine go ?_
  refine tloop (α := Nat) (fun i => [(0, .slice A cs.length c), (1, .bool plain), (5, .slice (some ⟨gl, 0, none⟩) cs.length cs.length), (7, .slice (some ⟨gc, 0, none⟩) cs.length cs.length), (8, .int .i64 ((((zs.take i).map mg).sum : Nat) : Int)), (9, .int .i64 (i : Int))])
    (ShI cs.length w2) (fun i => cs.length - i) 0 (sub ⟨rfl, rfl, rfl, rfl, rfl, rfl⟩) ⟨Nat.zero_le _, Fr.refl _ _⟩ ?_
  rintro i w3 ⟨hi, hE3⟩
  by_cases hlt : i < cs.length
  · obtain ⟨q, hq, hq1, hq2⟩ := hbd i hlt
    have cl := cL w3 hE3 i q hq
    have cc := cC w3 hE3 i hlt
    have hcode := code_lt hmay hq (by omega)
    have hshr : (codeB zs i : Int) / 2 ^ ((q : Int)).toNat = 0 := by
      rw [Int.toNat_natCast, shr_nat, Nat.div_eq_of_lt hcode]; rfl
    have hms := mg_sum_le (zs.take i)
    rw [List.length_take] at hms
    have hmq := mg_cast (show 0 < q by omega) hq2
    have hmle := mg_le (q : Int)
    have htk := mg_take hq
    obtain ⟨sm, hsm⟩ : ∃ s, s = ((zs.take i).map mg).sum := ⟨_, rfl⟩
    rw [← hsm] at hms htk ⊢
    repeat' (first | refine xcvu rfl rfl rfl (by omega) (by omega) ?_ | refine go1 ?_ | fail)
    refine xshr rfl rfl (by omega) (by simp [IntKind.bits]; omega) ?_
    rw [hshr]
    repeat' (first | refine xcvu rfl rfl rfl (by omega) (by omega) ?_ | refine go1 ?_ | fail)
    refine xshl (r := (mg (q : Int) : Int)) rfl rfl (by omega) (by simp [IntKind.bits]; omega) (by
      rw [Int.one_mul]
      have h9 : p2 (12 - (q : Int)) = 2 ^ (12 - (q : Int)).toNat := rfl
      rw [← h9, ← hmq]
      exact IntWalk.i64_in _ (by omega)) ?_
    refine go ?_
    clear hms hmle hcode hshr hmq hsum cl cc
    refine tloop (α := Nat) (fun k => [(0, .slice A cs.length c), (1, .bool plain), (5, .slice (some ⟨gl, 0, none⟩) cs.length cs.length), (7, .slice (some ⟨gc, 0, none⟩) cs.length cs.length), (8, .int .i64 ((sm : Int) + (mg (q : Int) : Int))), (9, .int .i64 (i : Int)), (10, .int .i64 (k : Int))])
      (ShI i w2) (fun k => i - k) 0 (sub ⟨rfl, rfl, rfl, rfl, rfl, rfl, rfl⟩) ⟨Nat.zero_le _, hE3.d⟩ ?_
    rintro k w4 ⟨hk, hE4⟩
    by_cases hkl : k < i
    · obtain ⟨r, hr, hr1, hr2⟩ := hbd k (by omega)
      have cl4 := cL w4 hE4 i q hq
      have cc4 := cC w4 hE4 i hlt
      have dl4 := cL w4 hE4 k r hr
      have dc4 := cC w4 hE4 k (by omega)
      obtain ⟨b0, o0, x, rfl, _, hx, hcx, _⟩ := hA.at_ hlt
      obtain ⟨b1, o1, y, he, _, hy, hcy, _⟩ := hA.at_ (show k < cs.length by omega)
      injection he with he; injection he with e1 e2; subst e1; subst e2
      have cx4 := hE4.cell (hE.cell hcx)
      have cy4 := hE4.cell (hE.cell hcy)
      have gx : cs.getD i 0 = x := by rw [List.getD_eq_getElem?_getD, hx]; rfl
      have gy : cs.getD k 0 = y := by rw [List.getD_eq_getElem?_getD, hy]; rfl
      have gq : zs.getD i 0 = (q : Int) := by rw [List.getD_eq_getElem?_getD, hq]; rfl
      have gr : zs.getD k 0 = (r : Int) := by rw [List.getD_eq_getElem?_getD, hr]; rfl
      have m1 : plain = true → x < y → r ≤ q := fun h1 h2 => by
        have := hmono h1 i k hlt (by omega) (by omega); omega
      have m2 : plain = true → y < x → q ≤ r := fun h1 h2 => by
        have := hmono h1 k i (by omega) hlt (by omega); omega
      have fin : ∀ env w', Sub [(0, .slice (some ⟨b0, o0, none⟩) cs.length c), (1, .bool plain), (5, .slice (some ⟨gl, 0, none⟩) cs.length cs.length), (7, .slice (some ⟨gc, 0, none⟩) cs.length cs.length), (8, .int .i64 ((sm : Int) + (mg (q : Int) : Int))), (9, .int .i64 (i : Int)), (10, .int .i64 ((k : Int) + 1))] env → Ext w2 w' →
          Again (fun k : Nat => [(0, .slice (some ⟨b0, o0, none⟩) cs.length c), (1, .bool plain), (5, .slice (some ⟨gl, 0, none⟩) cs.length cs.length), (7, .slice (some ⟨gc, 0, none⟩) cs.length cs.length), (8, .int .i64 ((sm : Int) + (mg (q : Int) : Int))), (9, .int .i64 (i : Int)), (10, .int .i64 (k : Int))]) (ShI i w2) (fun k => i - k) (i - k) env w' :=
        fun env w' hs he => ⟨k + 1, hs, ⟨by omega, he⟩, (by show i - (k + 1) < i - k; omega)⟩
      clear cL cC hmono hbd hA gx gy gq gr hcx hcy hx hy hc hp hok hrow hU hL hL2 htk
      by_cases hgt : r < q
      · have hfree := code_free hr hq (by omega) (by omega) (by omega)
        have hsh : (codeB zs i : Int) / 2 ^ (((q : Int) - (r : Int))).toNat = ((codeB zs i / 2 ^ (q - r) : Nat) : Int) := by
          rw [show ((q : Int) - (r : Int)).toNat = q - r from by omega, shr_nat]
        repeat' (first | refine xcvu rfl rfl rfl (by omega) (by omega) ?_ | refine go1 ?_ | fail)
        refine xshr rfl rfl (by omega) (by simp [IntKind.bits]; omega) ?_
        rw [hsh]
        generalize codeB zs i / 2 ^ (q - r) = u at hfree ⊢
        cases plain with
        | false =>
          refine go ?_
          exact tfin (fin _ _ (sub ⟨rfl, rfl, rfl, rfl, rfl, rfl, rfl⟩) hE4.d.d)
        | true =>
          have m1 := m1 rfl
          have m2 := m2 rfl
          rcases Int.lt_trichotomy x y with h3 | h3 | h3
          · have m1 := m1 h3
            clear m2
            first
            | (exfalso; omega)
            | (refine go ?_
               exact tfin (fin _ _ (sub ⟨rfl, rfl, rfl, rfl, rfl, rfl, rfl⟩) hE4.d.d))
          · clear m1 m2
            refine go ?_
            exact tfin (fin _ _ (sub ⟨rfl, rfl, rfl, rfl, rfl, rfl, rfl⟩) hE4.d.d)
          · have m2 := m2 h3
            clear m1
            first
            | (exfalso; omega)
            | (refine go ?_
               exact tfin (fin _ _ (sub ⟨rfl, rfl, rfl, rfl, rfl, rfl, rfl⟩) hE4.d.d))
      · have hfree := code_free hq hr (by omega) (by omega) (by omega)
        have hsh : (codeB zs k : Int) / 2 ^ (((r : Int) - (q : Int))).toNat = ((codeB zs k / 2 ^ (r - q) : Nat) : Int) := by
          rw [show ((r : Int) - (q : Int)).toNat = r - q from by omega, shr_nat]
        repeat' (first | refine xcvu rfl rfl rfl (by omega) (by omega) ?_ | refine go1 ?_ | fail)
        refine xshr rfl rfl (by omega) (by simp [IntKind.bits]; omega) ?_
        rw [hsh]
        generalize codeB zs k / 2 ^ (r - q) = u at hfree ⊢
        cases plain with
        | false =>
          refine go ?_
          exact tfin (fin _ _ (sub ⟨rfl, rfl, rfl, rfl, rfl, rfl, rfl⟩) hE4.d.d)
        | true =>
          have m1 := m1 rfl
          have m2 := m2 rfl
          rcases Int.lt_trichotomy x y with h3 | h3 | h3
          · have m1 := m1 h3
            clear m2
            first
            | (exfalso; omega)
            | (refine go ?_
               exact tfin (fin _ _ (sub ⟨rfl, rfl, rfl, rfl, rfl, rfl, rfl⟩) hE4.d.d))
          · clear m1 m2
            refine go ?_
            exact tfin (fin _ _ (sub ⟨rfl, rfl, rfl, rfl, rfl, rfl, rfl⟩) hE4.d.d)
          · have m2 := m2 h3
            clear m1
            first
            | (exfalso; omega)
            | (refine go ?_
               exact tfin (fin _ _ (sub ⟨rfl, rfl, rfl, rfl, rfl, rfl, rfl⟩) hE4.d.d))
    · obtain rfl : k = i := by omega
      refine go ?_
      exact tfin ⟨k + 1, sub ⟨rfl, rfl, rfl, rfl, ieq (by rw [htk]; omega), rfl⟩, ⟨by omega, hE4⟩, (by show cs.length - (k + 1) < cs.length - k; omega)⟩
  · obtain rfl : i = cs.length := by omega
    rw [← hlen, List.take_length, hsum]
    refine go ?_
    exact tret1 rfl rfl ⟨rfl, Fr.t hE hE3⟩
end Eng
end Go.Proofs.Ytighkjohpmlemaa
