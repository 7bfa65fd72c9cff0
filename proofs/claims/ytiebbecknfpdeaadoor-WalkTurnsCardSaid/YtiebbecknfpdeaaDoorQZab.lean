/-
  The walk's laws: WalkTurns.
-/
import Derived.Test.YtiebbecknfpdeaaDoorQB5
import Derived.Test.YtiebbecknfpdeaaDoorQB7
import Derived.Test.YtiebbecknfpdeaaDoorQB9
namespace Go.Proofs.YtiebbecknfpdeaaDoor
open Go.RowKit
namespace Eng
/-- The first numbers, written out. -/
def decL (n : Nat) : List Str := (List.range n).map decU
theorem decL_len (n : Nat) : (decL n).length = n := by simp [decL]
theorem decL_succ (n : Nat) : decL (n + 1) = decL n ++ [decU n] := by unfold decL; rw [List.range_succ, List.map_append]; rfl
theorem decL_nodup : ∀ n, n < 9 → (decL n).Nodup := by decide +kernel
theorem count_one {o l : List Str} (hp : o.Perm l) (hn : l.Nodup) {x : Str} (hx : x ∈ l) : o.count x = 1 := by
  rw [hp.count_eq]
  rw [List.Nodup.count hn, if_pos hx]
theorem count_take (o : List Str) (x y : Str) (j : Nat) (hy : o[j]? = some y) : (o.take (j + 1)).count x = (o.take j).count x + if y = x then 1 else 0 := by
  rw [List.take_add_one, hy, List.count_append]
  simp [List.count_cons]
attribute [local irreducible] xs T
set_option maxRecDepth 20000 in
set_option maxHeartbeats 8000000 in
theorem walkTurns_core (w : World) (za zn : Int) : Does Tryd.prog 3 #[.int .i64 za, .int .i64 zn] w fun r w' => r = .bool true ∧ Ext w w' := by
  refine does2 Tryd.func3 rfl (by kernel_rfl) ?_
  have hub := uN_lt za
  obtain ⟨c, hc⟩ : ∃ c, c = uN za % 9 := ⟨_, rfl⟩
  have hc9 : c < 9 := by omega
  have hcz : ((uN za : Nat) : Int) % 9 = (c : Int) := by omega
  have hone : ∀ (l : List Str), ∀ u ∈ l.flatMap stC, u.oneCell' = true := fun l u hu => by
    obtain ⟨x, _, hx⟩ := List.mem_flatMap.1 hu
    rw [List.mem_singleton.1 hx]; rfl
  refine goL ?_
  refine tloop (α := Nat × Value) (fun x => [(0, .int .i64 za), (1, .int .i64 zn), (5, x.2), (6, .int .i64 (x.1 : Int))]) (fun x w' => Ext w w' ∧ x.1 ≤ c ∧ Ow stC 1 w' w.heap.size 9 x.2 (decL x.1)) (fun x => c - x.1) (0, .slice none 0 0) (sub ⟨rfl, rfl, rfl, rfl⟩) ⟨Fr.refl _ _, Nat.zero_le _, Ow.nil _ _ _⟩ ?_
  rintro ⟨i, v⟩ w1 ⟨hE1, hi, hO1⟩
  dsimp only at hE1 hi hO1 ⊢
  have hdl := decL_len i
  obtain ⟨A, cp, rfl, hc1, hc2, hA⟩ := hO1.rw.op stC_len
  by_cases hlt : i < c
  · repeat' (first | refine xcv (r := ((uN za : Nat) : Int)) rfl rfl rfl (uN_eq za) ?_ | refine go1LU ?_ | fail)
    refine xcall rfl rfl (rdec_does w1 i (by omega)) ?_
    rintro r w2 ⟨rfl, rfl⟩
    refine goL ?_
    refine xbs sl_strs rfl rfl (by decide) (by decide) (fun u hu => by rw [List.mem_singleton.1 hu]; rfl) (fun w3 hB3 hE3 hs3 => ?_)
    have hE03 := hE1.t hE3
    refine goL ?_
    refine xapz (B := w.heap.size) (news := stC (decU i)) sl_strs rfl (by decide) rfl (hO1.ext hE3) rfl (blk_row hB3 (by decide) rfl) rfl (fun u hu => by rw [List.mem_singleton.1 hu]; rfl) (by unfold maxLen; omega) (by omega) hE03.size (fun v4 w4 hO4 hF4 _ => ?_)
    have hO4' : Ow stC 1 w4 w.heap.size 9 v4 (decL (i + 1)) := by
      rw [decL_succ]
      exact Ow.ext1 (l' := [decU i]) (by simpa using hO4)
    have hE04 : Ext w w4 := hE03.trans hF4 fun j hj e => by have := (hO1.blk e).1; omega
    refine goL ?_
    exact tfin ⟨(i + 1, v4), sub ⟨rfl, rfl, rfl, rfl⟩, ⟨hE04, hlt, hO4'⟩, (by show c - (i + 1) < c - i; omega)⟩
  · obtain rfl : i = c := by omega
    repeat' (first | refine xcv (r := ((uN za : Nat) : Int)) rfl rfl rfl (uN_eq za) ?_ | refine go1LU ?_ | fail)
    refine xcall rfl rfl (order_does w1 _ (decL i) zn hO1.rw (by omega)) ?_
    rintro r w2 ⟨hO2, hE2⟩
    have hE02 := hE1.t hE2
    obtain ⟨o, ho⟩ : ∃ o, o = ordM (decL i).length (decL i) (uN zn) := ⟨_, rfl⟩
    rw [← ho] at hO2
    have hperm : o.Perm (decL i) := ho ▸ ordM_perm _ _ _ rfl
    have hol : o.length = i := by rw [hperm.length_eq, hdl]
    have hnd := decL_nodup i hc9
    obtain ⟨A2, cp2, rfl, _, _, hA2⟩ := hO2.rw.op stC_len
    have hA02 := hA.ext hE2
    refine goL ?_
    refine tloop (α := Nat) (fun k => [(1, .int .i64 zn), (5, .slice A (decL i).length cp), (7, .slice A2 o.length cp2), (8, .int .i64 (k : Int))]) (fun k w' => Ext w2 w' ∧ k ≤ i) (fun k => i - k) 0 (sub ⟨rfl, rfl, rfl, rfl⟩) ⟨Fr.refl _ _, Nat.zero_le _⟩ ?_
    rintro k w3 ⟨hE3, hk⟩
    by_cases hki : k < i
    · obtain ⟨b, off, x, rfl, _, hx, _, hcell⟩ := hA02.at_ (i := k) (by omega)
      refine goL ?_
      refine tloop (α := Nat) (fun j => [(1, .int .i64 zn), (5, .slice (some ⟨b, off, none⟩) (decL i).length cp), (7, .slice A2 o.length cp2), (8, .int .i64 (k : Int)), (9, .int .i64 (((o.take j).count x : Nat) : Int)), (10, .int .i64 (j : Int))]) (fun j w' => Ext w2 w' ∧ j ≤ i) (fun j => i - j) 0 (sub ⟨rfl, rfl, rfl, rfl, rfl, rfl⟩) ⟨hE3, Nat.zero_le _⟩ ?_
      rintro j w4 ⟨hE4, hj⟩
      by_cases hji : j < i
      · obtain ⟨b2, off2, y, rfl, _, hy, _, hcell2⟩ := hA2.at_ (i := j) (by omega)
        have hE4d : Ext w2 w4.drew := hE4.d
        have q0 : w4.drew.cell? ⟨b, off + k, none⟩ = some (.string (su x)) := by
          have := hE4d.cell (hcell 0 _ rfl)
          rwa [Nat.mul_one, Nat.add_zero] at this
        have q1 : w4.drew.cell? ⟨b2, off2 + j, none⟩ = some (.string (su y)) := by
          have := hE4d.cell (hcell2 0 _ rfl)
          rwa [Nat.mul_one, Nat.add_zero] at this
        have hct := count_take o x y j hy
        have hle : (o.take j).count x ≤ i := Nat.le_trans List.count_le_length (by rw [List.length_take]; omega)
        by_cases e : y = x
        · rw [if_pos e] at hct
          repeat' (first | refine xisq j (off2 + j) rfl rfl rfl rfl rfl (by omega) ?_ | refine xisq k (off + k) rfl rfl rfl rfl rfl (by omega) ?_ | refine xucmp (op := .eql) (r := true) rfl rfl (by simp [cmpU, e]) ?_ | refine go1L ?_ | fail)
          exact tfin ⟨j + 1, sub ⟨rfl, rfl, rfl, rfl, ieq (by omega), rfl⟩, ⟨hE4d, hji⟩, (by show i - (j + 1) < i - j; omega)⟩
        · rw [if_neg e] at hct
          repeat' (first | refine xisq j (off2 + j) rfl rfl rfl rfl rfl (by omega) ?_ | refine xisq k (off + k) rfl rfl rfl rfl rfl (by omega) ?_ | refine xucmp (op := .eql) (r := false) rfl rfl (by simp [cmpU, e]) ?_ | refine go1L ?_ | fail)
          exact tfin ⟨j + 1, sub ⟨rfl, rfl, rfl, rfl, ieq (by omega), rfl⟩, ⟨hE4d, hji⟩, (by show i - (j + 1) < i - j; omega)⟩
      · obtain rfl : j = i := by omega
        have h1 : (o.take j).count x = 1 := by
          rw [show o.take j = o from List.take_of_length_le (by omega)]
          exact count_one hperm hnd (List.mem_of_getElem? hx)
        rw [h1]
        refine goL ?_
        exact tfin ⟨k + 1, sub ⟨rfl, rfl, rfl, rfl⟩, ⟨hE4, hki⟩, (by show j - (k + 1) < j - k; omega)⟩
    · obtain rfl : k = i := by omega
      have hE03 := hE02.t hE3
      have hO3 := hO1.rw.ext (hE2.t hE3)
      refine goL ?_
      refine xcall rfl rfl (order_does w3 _ (decL k) 0 hO3 (by omega)) ?_
      rintro r w4 ⟨hO4, hE4⟩
      rw [show uN 0 = 0 by decide +kernel, ordM_zero] at hO4
      refine goL ?_
      refine xcall rfl rfl (told8_does w4) ?_
      rintro r w5 ⟨rfl, hE5⟩
      obtain ⟨A4, c4, rfl, _, _⟩ := hO4.form
      refine goL ?_
      refine xcall rfl rfl (texts_does w5 _ _ _ _ (hO4.rw.ext hE5) (hO3.ext (hE4.t hE5))) ?_
      rintro r w6 ⟨rfl, hE6⟩
      rw [decide_eq_true rfl]
      refine goL ?_
      exact tret1 rfl rfl ⟨rfl, ((hE03.t hE4).t hE5).t hE6⟩
end Eng
end Go.Proofs.YtiebbecknfpdeaaDoor
