/-
  Package huff: Lengths; and the comparison of two rows of ints.
-/
import Derived.Test.YtighkjohpmlemaaHi
namespace Go.Proofs.Ytighkjohpmlemaa
open Go.RowKit
namespace Eng

/-- What a slice of integers shows; kept whole. -/
def Cl (k : IntKind) (w : World) (A : Option Addr) (zs : List Int) : Prop := 0 < zs.length → ∃ b o, A = some ⟨b, o, none⟩ ∧ b < w.heap.size ∧ ∀ j u, (zs.map (Value.int k))[j]? = some u → w.cell? ⟨b, o + j, none⟩ = some u
theorem Cl.at_ {k : IntKind} {w : World} {A : Option Addr} {zs : List Int} (h : Cl k w A zs) {i : Nat} (hi : i < zs.length) : ∃ b o z, A = some ⟨b, o, none⟩ ∧ b < w.heap.size ∧ zs[i]? = some z ∧ w.cell? ⟨b, o + i, none⟩ = some (.int k z) ∧ zs.drop i = z :: zs.drop (i + 1) := at_row h hi
theorem IRow.op {w : World} {v : Value} {zs : List Int} (h : IRow w v zs) : ∃ A c, v = .slice A zs.length c ∧ zs.length ≤ c ∧ c ≤ 9223372036854775807 ∧ Cl .i64 w A zs := by
  obtain ⟨A, c, h1, h2, h3, h4⟩ := h
  exact ⟨A, c, h1, h2, h3, h4⟩
theorem URow.op {w : World} {v : Value} {zs : List Int} (h : URow w v zs) : ∃ A c, v = .slice A zs.length c ∧ zs.length ≤ c ∧ c ≤ 9223372036854775807 ∧ Cl .u64 w A zs := by
  obtain ⟨A, c, h1, h2, h3, h4⟩ := h
  exact ⟨A, c, h1, h2, h3, h4⟩
theorem BRow.op {w : World} {v : Value} {zs : List Int} (h : BRow w v zs) : ∃ A c, v = .slice A zs.length c ∧ zs.length ≤ c ∧ c ≤ 9223372036854775807 ∧ Cl .u8 w A zs := by
  obtain ⟨A, c, h1, h2, h3, h4⟩ := h
  exact ⟨A, c, h1, h2, h3, h4⟩

theorem foldl_min (l : List Int) : ∀ a : Int, l.foldl min a ≤ a ∧ (∀ y ∈ l, l.foldl min a ≤ y) ∧ (l.foldl min a = a ∨ l.foldl min a ∈ l) := by
  induction l with
  | nil => intro a; exact ⟨Int.le_refl _, fun y hy => (by cases hy), .inl rfl⟩
  | cons x r ih =>
    intro a
    obtain ⟨h1, h2, h3⟩ := ih (min a x)
    rw [List.foldl_cons]
    refine ⟨by omega, fun y hy => ?_, ?_⟩
    · rcases List.mem_cons.1 hy with rfl | hy
      · omega
      · exact h2 y hy
    · rcases h3 with h3 | h3
      · rcases Int.le_total a x with h | h
        · left; omega
        · right; rw [h3, Int.min_eq_right h]; simp
      · right; exact List.mem_cons_of_mem _ h3
theorem minL_le {zs : List Int} {z : Int} (h : z ∈ zs) : minL zs ≤ z := by
  cases zs with
  | nil => cases h
  | cons x r =>
    unfold minL
    simp only [List.tail_cons, List.headD_cons]
    rcases List.mem_cons.1 h with rfl | h
    · exact (foldl_min r _).1
    · exact (foldl_min r x).2.1 z h
theorem minL_mem {zs : List Int} (h : zs ≠ []) : minL zs ∈ zs := by
  cases zs with
  | nil => exact absurd rfl h
  | cons x r =>
    unfold minL
    simp only [List.tail_cons, List.headD_cons]
    rcases (foldl_min r x).2.2 with e | e
    · rw [e]; simp
    · simp [e]

/-- The counts that Lengths takes. -/
def okLen (cs : List Int) : Bool := decide (1 ≤ cs.length) && decide (cs.length ≤ 400) && decide (0 ≤ minL cs) && decide (maxL cs ≤ 1073741824)
theorem okLen_spec {cs : List Int} (h : okLen cs = true) : 0 < cs.length ∧ cs.length ≤ 400 ∧ ∀ z ∈ cs, 0 ≤ z ∧ z ≤ 1073741824 := by
  simp only [okLen, Bool.and_eq_true, decide_eq_true_eq] at h
  exact ⟨by omega, by omega, fun z hz => by have := minL_le hz; have := maxL_le hz; omega⟩
theorem okLen_of {cs : List Int} (h0 : 0 < cs.length) (h1 : cs.length ≤ 400) (h2 : ∀ z ∈ cs, 0 ≤ z ∧ z ≤ 1073741824) : okLen cs = true := by
  have hne : cs ≠ [] := fun e => by rw [e] at h0; simp at h0
  have := h2 _ (minL_mem hne)
  have := h2 _ (maxL_mem hne)
  simp only [okLen, Bool.and_eq_true, decide_eq_true_eq]
  omega

/-- Half of the counts is halved. -/
def hmix (now : List Int) (i : Nat) : List Int := (halfB now).take i ++ now.drop i
theorem hmix_len (now : List Int) (i : Nat) (h : i ≤ now.length) : (hmix now i).length = now.length := by unfold hmix; simp; omega
theorem hmix_get (now : List Int) (i : Nat) (h : i < now.length) : (hmix now i).getD i 0 = now.getD i 0 := by
  unfold hmix
  rw [List.getD_eq_getElem?_getD, List.getD_eq_getElem?_getD, List.getElem?_append_right (by simp; omega)]
  simp only [List.length_take, halfB_len, Nat.min_eq_left (Nat.le_of_lt h), Nat.sub_self, List.getElem?_drop, Nat.add_zero]
theorem hmix_set (now : List Int) (i : Nat) (h : i < now.length) : (hmix now i).set i ((now.getD i 0 + 1) / 2) = hmix now (i + 1) := by
  have e1 : (halfB now).take (i + 1) = (halfB now).take i ++ [(now.getD i 0 + 1) / 2] := by
    rw [List.take_succ_eq_append_getElem (by simpa using h), ← halfB_get, List.getD_eq_getElem?_getD, List.getElem?_eq_getElem (by simpa using h)]; rfl
  unfold hmix
  rw [e1, List.set_append_right _ _ (by simp; omega), List.length_take, halfB_len, Nat.min_eq_left (Nat.le_of_lt h), Nat.sub_self, List.drop_eq_getElem_cons h, List.set_cons_zero]
  simp

structure LgI (cs : List Int) (w0 : World) (x : (Nat × List Int) × Nat × Nat) (w : World) : Prop where
  db : DB w x.2.1 x.1.2
  len : x.1.2.length = cs.length
  ok : ∀ z ∈ x.1.2, 0 ≤ z ∧ z ≤ 1073741824
  f : isum x.1.2 ≤ x.1.1
  go : lenGo x.1.1 x.1.2 = lengthsB cs
  ext : Ext w0 w
  g : w0.heap.size ≤ x.2.1
  cp : cs.length ≤ x.2.2 ∧ x.2.2 ≤ maxLen
structure LgJ (cs : List Int) (w0 : World) (x : (Nat × List Int × Nat) × Nat × Nat) (w : World) : Prop where
  i : x.1.2.2 ≤ cs.length
  db : DB w x.2.1 (hmix x.1.2.1 x.1.2.2)
  len : x.1.2.1.length = cs.length
  ok : ∀ z ∈ x.1.2.1, 0 ≤ z ∧ z ≤ 1073741824
  f : isum (halfB x.1.2.1) ≤ x.1.1
  go : lenGo x.1.1 (halfB x.1.2.1) = lengthsB cs
  ext : Ext w0 w
  g : w0.heap.size ≤ x.2.1
  cp : cs.length ≤ x.2.2 ∧ x.2.2 ≤ maxLen

def lenR (cs : List Int) (w : World) (r : Value) (w' : World) : Prop := ∃ gl, r = .tuple #[.slice (some ⟨gl, 0, none⟩) cs.length cs.length, .int .i64 0] ∧ w.heap.size ≤ gl ∧ IB w' gl (lengthsB cs) ∧ Ext w w'

set_option maxRecDepth 20000 in
set_option maxHeartbeats 4000000 in
theorem lengths_does (w : World) (v : Value) (cs : List Int) (hv : IRow w v cs) (hok : okLen cs = true) :
    Does Try.prog 15 #[v] w (lenR cs w) := by
  refine does1 Try.func15 rfl (by kernel_rfl) ?_
  obtain ⟨h0, hl, hc⟩ := okLen_spec hok
  have hne : cs ≠ [] := fun e => by rw [e] at h0; simp at h0
  have hmin := hc _ (minL_mem hne)
  have hmax := hc _ (maxL_mem hne)
  have hrow := hv
  obtain ⟨A, c, rfl, hcc, hcm, hA⟩ := hv.op
  refine wk ?_
  refine tscope2 (α := (Nat × List Int) × Nat × Nat) (β := (Nat × List Int × Nat) × Nat × Nat) 0 1 (by decide) rfl rfl
    (fun x => [(4, .slice (some ⟨x.2.1, 0, none⟩) cs.length x.2.2)]) (LgI cs w) (fun x => x.1.1 * 1000 + 1)
    (fun x => [(4, .slice (some ⟨x.2.1, 0, none⟩) cs.length x.2.2), (6, .int .i64 (x.1.2.2 : Int))]) (LgJ cs w) (fun x => x.1.1 * 1000 + 2 + (cs.length - x.1.2.2)) ?_ ?_ ?_
  · rintro ⟨⟨f, now⟩, g, cp⟩ w1 ⟨hdb, hlen, hok1, hf, hgo, hE, hg, hcp⟩ hj
    dsimp only at hdb hlen hok1 hf hgo hg hcp hj ⊢
    have hrow1 : IRow w1 (.slice (some ⟨g, 0, none⟩) cs.length cp) now := hdb.row hlen.symm hcp.1 hcp.2
    refine wk ?_
    refine xcall rfl rfl (merge_does w1 _ now hrow1 (by omega) (by omega) hok1) (fun r w2 h2 => ?_)
    obtain ⟨gl, rfl, hgl, hL, hE2⟩ := h2
    rw [hlen]
    have hnl : (mergeB now).length = cs.length := by rw [mergeB_len, hlen]
    refine wk ?_
    refine xcall rfl rfl (max_does w2 _ (mergeB now) (hL.row (by unfold maxLen; omega) _ hnl.symm) (by omega) (by omega)) (fun r w3 h3 => ?_)
    obtain ⟨rfl, rfl⟩ := h3
    by_cases h12 : maxL (mergeB now) ≤ 12
    · refine wk ?_
      refine tret2 rfl rfl rfl ⟨gl, rfl, by have := hE.size; omega, ?_, Fr.t hE hE2⟩
      rw [← hgo, lenGo_done h12]; exact hL
    · obtain ⟨f', rfl, hgo', hf'⟩ := lenGo_more (by omega) (by omega) (fun z hz => (hok1 z hz).1) hf (by omega)
      refine wk ?_
      refine tlabel ?_
      refine tweak (hj ((f', now, 0), g, cp) w2 ⟨Nat.zero_le _, ?_, hlen, hok1, hf', by rw [← hgo', hgo], Fr.t hE hE2, hg, hcp⟩ (by dsimp only; omega)) (sub ⟨rfl, rfl⟩)
      have : hmix now 0 = now := by simp [hmix]
      dsimp only
      rw [this]; exact hdb.ext hE2
  · rintro ⟨⟨f, now, i⟩, g, cp⟩ w1 ⟨hi, hdb, hlen, hok1, hf, hgo, hE, hg, hcp⟩ hj
    dsimp only at hi hdb hlen hok1 hf hgo hg hcp hj ⊢
    have hml := hmix_len now i (by omega)
    by_cases hlt : i < cs.length
    · have hz := hok1 (now.getD i 0) (getD_mem (by omega))
      have hgt := hmix_get now i (by omega)
      repeat' (first | refine xp rfl ?_ | refine xnil ?_ | refine xisq i i rfl rfl rfl rfl (by omega) (by omega) ?_ | refine xldd hdb rfl rfl (by omega) ?_; rw [hgt] | refine wk1 ?_ | fail)
      refine xstd hdb rfl rfl rfl (by omega) (fun w2 hdb2 hF2 => ?_)
      rw [hmix_set now i (by omega)] at hdb2
      refine wk ?_
      refine tgoto rfl ⟨_, ?_, .inr ⟨rfl, ((f, now, i + 1), g, cp), sub ⟨rfl, rfl⟩, ⟨by dsimp only; omega, hdb2, hlen, hok1, hf, hgo, Ext.te hE hF2 fun j hj e => by omega, hg, hcp⟩, rfl⟩⟩
      dsimp only; omega
    · obtain rfl : i = cs.length := by omega
      have : hmix now cs.length = halfB now := by
        unfold hmix
        rw [List.take_of_length_le (by simp; omega), List.drop_eq_nil_of_le (by omega), List.append_nil]
      rw [this] at hdb
      refine wk ?_
      refine tgoto rfl ⟨_, ?_, .inl ⟨rfl, ((f, halfB now), g, cp), sub rfl, ⟨hdb, by simpa using hlen, halfB_ok (by decide) hok1, hf, hgo, hE, hg, hcp⟩, rfl⟩⟩
      dsimp only; omega
  · intro H0 _
    refine wk ?_
    refine xcall rfl rfl (min_does w _ cs hrow h0 (by omega)) (fun r w3 h3 => ?_)
    obtain ⟨rfl, rfl⟩ := h3
    refine wk ?_
    refine xcall rfl rfl (max_does w _ cs hrow h0 (by omega)) (fun r w3 h3 => ?_)
    obtain ⟨rfl, rfl⟩ := h3
    refine wk ?_
    refine xcall rfl rfl (clone_does w _ cs hrow (by omega)) (fun r w3 h3 => ?_)
    obtain ⟨hown, hE3⟩ := h3
    obtain ⟨g, cp, rfl, hg, _, _⟩ := hown.igo h0
    have hdb := hown.db
    obtain ⟨_, _, e, h1, h2⟩ := hown.form
    injection e with _ _ e; subst e
    refine wk ?_
    refine tlabel ?_
    exact tweak (H0 (((isum cs).toNat, cs), g, cp) w3 ⟨hdb, rfl, hc, by have := isum_nonneg cs fun z hz => (hc z hz).1; dsimp only; omega, rfl, hE3, hg, by simpa using h1, h2⟩) (sub rfl)

set_option maxRecDepth 20000 in
set_option maxHeartbeats 4000000 in
theorem lengths_no (w : World) (v : Value) (cs : List Int) (hv : IRow w v cs) (hok : okLen cs = false) :
    Does Try.prog 15 #[v] w fun r w' => r = .tuple #[.slice none 0 0, .int .i64 1] ∧ w = w' := by
  refine does1 Try.func15 rfl (by kernel_rfl) ?_
  have hrow := hv
  obtain ⟨A, c, rfl, hcc, hcm, hA⟩ := hv.op
  refine wk ?_
  refine tscope1 (α := Nat) 0 rfl (fun _ => []) (fun _ _ => False) (fun x => x) (fun _ _ h => h.elim) ?_
  intro _
  have fin : ∀ env, look env 2 = some (.slice none 0 0) → look env 3 = some (.int .i64 1) → ∀ k, T Try.prog Try.f15 (fun r w' => r = .tuple #[.slice none 0 0, .int .i64 1] ∧ w = w') (.code .ret :: k) env w := fun env h1 h2 k => tret2 rfl h1 h2 ⟨rfl, rfl⟩
  by_cases h1 : cs.length < 1
  · refine wk ?_
    exact fin _ rfl rfl _
  by_cases h2 : 400 < cs.length
  · refine wk ?_
    exact fin _ rfl rfl _
  have hmm : ¬ (0 ≤ minL cs ∧ maxL cs ≤ 1073741824) := fun hh => by
    have : okLen cs = true := by
      simp only [okLen, Bool.and_eq_true, decide_eq_true_eq]; omega
    rw [this] at hok; cases hok
  refine wk ?_
  refine xcall rfl rfl (min_does w _ cs hrow (by omega) (by omega)) (fun r w3 h3 => ?_)
  obtain ⟨rfl, rfl⟩ := h3
  by_cases h3 : minL cs < 0
  · refine wk ?_
    exact fin _ rfl rfl _
  refine wk ?_
  refine xcall rfl rfl (max_does w _ cs hrow (by omega) (by omega)) (fun r w3 h3 => ?_)
  obtain ⟨rfl, rfl⟩ := h3
  refine wk ?_
  exact fin _ rfl rfl _


set_option maxRecDepth 20000 in
set_option maxHeartbeats 4000000 in
theorem ints_does (w : World) (v v' : Value) (a b : List Int) (hv : IRow w v a) (hv' : IRow w v' b) :
    Does Try.prog 17 #[v, v'] w fun r w' => r = .bool (decide (a = b)) ∧ Ext w w' := by
  refine does2 Try.func17 rfl (by kernel_rfl) ?_
  obtain ⟨A, c, rfl, hcc, hcm, hA⟩ := hv.op
  obtain ⟨A', c', rfl, hcc', hcm', hA'⟩ := hv'.op
  by_cases hne : a.length = b.length
  · refine wk ?_
    refine tloop (α := Nat) (fun i => [(0, .slice A a.length c), (1, .slice A' b.length c'), (5, .int .i64 (i : Int))]) (fun i w' => i ≤ a.length ∧ a.take i = b.take i ∧ Ext w w') (fun i => a.length - i) 0 (sub ⟨rfl, rfl, rfl⟩) ⟨Nat.zero_le _, by simp, Fr.refl _ _⟩ ?_
    rintro i w1 ⟨hi, ht, hE⟩
    by_cases hlt : i < a.length
    · obtain ⟨b1, o1, z, rfl, _, hz, hcell, _⟩ := hA.at_ hlt
      obtain ⟨b2, o2, z', rfl, _, hz', hcell', _⟩ := hA'.at_ (show i < b.length by omega)
      have c1 := hE.cell hcell
      have c2 := hE.cell hcell'
      have e1 : a.take (i + 1) = a.take i ++ [z] := by rw [List.take_add_one, hz]; rfl
      have e2 : b.take (i + 1) = b.take i ++ [z'] := by rw [List.take_add_one, hz']; rfl
      by_cases hzz : z = z'
      · refine wk ?_
        exact tfin ⟨i + 1, sub ⟨rfl, rfl, rfl⟩, ⟨by omega, by rw [e1, e2, ht, hzz], hE.d⟩, (by show a.length - (i + 1) < a.length - i; omega)⟩
      · refine wk ?_
        refine tret1 rfl rfl ⟨?_, hE.d⟩
        have : a ≠ b := fun e => hzz (by rw [e, hz'] at hz; injection hz with hz; exact hz.symm)
        simp [this]
    · refine wk ?_
      refine tret1 rfl rfl ⟨?_, hE⟩
      rw [List.take_of_length_le (by omega), List.take_of_length_le (by omega)] at ht
      simp [ht]
  · refine wk ?_
    refine tret1 rfl rfl ⟨?_, Fr.refl _ _⟩
    have : a ≠ b := fun e => hne (by rw [e])
    simp [this]
end Eng
end Go.Proofs.Ytighkjohpmlemaa
