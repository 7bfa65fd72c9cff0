/-
  The law HuffAsks returns true, whatever its input.
-/
import Derived.Test.YtighkjohpmlemaaRo
import Derived.Test.YtighkjohpmlemaaHn
import Derived.Test.YtighkjohpmlemaaEngD
namespace Go.Proofs.Ytighkjohpmlemaa
open Go.RowKit
namespace Eng
attribute [local irreducible] xs T

theorem URow.nil (w : World) : URow w (.slice none 0 0) [] := ⟨none, 0, rfl, Nat.le_refl _, by unfold maxLen; omega, fun h => absurd h (by simp)⟩
theorem IRow.nil (w : World) : IRow w (.slice none 0 0) [] := ⟨none, 0, rfl, Nat.le_refl _, by unfold maxLen; omega, fun h => absurd h (by simp)⟩
theorem URow.ext {w w' : World} {v : Value} {zs : List Int} (h : URow w v zs) (hf : Ext w w') : URow w' v zs := Row.ext h hf
theorem IRow.lt {w : World} {v : Value} {zs : List Int} (h : IRow w v zs) (h0 : 0 < zs.length) {b : Nat} (hb : v.ownBlock = some b) : b < w.heap.size := by
  obtain ⟨A, c, rfl, _, _, hA⟩ := h.op
  obtain ⟨b', o, z, rfl, hlt, _⟩ := hA.at_ h0
  injection hb with hb
  rw [← hb]; exact hlt

/-- What Codes returns. -/
def cdB (zs : List Int) : List Int := if mayB zs then codesB zs else []
theorem UB.rowN {w : World} {b n : Nat} {l : List Int} (h : UB w b l) (hn : n = l.length) (hl : l.length ≤ maxLen) : URow w (.slice (some ⟨b, 0, none⟩) n n) l := by subst hn; exact h.row hl
theorem codesB_len (zs : List Int) : (codesB zs).length = zs.length := by simp [codesB]
theorem codes_any (w : World) (v : Value) (zs : List Int) (hv : IRow w v zs) : Does Try.prog 18 #[v] w fun r w' => URow w' r (cdB zs) ∧ Ext w w' := by
  unfold cdB
  cases hm : mayB zs with
  | true => exact (codes_does w v zs hv hm).mono fun r w' ⟨b, h1, _, h3, h4⟩ => ⟨by
      rw [h1, if_pos rfl]; exact h3.rowN (codesB_len zs).symm (by rw [codesB_len]; have := may_len hm; unfold maxLen; omega), h4⟩
  | false => exact (codes_no w v zs hv hm).mono fun r w' ⟨h1, h2⟩ => ⟨by rw [h1]; exact URow.nil _, by rw [h2]; exact Fr.refl _ _⟩
theorem rcodes_any (w : World) (v : Value) (zs : List Int) (hv : IRow w v zs) (hl : zs.length ≤ 1000) : Does Try.prog 19 #[v] w fun r w' => URow w' r (cdB zs) ∧ Ext w w' := by
  unfold cdB
  cases hm : mayB zs with
  | true => exact (rcodes_does w v zs hv hm).mono fun r w' ⟨b, h1, _, h3, h4⟩ => ⟨by
      rw [h1, if_pos rfl]; exact h3.rowN (codesB_len zs).symm (by rw [codesB_len]; have := may_len hm; unfold maxLen; omega), h4⟩
  | false => exact (rcodes_no w v zs hv hl hm).mono fun r w' ⟨h1, h2⟩ => ⟨by rw [h1]; exact URow.nil _, by rw [h2]; exact Fr.refl _ _⟩

/-- The bits that Put appends. -/
def pbB (zs : List Int) (s : Int) : List Nat := if okPut zs s then bitsOf (codeB zs s.toNat) (zs.getD s.toNat 0).toNat else []
def pcB (zs : List Int) (s : Int) : Int := if okPut zs s then 0 else 1
theorem okPut_op {zs : List Int} {s : Int} (h : okPut zs s = true) : mayB zs = true ∧ ∃ (n q : Nat), s = n ∧ zs[n]? = some (q : Int) ∧ 0 < q := by
  simp only [okPut, Bool.and_eq_true, decide_eq_true_eq] at h
  obtain ⟨⟨hm, h0⟩, h2⟩ := h
  refine ⟨hm, ?_⟩
  obtain ⟨n, rfl⟩ := Int.eq_ofNat_of_zero_le h0
  rw [Int.toNat_natCast] at h2
  cases hz : zs[n]? with
  | none => rw [hz] at h2; cases h2
  | some z =>
    rw [hz] at h2
    have hz0 := may_lens hm z (List.mem_of_getElem? hz)
    obtain ⟨q, rfl⟩ := Int.eq_ofNat_of_zero_le hz0.1
    have h3 : (q : Int) ≠ 0 := by simpa using h2
    exact ⟨n, q, rfl, hz, by omega⟩
theorem pbB_ok {zs : List Int} {n q : Nat} (h : okPut zs (n : Int) = true) (hz : zs[n]? = some (q : Int)) : pbB zs n = bitsOf (codeB zs n) q := by
  unfold pbB
  rw [if_pos h, Int.toNat_natCast, List.getD_eq_getElem?_getD, hz]
  rfl
theorem hput_any (w : World) (g : Nat) (bs : List Nat) (v : Value) (zs : List Int) (s : Int) (ho : OutR w g bs) (hv : IRow w v zs) (hg : 0 < zs.length → v.ownBlock ≠ some g) (hlen : bs.length ≤ 2 ^ 40) (hs1 : -9223372036854775808 ≤ s) (hs2 : s ≤ 9223372036854775807) :
    Does Try.prog 22 #[.pointer (some ⟨g, 0, none⟩), v, .int .i64 s] w fun r w' => r = .int .i64 (pcB zs s) ∧ OutR w' g (bs ++ pbB zs s) ∧ Fr (· = g) w w' := by
  cases hok : okPut zs s with
  | true =>
    obtain ⟨hm, n, q, rfl, hz, hq⟩ := okPut_op hok
    rw [pbB_ok hok hz, pcB, if_pos hok]
    exact hput_ok w g bs v zs n q ho hv (hg (by have := (List.getElem?_eq_some_iff.1 hz).1; omega)) hm hz hq hlen
  | false =>
    rw [pbB, pcB, hok]
    simp only [Bool.false_eq_true, if_false, List.append_nil]
    exact (hput_no w g v zs s hv hok hs1 hs2).mono fun r w' ⟨h1, h2⟩ => ⟨h1, by rw [← h2]; exact ho, by rw [h2]; exact Fr.refl _ _⟩
theorem rputc_any (w : World) (g : Nat) (bs : List Nat) (v : Value) (zs : List Int) (s : Int) (ho : ROut w g bs) (hv : IRow w v zs) (hg : 0 < zs.length → ∀ b, v.ownBlock = some b → b < g) (hlen : bs.length ≤ 2 ^ 40) (hl : zs.length ≤ 1000) (hs1 : -9223372036854775808 ≤ s) (hs2 : s ≤ 9223372036854775807) :
    Does Try.prog 23 #[.pointer (some ⟨g, 0, none⟩), v, .int .i64 s] w fun r w' => r = .int .i64 (pcB zs s) ∧ ROut w' g (bs ++ pbB zs s) ∧ Fr (fun b => g ≤ b) w w' := by
  cases hok : okPut zs s with
  | true =>
    obtain ⟨hm, n, q, rfl, hz, hq⟩ := okPut_op hok
    rw [pbB_ok hok hz, pcB, if_pos hok]
    exact rputc_ok w g bs v zs n q ho hv (hg (by have := (List.getElem?_eq_some_iff.1 hz).1; omega)) hm hz hq hlen
  | false =>
    rw [pbB, pcB, hok]
    simp only [Bool.false_eq_true, if_false, List.append_nil]
    exact (rputc_no w g v zs s hv hl hok hs1 hs2).mono fun r w' ⟨h1, h2⟩ => ⟨h1, by rw [← h2]; exact ho, by rw [h2]; exact Fr.refl _ _⟩

/-- What Get returns. -/
def ggB (zs ys : List Int) (p : Nat) : Int × Int := if okGet zs then ((getB zs ys p).1, (getB zs ys p).2.1) else (0, 1)
theorem okGet_pos {zs : List Int} (h : okGet zs = true) : 0 < zs.length := by
  cases zs with
  | nil => simp [okGet] at h
  | cons a r => simp
theorem hget_any (w : World) (gi : Nat) (v : Value) (zs ys : List Int) (p : Nat) (hi : InR w gi ys p) (hv : IRow w v zs) (hg : 0 < zs.length → v.ownBlock ≠ some gi) (hl : zs.length ≤ 1000) (hy : ys.length ≤ 2 ^ 40) :
    Does Try.prog 26 #[.pointer (some ⟨gi, 0, none⟩), v] w fun r w' => r = .tuple #[.int .i64 (ggB zs ys p).1, .int .i64 (ggB zs ys p).2] ∧ Fr (· = gi) w w' := by
  unfold ggB
  cases hok : okGet zs with
  | true => exact (hget_does w gi v zs ys p hi hv (hg (okGet_pos hok)) hok hy).mono fun r w' ⟨h1, _, h3⟩ => ⟨h1, h3⟩
  | false => exact (hget_no w gi v zs hv hl hok).mono fun r w' ⟨h1, h2⟩ => ⟨h1, h2.fr⟩
theorem rgetc_any (w : World) (gi : Nat) (v : Value) (zs ys : List Int) (p : Nat) (hi : RIn w gi ys p) (hv : IRow w v zs) (hg : 0 < zs.length → v.ownBlock ≠ some gi) (hl : zs.length ≤ 1000) (hy : ys.length ≤ 2 ^ 40) :
    Does Try.prog 28 #[.pointer (some ⟨gi, 0, none⟩), v] w fun r w' => r = .tuple #[.int .i64 (ggB zs ys p).1, .int .i64 (ggB zs ys p).2] ∧ Fr (· = gi) w w' := by
  unfold ggB
  cases hok : okGet zs with
  | true => exact (rgetc_ok w gi v zs ys p hi hv (hg (okGet_pos hok)) hok hy).mono fun r w' ⟨h1, _, h3⟩ => ⟨h1, h3⟩
  | false => exact (rgetc_no w gi v zs hv hl hok).mono fun r w' ⟨h1, h2⟩ => ⟨h1, by rw [h2]; exact Fr.refl _ _⟩

/-- What Lengths returns. -/
def lnB (cs : List Int) : List Int := if okLen cs then lengthsB cs else []
def leB (cs : List Int) : Int := if okLen cs then 0 else 1
theorem okLen_op {cs : List Int} (h : okLen cs = true) : 0 < cs.length ∧ cs.length ≤ 400 ∧ ∀ z ∈ cs, 0 ≤ z := by
  simp only [okLen, Bool.and_eq_true, decide_eq_true_eq] at h
  obtain ⟨⟨⟨h1, h2⟩, h3⟩, h4⟩ := h
  exact ⟨h1, h2, fun z hz => by have := minL_le hz; omega⟩
theorem lnB_len (cs : List Int) : (lnB cs).length ≤ cs.length := by
  unfold lnB
  cases hok : okLen cs with
  | true =>
    obtain ⟨h1, h2, h3⟩ := okLen_op hok
    simp [lengths_len h1 h2 h3]
  | false => simp
theorem lenR_any {cs : List Int} {w w' : World} {r : Value} (hok : okLen cs = true) (h : lenR cs w r w') : ∃ v', r = .tuple #[v', .int .i64 (leB cs)] ∧ IRow w' v' (lnB cs) ∧ Ext w w' := by
  obtain ⟨gl, h1, h2, h3, h4⟩ := h
  obtain ⟨k1, k2, k3⟩ := okLen_op hok
  refine ⟨_, by rw [h1, leB, if_pos hok], ?_, h4⟩
  rw [lnB, if_pos hok]
  exact h3.row (by rw [lengths_len k1 k2 k3]; unfold maxLen; omega) _ (lengths_len k1 k2 k3).symm
theorem len_no {cs : List Int} {w w' : World} {r : Value} (hok : okLen cs = false) (h1 : r = .tuple #[.slice none 0 0, .int .i64 1]) (h2 : Ext w w') : ∃ v', r = .tuple #[v', .int .i64 (leB cs)] ∧ IRow w' v' (lnB cs) ∧ Ext w w' :=
  ⟨.slice none 0 0, by rw [h1, leB, hok]; rfl, by rw [lnB, hok]; exact IRow.nil _, h2⟩
theorem lengths_any (w : World) (v : Value) (cs : List Int) (hv : IRow w v cs) : Does Try.prog 15 #[v] w fun r w' => ∃ v', r = .tuple #[v', .int .i64 (leB cs)] ∧ IRow w' v' (lnB cs) ∧ Ext w w' := by
  cases hok : okLen cs with
  | true => exact (lengths_does w v cs hv hok).mono fun r w' h => lenR_any hok h
  | false => exact (lengths_no w v cs hv hok).mono fun r w' ⟨h1, h2⟩ => len_no hok h1 (by rw [h2]; exact Fr.refl _ _)
theorem rlen_any (w : World) (v : Value) (cs : List Int) (hv : IRow w v cs) : Does Try.prog 16 #[v] w fun r w' => ∃ v', r = .tuple #[v', .int .i64 (leB cs)] ∧ IRow w' v' (lnB cs) ∧ Ext w w' := by
  cases hok : okLen cs with
  | true => exact (rlen_does w v cs hv hok).mono fun r w' h => lenR_any hok h
  | false => exact (rlen_no w v cs hv hok).mono fun r w' ⟨h1, h2⟩ => len_no hok h1 h2

theorem ROut.new {w : World} {g : Nat} (hB : Blk w g 38 #[.slice none 0 0]) : ROut w g [] := ⟨⟨_, hB, Own.nil _ _ _⟩, fun b hb => by cases hb⟩
theorem ROut.fr {S : Nat → Prop} {w w' : World} {g : Nat} {bs : List Nat} (h : ROut w g bs) (hf : Fr S w w') (hS : ∀ b, g ≤ b → ¬ S b) : ROut w' g bs := by
  obtain ⟨v, hB, hO⟩ := h.ex
  exact ⟨⟨v, hB.fr hf (hS _ (Nat.le_refl _)), hO.fr hf fun b hb => hS b (by have := (hO.blk hb).1; omega)⟩, h.bits⟩
theorem OutR.short {S : Nat → Prop} {w w' : World} {g : Nat} {bs : List Nat} (h : OutR w g bs) (hf : Fr S w w') (hg : ¬ S g) (hb : bs.length < 64) : OutR w' g bs := by
  obtain ⟨p, ws, tl, hB, hc, he, r⟩ := h.ex
  have : ws = [] := by
    cases ws with
    | nil => rfl
    | cons x r => rw [he, List.length_append, words_length, List.length_cons] at hb; omega
  subst this
  exact ⟨⟨p, [], tl, hB.fr hf hg, hc, he, r⟩⟩
theorem pbB_64 (zs : List Int) (s : Int) : (pbB zs s).length < 64 := by
  unfold pbB
  split
  · rename_i h
    obtain ⟨hm, n, q, rfl, hz, hq⟩ := okPut_op h
    have := may_lens hm _ (List.mem_of_getElem? hz)
    rw [Int.toNat_natCast, List.getD_eq_getElem?_getD, hz, length_bitsOf]
    show (q : Int).toNat < _
    omega
  · simp
theorem pbB_len (zs : List Int) (s : Int) : (pbB zs s).length ≤ 2 ^ 40 := by
  unfold pbB
  split
  · rename_i h
    obtain ⟨hm, n, q, rfl, hz, hq⟩ := okPut_op h
    have := may_lens hm _ (List.mem_of_getElem? hz)
    rw [Int.toNat_natCast, List.getD_eq_getElem?_getD, hz, length_bitsOf]
    show (q : Int).toNat ≤ _
    omega
  · simp

structure HaI (w0 : World) (cs : List Int) (yv : Value) (x : Nat × Value × List Int) (w : World) : Prop where
  le : x.1 ≤ 2
  row : IRow w x.2.1 x.2.2
  len : x.2.2.length ≤ 60
  y : IRow w yv (lnB cs)
  ext : Ext w0 w

set_option maxRecDepth 20000 in
set_option maxHeartbeats 8000000 in
theorem huffAsks_does (w : World) (v0 v1 v3 : Value) (cs zs ys : List Int) (s : Int) (h0 : IRow w v0 cs) (h1 : IRow w v1 zs) (hs : -9223372036854775808 ≤ s ∧ s ≤ 9223372036854775807) (h3 : BRow w v3 ys) (hby : Byts ys) :
    Does Try.prog 3 #[v0, v1, .int .i64 s, v3] w fun r w' => r = .bool true ∧ Ext w w' := by
  refine does4 Try.func3 rfl (by kernel_rfl) ?_
  have r0 := h0
  have r1 := h1
  have r3 := h3
  obtain ⟨A0, c0, rfl, hc0, hm0, hA0⟩ := h0.op
  obtain ⟨A1, c1, rfl, hc1, hm1, hA1⟩ := h1.op
  obtain ⟨A3, c3, rfl, hc3, hm3, hA3⟩ := h3.op
  by_cases hbig : 60 < cs.length ∨ 60 < zs.length ∨ 8 < ys.length
  · have htold : ∀ r w1, (r = Value.bool true ∧ Ext w w1) → r = Value.bool true ∧ Ext w w1 := fun _ _ h => h
    by_cases k0 : 60 < cs.length
    · refine go ?_
      refine xcall rfl rfl (told_does w) (fun r w1 h1 => ?_)
      obtain ⟨rfl, hE⟩ := h1
      refine go ?_
      exact tret1 rfl rfl ⟨rfl, hE⟩
    · by_cases k1 : 60 < zs.length
      · refine go ?_
        refine xcall rfl rfl (told_does w) (fun r w1 h1 => ?_)
        obtain ⟨rfl, hE⟩ := h1
        refine go ?_
        exact tret1 rfl rfl ⟨rfl, hE⟩
      · refine go ?_
        refine xcall rfl rfl (told_does w) (fun r w1 h1 => ?_)
        obtain ⟨rfl, hE⟩ := h1
        refine go ?_
        exact tret1 rfl rfl ⟨rfl, hE⟩
  have k0 : cs.length ≤ 60 := by omega
  have k1 : zs.length ≤ 60 := by omega
  have k3 : ys.length ≤ 8 := by omega
  clear hbig
  refine go ?_
  refine xcall rfl rfl (lengths_any w _ cs r0) (fun r w1 h1 => ?_)
  obtain ⟨xv, rfl, hx1, hE1⟩ := h1
  refine go ?_
  refine xcall rfl rfl (rlen_any w1 _ cs (r0.ext hE1)) (fun r w2 h2 => ?_)
  obtain ⟨yv, rfl, hy2, hE2⟩ := h2
  refine go ?_
  refine xcall rfl rfl (ints_does w2 _ _ _ _ (hx1.ext hE2) hy2) (fun r w3 h3 => ?_)
  obtain ⟨rfl, hE3⟩ := h3
  rw [show decide (lnB cs = lnB cs) = true from by simp]
  refine go ?_
  have hE03 : Ext w w3 := (hE1.te hE2 (fun _ _ hh => hh)).te hE3 (fun _ _ hh => hh)
  refine tloop (α := Nat × Value × List Int) (fun x => [(1, x.2.1), (2, .int .i64 s), (3, .slice A3 ys.length c3), (11, yv), (13, .int .i64 (x.1 : Int))]) (HaI w cs yv) (fun x => 2 - x.1) (0, .slice A1 zs.length c1, zs) (sub ⟨rfl, rfl, rfl, rfl, rfl⟩) ⟨Nat.zero_le _, r1.ext hE03, k1, hy2.ext hE3, hE03⟩ ?_
  clear hx1 hA0 hA1 hA3
  rintro ⟨t, lv, ls⟩ w4 ⟨ht, hl4, kl, hy4, hE4⟩
  dsimp only at ht hl4 kl hy4 hE4 ⊢
  by_cases ht2 : t = 2
  · subst ht2
    refine go ?_
    refine xcall rfl rfl (told_does w4) (fun r w5 h5 => ?_)
    obtain ⟨rfl, hE5⟩ := h5
    refine go ?_
    exact tret1 rfl rfl ⟨rfl, hE4.t hE5⟩
  refine go ?_
  refine xcall rfl rfl (codes_any w4 _ ls hl4) (fun r w5 h5 => ?_)
  obtain ⟨hc5, hE5⟩ := h5
  refine go ?_
  refine xcall rfl rfl (rcodes_any w5 _ ls (hl4.ext hE5) (by omega)) (fun r' w6 h6 => ?_)
  obtain ⟨hd6, hE6⟩ := h6
  have hc6 := hc5.ext hE6
  have hl6 := (hl4.ext hE5).ext hE6
  obtain ⟨A5, c5, rfl, hcc5, hcm5, hA5⟩ := hc6.op
  obtain ⟨A6, c6, rfl, hcc6, hcm6, hA6⟩ := hd6.op
  refine go ?_
  refine xcall rfl rfl (may_does w6 _ ls hl6) (fun r w7 h7 => ?_)
  obtain ⟨rfl, rfl⟩ := h7
  refine go ?_
  refine xcall rfl rfl (mayLens_does w6 _ ls hl6 (by omega)) (fun r w7 h7 => ?_)
  obtain ⟨rfl, rfl⟩ := h7
  refine xbne rfl rfl ?_
  rw [show (!(mayB ls == mayB ls)) = false from by simp]
  refine go ?_
  have hE46 : Ext w w6 := (hE4.te hE5 (fun _ _ hh => hh)).te hE6 (fun _ _ hh => hh)
  refine tloop (α := Nat) (fun i => [(1, lv), (2, .int .i64 s), (3, .slice A3 ys.length c3), (11, yv), (13, .int .i64 (t : Int)), (14, .slice A5 (cdB ls).length c5), (15, .slice A6 (cdB ls).length c6), (16, .int .i64 (i : Int))]) (fun i w' => i ≤ (cdB ls).length ∧ Ext w6 w') (fun i => (cdB ls).length - i) 0 (sub ⟨rfl, rfl, rfl, rfl, rfl, rfl, rfl, rfl⟩) ⟨Nat.zero_le _, Fr.refl _ _⟩ ?_
  rintro i w7 ⟨hi, hE7⟩
  by_cases hlt : i < (cdB ls).length
  · obtain ⟨b5, o5, z5, rfl, _, hz5, hcell5, _⟩ := hA5.at_ hlt
    obtain ⟨b6, o6, z6, rfl, _, hz6, hcell6, _⟩ := hA6.at_ hlt
    obtain rfl : z5 = z6 := by rw [hz5] at hz6; injection hz6
    have q5 := hE7.cell hcell5
    have q6 := hE7.cell hcell6
    refine go ?_
    exact tfin ⟨i + 1, sub ⟨rfl, rfl, rfl, rfl, rfl, rfl, rfl, rfl⟩, ⟨by omega, hE7.d⟩, (by show (cdB ls).length - (i + 1) < (cdB ls).length - i; omega)⟩
  obtain rfl : i = (cdB ls).length := by omega
  have hl7 := hl6.ext hE7
  have hy7 := ((hy4.ext hE5).ext hE6).ext hE7
  have hE07 : Ext w w7 := hE46.te hE7 (fun _ _ hh => hh)
  have r7 := r3.ext hE07
  clear hA5 hA6 hc5 hc6 hd6
  refine go ?_
  refine xalloc (z := .agg #[.pointer none, .int .u64 0, .int .i64 0]) (by kernel_rfl) (fun w8 hB8 hE8 hs8 => ?_)
  have ho8 := OutR.new hB8
  refine go ?_
  refine xbd (cells := #[.slice none 0 0]) rfl (by kernel_rfl) ?_
  refine xbox rfl (fun w9 hB9 hE9 hs9 => ?_)
  have hm9 := ROut.new hB9
  have ho9 := ho8.ext hE9
  have hE79 : Ext w7 w9 := hE8.te hE9 (fun _ _ hh => hh)
  have hblt : 0 < ls.length → ∀ b, lv.ownBlock = some b → b < w7.heap.size := fun h0 b hb => hl7.lt h0 hb
  refine go ?_
  refine tcut (α := Unit) (fun _ => [(1, lv), (2, .int .i64 s), (3, .slice A3 ys.length c3), (11, yv), (13, .int .i64 (t : Int)), (107, .bool false)]) (fun _ w' => Ext w7 w') ?_ ?_
  · refine tdrawL 10 12 [] noH (by kernel_rfl) (by decide +kernel) trivial ?_
    refine go ?_
    refine xcall rfl rfl (hput_any w9.drew w7.heap.size [] lv ls s (ho9.ext (Fr.drew _ _)) (hl7.ext hE79.d) (fun h0 e => by have := hblt h0 _ e; omega) (by simp) hs.1 hs.2) (fun r w10 h10 => ?_)
    obtain ⟨rfl, ho10, hF10⟩ := h10
    have hE710 : Ext w7 w10 := Ext.te hE79.d hF10 fun j hj e => by have e' : j = w7.heap.size := e; omega
    have hF910 : Fr (· = w7.heap.size) w9 w10 := (Fr.drew _ _).t hF10
    have hsz10 := hE710.size
    refine go ?_
    refine xcall rfl rfl (rputc_any w10 w8.heap.size [] lv ls s (hm9.fr hF910 fun b hb e => by have e' : b = w7.heap.size := e; omega) (hl7.ext hE710) (fun h0 b e => by have := hblt h0 _ e; omega) (by simp) (by omega) hs.1 hs.2) (fun r w11 h11 => ?_)
    obtain ⟨rfl, hm11, hF11⟩ := h11
    rw [List.nil_append] at ho10 hm11
    have ho11 : OutR w11 w7.heap.size (pbB ls s) := ho10.short hF11 (by show ¬ w8.heap.size ≤ w7.heap.size; omega) (pbB_64 ls s)
    have hE711 : Ext w7 w11 := Ext.te hE710 hF11 fun j hj e => by have e' : w8.heap.size ≤ j := e; omega
    refine go ?_
    refine xcall rfl rfl (bytes_does w11 w7.heap.size (pbB ls s) ho11 (pbB_len ls s)) (fun r w12 h12 => ?_)
    obtain ⟨b12, rfl, hb12, hBB12, hE12⟩ := h12
    have hpkl : (pk (pbB ls s)).length ≤ maxLen := by rw [length_pk]; have := pbB_64 ls s; unfold maxLen; omega
    refine xnil ⟨?_, ?_⟩
    · refine go ?_
      refine xcbs rfl (hBB12.row hpkl) ?_
      refine go ?_
      refine xcall rfl rfl (rbytes_does w12 w8.heap.size (pbB ls s) (hm11.ext hE12) (pbB_len ls s)) (fun r w13 h13 => ?_)
      obtain ⟨rfl, hE13⟩ := h13
      refine go ?_
      refine xsne rfl rfl ?_
      refine go ?_
      exact tfin ⟨(), sub ⟨rfl, rfl, rfl, rfl, rfl, by simp; rfl⟩, (hE711.t hE12).t hE13⟩
    · refine go ?_
      refine xcall rfl rfl (rbytes_does w12 w8.heap.size (pbB ls s) (hm11.ext hE12) (pbB_len ls s)) (fun r w13 h13 => ?_)
      obtain ⟨rfl, hE13⟩ := h13
      refine go ?_
      refine xcbs rfl ((hBB12.row hpkl).ext hE13) ?_
      refine go ?_
      refine xsne rfl rfl ?_
      refine go ?_
      exact tfin ⟨(), sub ⟨rfl, rfl, rfl, rfl, rfl, by simp; rfl⟩, (hE711.t hE12).t hE13⟩
  rintro _ w13 hE713
  have hE013 : Ext w w13 := hE07.t hE713
  refine go ?_
  refine xcall rfl rfl (from_does w13 _ ys (r3.ext hE013) hby (by omega)) (fun r w14 h14 => ?_)
  obtain ⟨gi, rfl, hgi, hin, hE14⟩ := h14
  have hsz13 := hE713.size
  refine go ?_
  refine xcall rfl rfl (hget_any w14 gi lv ls ys 0 hin (hl7.ext (hE713.t hE14)) (fun h0 e => by have := hblt h0 _ e; omega) (by omega) (by omega)) (fun r w15 h15 => ?_)
  obtain ⟨rfl, hF15⟩ := h15
  have hE715 : Ext w7 w15 := Ext.te (hE713.t hE14) hF15 fun j hj e => by have e' : j = gi := e; omega
  refine go ?_
  refine xcbs rfl (r3.ext (hE07.t hE715)) ?_
  refine xbd (cells := #[.string (strOfNums ys), .int .i64 0]) rfl (by kernel_rfl) ?_
  refine xbox rfl (fun w16 hB16 hE16 hs16 => ?_)
  have hsz15 := hE715.size
  refine go ?_
  refine xcall rfl rfl (rgetc_any w16 w15.heap.size lv ls ys 0 ⟨hB16, hby, by omega⟩ (hl7.ext (hE715.t hE16)) (fun h0 e => by have := hblt h0 _ e; omega) (by omega) (by omega)) (fun r w17 h17 => ?_)
  obtain ⟨rfl, hF17⟩ := h17
  have hE717 : Ext w7 w17 := Ext.te (hE715.t hE16) hF17 fun j hj e => by have e' : j = w15.heap.size := e; omega
  refine go ?_
  exact tfin ⟨(t + 1, yv, lnB cs), sub ⟨rfl, rfl, rfl, rfl, rfl⟩, ⟨by dsimp only; omega, hy7.ext hE717, by dsimp only; have := lnB_len cs; omega, hy7.ext hE717, hE07.t hE717⟩, (by show 2 - (t + 1) < 2 - t; omega)⟩
end Eng
end Go.Proofs.Ytighkjohpmlemaa
