/-
  The reference's Lengths.
-/
import Derived.Test.YtighkjohpmlemaaRc
namespace Go.Proofs.Ytighkjohpmlemaa
open Go.RowKit
namespace Eng
attribute [local irreducible] xs T

theorem posB_half (cs : List Int) : posB (halfB cs) = posB cs := by
  unfold posB
  rw [halfB_len]
  congr 1
  apply List.filter_congr
  intro i _
  rw [halfB_get]
  exact decide_eq_decide.2 (by omega)
theorem ordB_len (cs : List Int) : (ordB cs).length = (posB cs).length := (ordB_perm cs).length_eq

theorem small_lengths {cs : List Int} (h0 : 0 < cs.length) (h : (posB cs).length < 2) : lengthsB cs = mergeB cs := by
  refine lenGo_done ?_
  have hne : mergeB cs ≠ [] := fun e => by have := mergeB_len cs; rw [e] at this; simp at this; omega
  have := merge_small (cs := cs) (by rw [ordB_len]; exact h) _ (maxL_mem hne)
  omega

theorem foldl_max0 {l : List Int} {m : Int} (h0 : 0 ≤ m) : l.foldl max 0 ≤ m ↔ ∀ z ∈ l, z ≤ m := by
  have key : ∀ (l : List Int) (a : Int), l.foldl max a ≤ m ↔ a ≤ m ∧ ∀ z ∈ l, z ≤ m := by
    intro l
    induction l with
    | nil => intro a; simp
    | cons x r ih =>
      intro a
      rw [List.foldl_cons, ih]
      constructor
      · rintro ⟨h1, h2⟩
        refine ⟨by omega, fun z hz => ?_⟩
        rcases List.mem_cons.1 hz with rfl | hz
        · omega
        · exact h2 z hz
      · rintro ⟨h1, h2⟩
        have := h2 x (List.mem_cons_self ..)
        exact ⟨by omega, fun z hz => h2 z (List.mem_cons_of_mem _ hz)⟩
  rw [key]
  exact ⟨fun h => h.2, fun h => ⟨h0, h⟩⟩
theorem max_iff {l : List Int} (hne : l ≠ []) : l.foldl max 0 ≤ 12 ↔ maxL l ≤ 12 := by
  rw [foldl_max0 (by decide)]
  constructor
  · intro h; exact h _ (maxL_mem hne)
  · intro h z hz; have := maxL_le hz; omega

def lastP (cs : List Int) (i : Nat) : Int := (posB (cs.take i)).getLastD 0
theorem lastP_bd (cs : List Int) (i : Nat) (h : i ≤ cs.length) : 0 ≤ lastP cs i ∧ lastP cs i ≤ i := by
  unfold lastP
  rcases List.eq_nil_or_concat (posB (cs.take i)) with e | ⟨l, x, e⟩
  · rw [e]; simp
  · have hm : x ∈ posB (cs.take i) := by rw [e]; simp
    have := posB_mem hm
    rw [List.length_take] at this
    rw [e]
    simp
    omega

structure RlI (cs : List Int) (g : Nat) (w0 : World) (i : Nat) (w : World) : Prop where
  le : i ≤ cs.length
  db : DB w g cs
  ext : Ext w0 w
structure RlJ (cs : List Int) (g : Nat) (w0 : World) (x : Nat × List Int) (w : World) : Prop where
  db : DB w g x.2
  len : x.2.length = cs.length
  ok : ∀ z ∈ x.2, 0 ≤ z ∧ z ≤ 1073741824
  f : isum x.2 ≤ x.1
  go : lenGo x.1 x.2 = lengthsB cs
  pos : 2 ≤ (posB x.2).length
  ext : Ext w0 w

set_option maxRecDepth 20000 in
set_option maxHeartbeats 8000000 in
theorem rlen_does (w : World) (v : Value) (cs : List Int) (hv : IRow w v cs) (hok : okLen cs = true) :
    Does Try.prog 16 #[v] w (lenR cs w) := by
  refine does1 Try.func16 rfl (by kernel_rfl) ?_
  obtain ⟨h0, hl, hc⟩ := okLen_spec hok
  have hrow := hv
  obtain ⟨A, c, rfl, hcc, hcm, hA⟩ := hv.op
  refine go ?_
  refine xbz0 sl_ints (fun w1 hO1 hE1 hs1 => ?_)
  have hO1 : Own w1 w.heap.size 3 (.slice (some ⟨w.heap.size, 0, none⟩) 0 0) [] := hO1
  refine go ?_
  refine xap sl_ints rfl rfl hO1 rfl (hrow.ext hE1) (by simp) (fun u hu => by obtain ⟨z, _, rfl⟩ := List.mem_map.1 hu; rfl) (by unfold maxLen; simp; omega) (by simp; omega) (by omega) (fun v2 w2 hO2 hF2 _ => ?_)
  rw [List.nil_append] at hO2
  have hE2 : Ext w w2 := Ext.te hE1 hF2 fun j hj e => by have := (hO1.blk e).1; omega
  obtain ⟨g, cp, rfl, hg1, hg2, _⟩ := hO2.igo h0
  have hdb := hO2.db
  obtain ⟨_, _, e5, h51, h52⟩ := hO2.form
  injection e5 with _ _ e5; subst e5
  rw [List.length_map] at h51
  unfold maxLen at h52
  refine go ?_
  refine tloop (α := Nat) (fun i => [(4, .int .i64 ((posB (cs.take i)).length : Int)), (5, .int .i64 (lastP cs i)), (6, .slice (some ⟨g, 0, none⟩) cs.length cp), (7, .int .i64 (i : Int))]) (RlI cs g w) (fun i => cs.length - i) 0 (sub ⟨rfl, rfl, rfl, rfl⟩) ⟨Nat.zero_le _, hdb, hE2⟩ ?_
  clear hdb hO2 hO1 hF2 hE1 hE2
  rintro i w3 ⟨hi, hdb, hE3⟩
  have hpl := posB_le (cs.take i)
  rw [List.length_take] at hpl
  have hlb := lastP_bd cs i hi
  by_cases hlt : i < cs.length
  · have hzb := hc _ (getD_mem hlt)
    have hz : cs[i]? = some (cs.getD i 0) := by rw [List.getD_eq_getElem?_getD, List.getElem?_eq_getElem hlt]; rfl
    have hpt := posB_take cs i _ hz
    by_cases hz0 : 0 < cs.getD i 0
    · rw [if_pos hz0] at hpt
      repeat' (first | refine xisq i i rfl rfl rfl rfl (by omega) (by omega) ?_ | refine xldd hdb rfl rfl hlt ?_ | refine go1 ?_ | fail)
      exact tfin ⟨i + 1, sub ⟨ieq (by rw [hpt]; simp), ieq (by unfold lastP; rw [hpt]; simp), rfl, rfl⟩, ⟨by omega, hdb, hE3⟩, (by show cs.length - (i + 1) < cs.length - i; omega)⟩
    · rw [if_neg hz0] at hpt
      repeat' (first | refine xisq i i rfl rfl rfl rfl (by omega) (by omega) ?_ | refine xldd hdb rfl rfl hlt ?_ | refine go1 ?_ | fail)
      exact tfin ⟨i + 1, sub ⟨ieq (by rw [hpt]), ieq (by unfold lastP; rw [hpt]), rfl, rfl⟩, ⟨by omega, hdb, hE3⟩, (by show cs.length - (i + 1) < cs.length - i; omega)⟩
  · obtain rfl : i = cs.length := by omega
    have hlast : lastP cs cs.length = (posB cs).getLastD 0 := by unfold lastP; rw [List.take_length]
    rw [List.take_length] at hpl ⊢
    rw [hlast] at hlb ⊢
    have hgw : w.heap.size ≤ g := hg1
    by_cases h2 : (posB cs).length < 2
    · have hsm := small_lengths h0 h2
      refine go ?_
      refine xmk sl_ints rfl rfl rfl (by omega) (by rw [Int.toNat_natCast]; omega) (by omega) (fun w4 hB4 hE4 hs4 => ?_)
      rw [Int.toNat_natCast] at hB4 ⊢
      have hI := IB.new hB4
      have hw3 := hE3.size
      by_cases h1 : (posB cs).length = 1
      · obtain ⟨y, hy⟩ : ∃ y, posB cs = [y] := List.length_eq_one_iff.1 h1
        have hyb := posB_mem (show y ∈ posB cs by rw [hy]; simp)
        have hlst : (posB cs).getLastD 0 = y := by rw [hy]; rfl
        have hoy : (ordB cs).getD 0 0 = y := by
          have := (ordB_perm cs)
          rw [hy] at this
          rw [List.perm_singleton.1 this]; rfl
        rw [hlst]
        refine go ?_
        refine xisq y.toNat y.toNat rfl rfl rfl (by omega) (by omega) (by omega) ?_
        refine xsti hI rfl rfl rfl (by rw [List.length_replicate]; omega) (fun w5 hI5 hF5 => ?_)
        refine go ?_
        refine tret2 rfl rfl rfl ⟨w3.heap.size, rfl, by omega, ?_, Ext.te (hE3.t hE4) hF5 fun j hj e => by omega⟩
        rw [hsm, mergeB_one (by rw [ordB_len]; exact h1), hoy]; exact hI5
      · refine go ?_
        refine tret2 rfl rfl rfl ⟨w3.heap.size, rfl, by omega, ?_, hE3.t hE4⟩
        rw [hsm, mergeB_zero (by rw [ordB_len]; omega)]; exact hI
    · refine go ?_
      refine tloop (α := Nat × List Int) (fun _ => [(6, .slice (some ⟨g, 0, none⟩) cs.length cp)]) (RlJ cs g w) (fun x => x.1) ((isum cs).toNat, cs) (sub rfl) ⟨hdb, rfl, hc, by have := isum_nonneg cs fun z hz => (hc z hz).1; dsimp only; omega, rfl, by dsimp only; omega, hE3⟩ ?_
      clear hdb hE3
      rintro ⟨f, now⟩ w4 ⟨hdb, hlen, hok1, hf, hgo, hpos, hE4⟩
      dsimp only at hdb hlen hok1 hf hgo hpos hE4 ⊢
      have hrow1 : IRow w4 (.slice (some ⟨g, 0, none⟩) cs.length cp) now := hdb.row hlen.symm h51 (by unfold maxLen; omega)
      refine go ?_
      refine xcall rfl rfl (joins_does w4 _ now hrow1 (by omega) hok1) (fun r w5 h5 => ?_)
      obtain ⟨gl, rfl, hgl, hL, hE5⟩ := h5
      rw [joins_merge (by rw [ordB_len]; exact hpos)] at hL
      rw [hlen]
      have hnl : (mergeB now).length = cs.length := by rw [mergeB_len, hlen]
      have hne : mergeB now ≠ [] := fun e => by rw [e] at hnl; simp at hnl; omega
      have hmx := max_iff hne
      refine go ?_
      refine tloop (α := Nat) (fun i => [(6, .slice (some ⟨g, 0, none⟩) cs.length cp), (9, .slice (some ⟨gl, 0, none⟩) cs.length cs.length), (10, .int .i64 (((mergeB now).take i).foldl max 0)), (11, .int .i64 (i : Int))]) (fun i w' => i ≤ cs.length ∧ w' = w5) (fun i => cs.length - i) 0 (sub ⟨rfl, rfl, rfl, rfl⟩) ⟨Nat.zero_le _, rfl⟩ ?_
      rintro i _ ⟨hi, rfl⟩
      by_cases hlt : i < cs.length
      · have hcl := hL.cell (i := i) (by omega)
        have htk : (mergeB now).take (i + 1) = (mergeB now).take i ++ [(mergeB now).getD i 0] := by
          rw [List.take_add_one, List.getElem?_eq_getElem (by omega), List.getD_eq_getElem?_getD, List.getElem?_eq_getElem (by omega)]; rfl
        repeat' (first | refine xisq i i rfl rfl rfl rfl (by omega) (by omega) ?_ | refine xmax rfl rfl ?_ | refine go1 ?_ | fail)
        exact tfin ⟨i + 1, sub ⟨rfl, rfl, ieq (by rw [htk, List.foldl_append]; rfl), rfl⟩, ⟨by omega, rfl⟩, (by show cs.length - (i + 1) < cs.length - i; omega)⟩
      · obtain rfl : i = cs.length := by omega
        rw [List.take_of_length_le (by omega)]
        by_cases h12 : maxL (mergeB now) ≤ 12
        · have h12' := hmx.2 h12
          refine go ?_
          refine tret2 rfl rfl rfl ⟨gl, rfl, by have := hE4.size; omega, ?_, hE4.t hE5⟩
          rw [← hgo, lenGo_done h12]; exact hL
        · have h12' : ¬ (mergeB now).foldl max 0 ≤ 12 := fun h => h12 (hmx.1 h)
          obtain ⟨f', rfl, hgo', hf'⟩ := lenGo_more (by omega) (by omega) (fun z hz => (hok1 z hz).1) hf (by omega)
          refine go ?_
          refine tloop (α := Nat) (fun i => [(6, .slice (some ⟨g, 0, none⟩) cs.length cp), (12, .int .i64 (i : Int))]) (fun i w' => i ≤ cs.length ∧ DB w' g (hmix now i) ∧ Ext w w') (fun i => cs.length - i) 0 (sub ⟨rfl, rfl⟩) ⟨Nat.zero_le _, by rw [show hmix now 0 = now from by simp [hmix]]; exact hdb.ext hE5, hE4.t hE5⟩ ?_
          clear hdb hL hE5
          rintro i w6 ⟨hi, hdb, hE6⟩
          have hml := hmix_len now i (by omega)
          by_cases hlt : i < cs.length
          · have hz := hok1 (now.getD i 0) (getD_mem (by omega))
            have hgt := hmix_get now i (by omega)
            repeat' (first | refine xisq i i rfl rfl rfl rfl (by omega) (by omega) ?_ | (refine xldd hdb rfl rfl (by omega) ?_; rw [hgt]) | refine go1 ?_ | fail)
            refine xstd hdb rfl rfl rfl (by omega) (fun w7 hdb7 hF7 => ?_)
            rw [hmix_set now i (by omega)] at hdb7
            refine go ?_
            exact tfin ⟨i + 1, sub ⟨rfl, rfl⟩, ⟨by omega, hdb7, Ext.te hE6 hF7 fun j hj e => by omega⟩, (by show cs.length - (i + 1) < cs.length - i; omega)⟩
          · obtain rfl : i = cs.length := by omega
            have : hmix now cs.length = halfB now := by
              unfold hmix
              rw [List.take_of_length_le (by simp; omega), List.drop_eq_nil_of_le (by omega), List.append_nil]
            rw [this] at hdb
            refine go ?_
            exact tfin ⟨(f', halfB now), sub rfl, ⟨hdb, by simpa using hlen, halfB_ok (by decide) hok1, hf', by rw [← hgo', hgo], by dsimp only; rw [posB_half]; exact hpos, hE6⟩, (by show f' < f' + 1; omega)⟩
end Eng
end Go.Proofs.Ytighkjohpmlemaa
