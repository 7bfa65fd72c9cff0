/-
  Package pack: squeeze.
-/
import Derived.Test.YtighkjohpmlemaaPh
namespace Go.Proofs.Ytighkjohpmlemaa
open Go.RowKit
namespace Eng
attribute [local irreducible] xs T

structure SqA (ts : List Tkn) (tv : Value) (gl : Nat) (w0 : World) (i : Nat) (w : World) : Prop where
  le : i ≤ ts.length
  cnt : IB w gl (cntB (ts.take i))
  row : Row w tv ts.length (tksC ts)
  fr : Fr (· = gl) w0 w

structure SqB (ts : List Tkn) (tv : Value) (go : Nat) (gl : Nat) (w0 : World) (i : Nat) (w : World) : Prop where
  le : i ≤ 320
  out : OutR w go (lnBits ((lensOf ts).take i))
  lens : IB w gl (lensOf ts)
  row : Row w tv ts.length (tksC ts)
  fr : Ext w0 w

structure SqC (ts : List Tkn) (tv : Value) (go : Nat) (lv : Value) (w0 : World) (i : Nat) (w : World) : Prop where
  le : i ≤ ts.length
  out : OutR w go (lnBits (lensOf ts) ++ (ts.take i).flatMap (tkBits (lensOf ts)))
  lens : IRow w lv (lensOf ts)
  row : Row w tv ts.length (tksC ts)
  ne : lv.ownBlock ≠ some go
  go : w0.heap.size ≤ go ∧ ∀ b, tv.ownBlock = some b → b ≠ go
  fr : Ext w0 w
set_option maxRecDepth 20000 in
set_option maxHeartbeats 8000000 in
theorem squeeze_does (w : World) (v : Value) (zs : List Int) (hv : BRow w v zs) (hb : Byts zs) (hl : zs.length ≤ 12000) :
    Does Try.prog 64 #[v] w fun r w' => Own w' w.heap.size 5 r ((sqB zs).map (Value.int .u8)) ∧ Ext w w' := by
  refine does1 Try.func64 rfl (by kernel_rfl) ?_
  have hrow := hv
  obtain ⟨A, c, rfl, hcc, hcm, hA⟩ := hv.op
  clear hA
  obtain ⟨ts, hts⟩ : ∃ ts, ts = toksB zs := ⟨_, rfl⟩
  have hcount := toksB_count zs
  have hmay := toksB_may hb
  rw [← hts] at hcount hmay
  have hL320 := lensOf_len ts
  have hmayL := lensOf_may ts
  refine goL ?_
  refine tscope1 (α := Nat × Nat × Value × Value) 0 rfl (fun x => [(0, .slice A zs.length c), (3, x.2.2.1), (10, x.2.2.2), (12, .pointer (some ⟨x.2.1, 0, none⟩)), (15, .int .i64 (x.1 : Int))]) (fun x w' => SqC ts x.2.2.1 x.2.1 x.2.2.2 w x.1 w') (fun x => ts.length - x.1) ?_ ?_
  · rintro ⟨i, go, tv, lv⟩ w1 ⟨hi, hout, hlens, htoks, hne, hgo, hE⟩
    dsimp only at hi hout hlens htoks hne hgo hE ⊢
    obtain ⟨A1, c1, rfl, hc1, hm1, hA1⟩ := htoks.op
    have hblen : (lnBits (lensOf ts) ++ (ts.take i).flatMap (tkBits (lensOf ts))).length ≤ 2 ^ 30 := by
      rw [List.length_append, lnBits_len, hL320]
      have h1 := tkBits_sum (ts := ts) (l := ts.take i) hmay (fun t ht => List.mem_of_mem_take ht)
      have h2 : (ts.take i).length ≤ 12000 := by rw [List.length_take]; omega
      omega
    by_cases hlt : i < ts.length
    · obtain ⟨b, o, rfl, hblt, hcells⟩ := hA1.at_ (by omega)
      obtain ⟨t, ht⟩ : ∃ t, ts[i]? = some t := ⟨_, List.getElem?_eq_getElem hlt⟩
      have htm := List.mem_of_getElem? ht
      obtain ⟨s, q, hs, hs320, hq, hq0, hq12⟩ := lensOf_sym htm (hmay t htm)
      have hsb := symT_bd (hmay t htm)
      obtain ⟨vv, hvv⟩ := Int.eq_ofNat_of_zero_le hsb.2.2.1
      obtain ⟨nn, hnn⟩ : ∃ nn : Nat, (symT t).2.2 = (nn : Int) := ⟨(symT t).2.2.toNat, by omega⟩
      have htk : tkBits (lensOf ts) t = bitsOf (codeB (lensOf ts) s) q ++ bitsOf vv nn := by
        unfold tkBits; rw [hs, hvv, hnn, Int.toNat_natCast, Int.toNat_natCast, Int.toNat_natCast, getD_of hq, Int.toNat_natCast]
      repeat' (first | refine xizq i (o + i * 3) rfl rfl rfl rfl rfl (by omega) ?_ | refine go1L ?_ | fail)
      refine xldz (cs := tkC t) rfl rfl (fun j u hu => by rw [Nat.add_assoc]; exact hcells _ u (tksC_get ht j u hu)) ?_
      refine xcall rfl rfl (sym_does w1 t) (fun r w2 h2 => ?_)
      obtain ⟨rfl, hE2⟩ := h2
      rw [hs, hvv, hnn]
      refine goL ?_
      refine xcall rfl rfl (hput_ok w2 go _ lv (lensOf ts) s q (hout.ext hE2) (hlens.ext hE2) hne hmayL hq hq0 (by omega)) (fun r w3 h3 => ?_)
      obtain ⟨rfl, hout3, hF3⟩ := h3
      repeat' (first | refine xcvu rfl rfl rfl (by omega) (by omega) ?_ | refine go1L ?_ | fail)
      refine xcall rfl rfl (outPut_does w3 go _ vv nn hout3 (by omega) (by omega) (by rw [List.length_append, length_bitsOf]; omega)) (fun r w4 h4 => ?_)
      obtain ⟨rfl, hout4, hF4⟩ := h4
      refine goL ?_
      have hF14 : Fr (· = go) w1 w4 := (hE2.fr.t hF3).t hF4
      have hE4 : Ext w w4 := Ext.te hE hF14 fun j hj e => by have e' : j = go := e; omega
      have hb_go : b ≠ go := hgo.2 b rfl
      refine tgoto rfl ⟨_, (by show ts.length - (i + 1) < ts.length - i; omega), rfl, (i + 1, go, _, lv), sub ⟨rfl, rfl, rfl, rfl, rfl⟩, ⟨by dsimp only; omega, ?_, hlens.fr hF14 fun b hb e => hne (by rw [hb, e]), htoks.fr hF14 fun b hb e => hgo.2 b hb e, hne, hgo, hE4⟩, rfl⟩
      dsimp only
      rw [List.take_add_one, ht, Option.toList_some, List.flatMap_append, List.flatMap_singleton, htk, ← List.append_assoc, ← List.append_assoc]
      exact hout4
    · obtain rfl : i = ts.length := by omega
      rw [List.take_length] at hout hblen
      have hsz := hE.size
      refine goL ?_
      refine xbs sl_bytes rfl rfl (by decide) (by decide) (fun u hu => by rw [List.mem_singleton.1 hu]; rfl) (fun w2 hB2 hE2 hs2 => ?_)
      repeat' (first | refine xcvu rfl rfl rfl (by omega) (by omega) ?_ | refine go1L ?_ | fail)
      refine xcall rfl rfl (nput_does w2 zs.length (by omega)) (fun r w3 h3 => ?_)
      obtain ⟨hown3, hE3⟩ := h3
      have hnl := numB_len (n := zs.length) (by omega)
      have hO2 : Own w3 w.heap.size 5 (.slice (some ⟨w1.heap.size, 0, none⟩) 1 1) [.int .u8 1] := (Own.of_blk (vs := [.int .u8 1]) hB2 (by omega) rfl (by decide)).ext hE3
      obtain ⟨A3, c3, e3, hc3, hm3⟩ := hown3.form
      subst e3
      have hsz3 := hE3.size
      refine xap sl_bytes rfl rfl hO2 rfl hown3.row rfl (fun u hu => by obtain ⟨z, _, rfl⟩ := List.mem_map.1 hu; rfl) (by unfold maxLen; simp; omega) (by simp; omega) (by omega) (fun v4 w4 hown4 hF4 hv4 => ?_)
      have hF14 : Ext w1 w4 := Ext.te (hE2.t hE3) hF4 fun j hj e => by have e' : (some w1.heap.size : Option Nat) = some j := e; injection e' with e'; omega
      refine goL ?_
      refine xcall rfl rfl (bytes_does w4 go _ (hout.ext hF14) (by omega)) (fun r w5 h5 => ?_)
      obtain ⟨b5, rfl, hb5, hBB5, hE5⟩ := h5
      have hpl : (pk (lnBits (lensOf ts) ++ ts.flatMap (tkBits (lensOf ts)))).length ≤ 2 ^ 30 := by rw [length_pk]; omega
      have hsz4 := hF14.size
      have hsz5 := hE5.size
      refine xap sl_bytes rfl rfl (hown4.ext hE5) rfl (hBB5.row (by unfold maxLen; omega)) (by rw [List.length_map]) (fun u hu => by obtain ⟨z, _, rfl⟩ := List.mem_map.1 hu; rfl) (by unfold maxLen; simp; omega) (by simp; omega) (by omega) (fun v6 w6 hown6 hF6 hv6 => ?_)
      refine goL ?_
      refine tret1 rfl rfl ⟨?_, Ext.te (hE.t (hF14.t hE5)) hF6 fun j hj e => ?_⟩
      · have : sqB zs = 1 :: (numB zs.length ++ pk (lnBits (lensOf ts) ++ ts.flatMap (tkBits (lensOf ts)))) := by unfold sqB sqBits; rw [← hts]
        rw [this]
        simpa using hown6
      · have := (hown4.blk e).1; omega
  · intro H
    refine goL ?_
    refine xcall rfl rfl (all_does w _ zs hrow hb (by omega)) (fun r w1 h1 => ?_)
    obtain ⟨htok, hE1⟩ := h1
    rw [← hts] at htok
    obtain ⟨A1, c1, rfl, hc1, hm1⟩ := htok.form
    have htb : ∀ b, (Value.slice A1 ts.length c1).ownBlock = some b → w.heap.size ≤ b ∧ b < w1.heap.size := fun b hb => htok.blk hb
    refine goL ?_
    refine xmk sl_ints rfl rfl rfl (by omega) (by omega) (by omega) (fun w2 hB2 hE2 hs2 => ?_)
    have hcnt : IB w2 w1.heap.size (List.replicate 320 0) := IB.new hB2
    refine goL ?_
    refine tloop (α := Nat) (fun k => [(0, .slice A zs.length c), (3, .slice A1 ts.length c1), (4, .slice (some ⟨w1.heap.size, 0, none⟩) 320 320), (23, .slice A1 ts.length c1), (24, .int .i64 (ts.length : Int)), (25, .int .i64 (k : Int))]) (SqA ts (.slice A1 ts.length c1) w1.heap.size w2) (fun k => ts.length - k) 0 (sub ⟨rfl, rfl, rfl, rfl, rfl, rfl⟩) ⟨Nat.zero_le _, by rw [List.take_zero, cntB_nil]; exact hcnt, htok.row.ext hE2, Fr.refl _ _⟩ ?_
    rintro i w3 ⟨hi, hcn, hrw, hF3⟩
    have hsz3 := hF3.size
    have hsz1 := hE1.size
    by_cases hlt : i < ts.length
    · obtain ⟨A1', c1', e1, _, _, hA1⟩ := hrw.op
      injection e1 with e1 e2 e3
      subst e1
      obtain ⟨b, o, rfl, hblt, hcells⟩ := hA1.at_ (by omega)
      obtain ⟨t, ht⟩ : ∃ t, ts[i]? = some t := ⟨_, List.getElem?_eq_getElem hlt⟩
      have htm := List.mem_of_getElem? ht
      obtain ⟨s, q, hs, hs320, hq, hq0, hq12⟩ := lensOf_sym htm (hmay t htm)
      have hcl := cntB_len (ts.take i)
      repeat' (first | refine xizq i (o + i * 3) rfl rfl rfl rfl rfl (by omega) ?_ | refine go1L ?_ | fail)
      refine xldz (cs := tkC t) rfl rfl (fun j u hu => by rw [Nat.add_assoc]; exact hcells _ u (tksC_get ht j u hu)) ?_
      refine xalloc (z := .agg #[.int .i64 0, .int .i64 0, .int .i64 0]) (by kernel_rfl) (fun w4 hB4 hE4 hs4 => ?_)
      refine xsta (cs := (tkC t).toArray) hB4 rfl rfl rfl rfl (tkC_all t) (fun w5 hB5 hF5 => ?_)
      have hE5 : Ext w3 w5 := Ext.te hE4 hF5 fun j hj e => by have e' : j = w3.heap.size := e; omega
      refine goL ?_
      refine xlda hB5 rfl rfl ?_
      refine xcall rfl rfl (sym_does w5 t) (fun r w6 h6 => ?_)
      obtain ⟨rfl, hE6⟩ := h6
      rw [hs]
      have hE36 := hE5.t hE6
      have hcn6 := hcn.ext hE36
      have hc6 := hcn6.cell (i := s) (by omega)
      have hbd : 0 ≤ (cntB (ts.take i)).getD s 0 ∧ (cntB (ts.take i)).getD s 0 ≤ 12000 := by
        have hm : (cntB (ts.take i)).getD s 0 ∈ cntB (ts.take i) := by
          rw [List.getD_eq_getElem?_getD, List.getElem?_eq_getElem (by omega)]; exact List.getElem_mem _
        have := cntB_bd (ts.take i) _ hm
        rw [List.length_take] at this
        omega
      repeat' (first | refine xisq s s rfl rfl rfl rfl (by omega) (by omega) ?_ | refine go1L ?_ | fail)
      refine xsti hcn6 rfl rfl rfl (by omega) (fun w7 hcn7 hF7 => ?_)
      refine goL ?_
      have hF37 : Fr (· = w1.heap.size) w3 w7 := (Ext.fr hE36).t hF7
      rw [cntB_take ts ht hs hs320] at hcn7
      exact tfin ⟨i + 1, sub ⟨rfl, rfl, rfl, rfl, rfl, rfl⟩, ⟨by omega, hcn7, hrw.fr hF37 fun b hb e => by have := (htb b hb).2; have e' : b = w1.heap.size := e; omega, hF3.t hF37⟩, (by show ts.length - (i + 1) < ts.length - i; omega)⟩
    · obtain rfl : i = ts.length := by omega
      rw [List.take_length] at hcn
      have hcl := cntB_len ts
      refine goL ?_
      refine xcall rfl rfl (lengths_does w3 _ (cntB ts) (hcn.row (by rw [hcl]; decide) _ hcl.symm) (okLen_cnt (by omega))) (fun r w4 h4 => ?_)
      obtain ⟨gl, rfl, hgl, hlens, hE4⟩ := h4
      have hsz4 := hE4.size
      refine goL ?_
      refine xalloc (z := .agg #[.pointer none, .int .u64 0, .int .i64 0]) (by kernel_rfl) (fun w5 hB5 hE5 hs5 => ?_)
      have hout := OutR.new hB5
      have hlens5 : IB w5 gl (lensOf ts) := hlens.ext hE5
      have hll : (cntB ts).length = 320 := hcl
      have hlt4 := hlens.lt
      rw [hcl]
      refine goL ?_
      refine tloop (α := Nat) (fun k => [(0, .slice A zs.length c), (3, .slice A1 ts.length c1), (10, .slice (some ⟨gl, 0, none⟩) 320 320), (12, .pointer (some ⟨w4.heap.size, 0, none⟩)), (47, .slice (some ⟨gl, 0, none⟩) 320 320), (48, .int .i64 320), (49, .int .i64 (k : Int))]) (SqB ts (.slice A1 ts.length c1) w4.heap.size gl w) (fun k => 320 - k) 0 (sub ⟨rfl, rfl, rfl, rfl, rfl, rfl, rfl⟩) ⟨Nat.zero_le _, by simpa [lnBits] using hout, hlens5, hrw.ext (hE4.t hE5), ?_⟩ ?_
      · refine Ext.te hE1 ((hE2.fr.t hF3).t (Ext.fr (hE4.t hE5))) fun j hj e => ?_
        have e' : j = w1.heap.size := e
        omega
      rintro k w6 ⟨hk, hout6, hlens6, hrw6, hE6⟩
      by_cases hk2 : k < 320
      · have hc6 := hlens6.cell (i := k) (by omega)
        obtain ⟨z, hz⟩ : ∃ z, (lensOf ts)[k]? = some z := ⟨_, List.getElem?_eq_getElem (by omega)⟩
        have hzb := may_lens hmayL z (List.mem_of_getElem? hz)
        rw [getD_of hz] at hc6
        obtain ⟨m, rfl⟩ := Int.eq_ofNat_of_zero_le hzb.1
        have hbl : (lnBits ((lensOf ts).take k)).length ≤ 1280 := by rw [lnBits_len, List.length_take]; omega
        repeat' (first | refine xisq k k rfl rfl rfl rfl (by omega) (by omega) ?_ | refine xcvu rfl rfl rfl (by omega) (by omega) ?_ | refine go1L ?_ | fail)
        refine xcall rfl rfl (outPut_does w6 w4.heap.size _ m 4 hout6 (by omega) (by omega) (by omega)) (fun r w7 h7 => ?_)
        obtain ⟨rfl, hout7, hF7⟩ := h7
        refine goL ?_
        exact tfin ⟨k + 1, sub ⟨rfl, rfl, rfl, rfl, rfl, rfl, rfl⟩, ⟨by omega, by
          rw [List.take_add_one, hz]
          simpa [lnBits] using hout7, hlens6.fr hF7 (by show ¬ gl = w4.heap.size; omega), hrw6.fr hF7 fun b hb e => by have := (htb b hb).2; have e' : b = w4.heap.size := e; omega, Ext.te hE6 hF7 fun j hj e => by have e' : j = w4.heap.size := e; omega⟩, (by show 320 - (k + 1) < 320 - k; omega)⟩
      · obtain rfl : k = 320 := by omega
        rw [List.take_of_length_le (by omega)] at hout6
        refine goL ?_
        refine tlabel ?_
        exact tweak (H (0, w4.heap.size, _, _) w6 ⟨Nat.zero_le _, by simpa using hout6, hlens6.row (by rw [hL320]; decide) _ hL320.symm, hrw6, by intro e; injection e with e; dsimp only at e; omega, ⟨by dsimp only; omega, fun b hb e => by have := (htb b hb).2; dsimp only at e; omega⟩, hE6⟩) (sub ⟨rfl, rfl, rfl, rfl, rfl⟩)

/-- What Put returns. -/
def ptB (zs : List Int) : List Int := if 12000 < zs.length then [] else putB zs
def ptE (zs : List Int) : Int := if 12000 < zs.length then 13 else 0

set_option maxRecDepth 20000 in
set_option maxHeartbeats 4000000 in
theorem put_does (w : World) (v : Value) (zs : List Int) (hv : BRow w v zs) (hb : Byts zs) :
    Does Try.prog 33 #[v] w fun r w' => ∃ v', r = .tuple #[v', .int .i64 (ptE zs)] ∧ Own w' w.heap.size 5 v' ((ptB zs).map (Value.int .u8)) ∧ Ext w w' := by
  refine does1 Try.func33 rfl (by kernel_rfl) ?_
  have hrow := hv
  obtain ⟨A, c, rfl, hcc, hcm, hA⟩ := hv.op
  clear hA
  unfold ptB ptE
  by_cases hl : 12000 < zs.length
  · rw [if_pos hl, if_pos hl]
    refine goL ?_
    exact tret2 rfl rfl rfl ⟨_, rfl, Own.nil _ _ _, Fr.refl _ _⟩
  rw [if_neg hl, if_neg hl]
  refine goL ?_
  refine xcall rfl rfl (squeeze_does w _ zs hrow hb (by omega)) (fun r w1 h1 => ?_)
  obtain ⟨hown, hE1⟩ := h1
  have hown' := hown
  obtain ⟨A1, c1, rfl, hc1, hm1⟩ := hown.form
  have hm1' : c1 ≤ 9223372036854775807 := hm1
  rw [List.length_map] at hc1
  have hlm : ((sqB zs).map (Value.int .u8)).length = (sqB zs).length := by rw [List.length_map]
  rw [hlm] at hown' ⊢
  unfold putB
  by_cases h : (sqB zs).length < 1 + zs.length
  · rw [if_pos h]
    refine goL ?_
    exact tret2 rfl rfl rfl ⟨_, rfl, hown', hE1⟩
  rw [if_neg h]
  refine goL ?_
  refine xbs sl_bytes rfl rfl (by decide) (by decide) (fun u hu => by rw [List.mem_singleton.1 hu]; rfl) (fun w2 hB2 hE2 hs2 => ?_)
  have hsz := hE1.size
  have hO2 : Own w2 w.heap.size 5 (.slice (some ⟨w1.heap.size, 0, none⟩) 1 1) [.int .u8 0] := Own.of_blk (vs := [.int .u8 0]) hB2 (by omega) rfl (by decide)
  refine goL ?_
  have hrow2 : Row w2 (.slice A zs.length c) zs.length (zs.map (Value.int .u8)) := (hrow.ext hE1).ext hE2
  refine xap sl_bytes rfl rfl hO2 rfl hrow2 (by rw [List.length_map]) (fun u hu => by obtain ⟨z, _, rfl⟩ := List.mem_map.1 hu; rfl) (by unfold maxLen; simp; omega) (by simp; omega) (by omega) (fun v3 w3 hown3 hF3 hv3 => ?_)
  refine goL ?_
  refine tret2 rfl rfl rfl ⟨_, rfl, by simpa using hown3, Ext.te (hE1.t hE2) hF3 fun j hj e => ?_⟩
  have e' : (some w1.heap.size : Option Nat) = some j := e
  injection e' with e'
  omega
end Eng
end Go.Proofs.Ytighkjohpmlemaa
