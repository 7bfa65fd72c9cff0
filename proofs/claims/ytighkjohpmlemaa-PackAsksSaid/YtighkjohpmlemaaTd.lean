/-
  The reference's Pack.
-/
import Derived.Test.YtighkjohpmlemaaTb
import Derived.Test.YtighkjohpmlemaaPo
import Derived.Test.YtighkjohpmlemaaEngQ
namespace Go.Proofs.Ytighkjohpmlemaa
open Go.RowKit
namespace Eng
attribute [local irreducible] xs T

structure PkA (ts : List Tkn) (tv : Value) (gl : Nat) (w0 : World) (i : Nat) (w : World) : Prop where
  le : i ≤ ts.length
  cnt : IB w gl (cntB (ts.take i))
  row : Row w tv ts.length (tksC ts)
  fr : Ext w0 w

structure PkB (ts : List Tkn) (tv : Value) (go gl : Nat) (w0 : World) (i : Nat) (w : World) : Prop where
  le : i ≤ 320
  out : ROut w go (lnBits ((lensOf ts).take i))
  lens : IB w gl (lensOf ts)
  row : Row w tv ts.length (tksC ts)
  ext : Ext w0 w

structure PkC (ts : List Tkn) (tv : Value) (go gl : Nat) (w0 : World) (i : Nat) (w : World) : Prop where
  le : i ≤ ts.length
  out : ROut w go (lnBits (lensOf ts) ++ (ts.take i).flatMap (tkBits (lensOf ts)))
  lens : IB w gl (lensOf ts)
  row : Row w tv ts.length (tksC ts)
  ext : Ext w0 w

set_option maxRecDepth 20000 in
set_option maxHeartbeats 8000000 in
theorem rpack_does (w : World) (zs : List Int) (hb : Byts zs) (hlz : zs.length ≤ 2 ^ 30) :
    Does Try.prog 35 #[.string (strOfNums zs)] w fun r w' => r = .tuple #[.string (strOfNums (ptB zs)), .int .i64 (ptE zs)] ∧ Ext w w' := by
  refine does1 Try.func35 rfl (by kernel_rfl) ?_
  unfold ptB ptE
  by_cases hl : 12000 < zs.length
  · rw [if_pos hl, if_pos hl]
    repeat' (first | refine xsln rfl rfl ?_ | refine go1L ?_ | fail)
    exact tret2 rfl rfl rfl ⟨rfl, Fr.refl _ _⟩
  rw [if_neg hl, if_neg hl]
  obtain ⟨ts, hts⟩ : ∃ ts, ts = toksB zs := ⟨_, rfl⟩
  have hcount := toksB_count zs
  have hmay := toksB_may hb
  rw [← hts] at hcount hmay
  have hL320 := lensOf_len ts
  have hmayL := lensOf_may ts
  repeat' (first | refine xsln rfl rfl ?_ | refine go1L ?_ | fail)
  refine xcall rfl rfl (rtoks_does w zs hb (by omega)) (fun r w1 h1 => ?_)
  obtain ⟨htok, hE1⟩ := h1
  rw [← hts] at htok
  obtain ⟨A1, c1, rfl, hc1, hm1⟩ := htok.form
  have htb : ∀ b, (Value.slice A1 ts.length c1).ownBlock = some b → w.heap.size ≤ b ∧ b < w1.heap.size := fun b hb => htok.blk hb
  refine goL ?_
  refine xmk sl_ints rfl rfl rfl (by omega) (by omega) (by omega) (fun w2 hB2 hE2 hs2 => ?_)
  have hcnt : IB w2 w1.heap.size (List.replicate 320 0) := IB.new hB2
  have hsz1 := hE1.size
  refine goL ?_
  refine tloop (α := Nat) (fun k => [(0, .string (strOfNums zs)), (4, .slice A1 ts.length c1), (5, .slice (some ⟨w1.heap.size, 0, none⟩) 320 320), (6, .int .i64 (k : Int))]) (PkA ts (.slice A1 ts.length c1) w1.heap.size w) (fun k => ts.length - k) 0 (sub ⟨rfl, rfl, rfl, rfl⟩) ⟨Nat.zero_le _, by rw [List.take_zero, cntB_nil]; exact hcnt, htok.row.ext hE2, hE1.t hE2⟩ ?_
  rintro i w3 ⟨hi, hcn, hrw, hE3⟩
  by_cases hlt : i < ts.length
  · obtain ⟨A1', c1', e1, _, _, hA1⟩ := hrw.op
    injection e1 with e1 e2 e3
    subst e1
    obtain ⟨b, o, rfl, hblt, hcells⟩ := hA1.at_ (by omega)
    obtain ⟨t, ht⟩ : ∃ t, ts[i]? = some t := ⟨_, List.getElem?_eq_getElem hlt⟩
    have htm := List.mem_of_getElem? ht
    obtain ⟨s, q, hs, hs320, hq, hq0, hq12⟩ := lensOf_sym htm (hmay t htm)
    have hcl := cntB_len (ts.take i)
    repeat' (first | refine xizq i (o + i * 3) rfl rfl rfl rfl rfl (by omega) ?_ | refine go1L ?_ | fail)
    refine xldz (cs := tkC t) rfl rfl (fun j u hu => by rw [Nat.add_assoc]; exact hcells _ u (tksC_get ht j u hu)) ?_
    refine xcall rfl rfl (rsym_does w3 t) (fun r w6 h6 => ?_)
    obtain ⟨rfl, hE6⟩ := h6
    rw [hs]
    have hcn6 := hcn.ext hE6
    have hc6 := hcn6.cell (i := s) (by omega)
    have hbd : 0 ≤ (cntB (ts.take i)).getD s 0 ∧ (cntB (ts.take i)).getD s 0 ≤ 12000 := by
      have hm : (cntB (ts.take i)).getD s 0 ∈ cntB (ts.take i) := by
        rw [List.getD_eq_getElem?_getD, List.getElem?_eq_getElem (by omega)]; exact List.getElem_mem _
      have := cntB_bd (ts.take i) _ hm
      rw [List.length_take] at this
      omega
    repeat' (first | refine xisq s s rfl rfl rfl rfl (by omega) (by omega) ?_ | refine go1L ?_ | fail)
    refine xsti hcn6 rfl rfl rfl (by omega) (fun w7 hcn7 hF7 => ?_)
    refine goL ?_
    rw [cntB_take ts ht hs hs320] at hcn7
    exact tfin ⟨i + 1, sub ⟨rfl, rfl, rfl, rfl⟩, ⟨by omega, hcn7, (hrw.ext hE6).fr hF7 fun b hb e => by have := (htb b hb).2; have e' : b = w1.heap.size := e; omega, Ext.te (hE3.t hE6) hF7 fun j hj e => by have e' : j = w1.heap.size := e; omega⟩, (by show ts.length - (i + 1) < ts.length - i; omega)⟩
  obtain rfl : i = ts.length := by omega
  rw [List.take_length] at hcn
  have hcl := cntB_len ts
  refine goL ?_
  refine xcall rfl rfl (rlen_does w3 _ (cntB ts) (hcn.row (by rw [hcl]; decide) _ hcl.symm) (okLen_cnt (by omega))) (fun r w4 h4 => ?_)
  obtain ⟨gl, rfl, hgl, hlens, hE4⟩ := h4
  rw [hcl]
  have hlens : IB w4 gl (lensOf ts) := hlens
  have hsz4 := hE4.size
  have hsz3 := hE3.size
  have hlt4 := hlens.lt
  refine goL ?_
  refine xbd (cells := #[.slice none 0 0]) rfl (by kernel_rfl) ?_
  refine xbox rfl (fun w5 hB5 hE5 hs5 => ?_)
  have hout := ROut.new hB5
  have htb4 : ∀ b, (Value.slice A1 ts.length c1).ownBlock = some b → b < w4.heap.size := fun b hb => by
    have := (htb b hb).2
    have hcl3 := hcn.lt
    omega
  refine goL ?_
  refine tloop (α := Nat) (fun k => [(0, .string (strOfNums zs)), (4, .slice A1 ts.length c1), (10, .slice (some ⟨gl, 0, none⟩) 320 320), (12, .pointer (some ⟨w4.heap.size, 0, none⟩)), (13, .int .i64 (k : Int))]) (PkB ts (.slice A1 ts.length c1) w4.heap.size gl w) (fun k => 320 - k) 0 (sub ⟨rfl, rfl, rfl, rfl, rfl⟩) ⟨Nat.zero_le _, by simpa [lnBits] using hout, hlens.ext hE5, hrw.ext (hE4.t hE5), hE3.t (hE4.t hE5)⟩ ?_
  rintro k w6 ⟨hk, hout6, hlens6, hrw6, hE6⟩
  by_cases hk2 : k < 320
  · have hc6 := hlens6.cell (i := k) (by omega)
    obtain ⟨z, hz⟩ : ∃ z, (lensOf ts)[k]? = some z := ⟨_, List.getElem?_eq_getElem (by omega)⟩
    have hzb := may_lens hmayL z (List.mem_of_getElem? hz)
    rw [getD_of hz] at hc6
    obtain ⟨m, rfl⟩ := Int.eq_ofNat_of_zero_le hzb.1
    have hbl : (lnBits ((lensOf ts).take k)).length ≤ 1280 := by rw [lnBits_len, List.length_take]; omega
    repeat' (first | refine xisq k k rfl rfl rfl rfl (by omega) (by omega) ?_ | refine xcvu rfl rfl rfl (by omega) (by omega) ?_ | refine go1L ?_ | fail)
    refine xcall rfl rfl (rput_does w6 w4.heap.size _ m 4 hout6 (by omega) (by omega) (by omega)) (fun r w7 h7 => ?_)
    obtain ⟨rfl, hout7, hF7⟩ := h7
    refine goL ?_
    exact tfin ⟨k + 1, sub ⟨rfl, rfl, rfl, rfl, rfl⟩, ⟨by omega, by
      rw [List.take_add_one, hz]
      simpa [lnBits] using hout7, hlens6.fr hF7 (by show ¬ w4.heap.size ≤ gl; omega), hrw6.fr hF7 fun b hb e => by have := htb4 b hb; have e' : w4.heap.size ≤ b := e; omega, Ext.te hE6 hF7 fun j hj e => by have e' : w4.heap.size ≤ j := e; omega⟩, (by show 320 - (k + 1) < 320 - k; omega)⟩
  obtain rfl : k = 320 := by omega
  rw [List.take_of_length_le (by omega)] at hout6
  refine goL ?_
  refine tloop (α := Nat) (fun k => [(0, .string (strOfNums zs)), (4, .slice A1 ts.length c1), (10, .slice (some ⟨gl, 0, none⟩) 320 320), (12, .pointer (some ⟨w4.heap.size, 0, none⟩)), (14, .int .i64 (k : Int))]) (PkC ts (.slice A1 ts.length c1) w4.heap.size gl w) (fun k => ts.length - k) 0 (sub ⟨rfl, rfl, rfl, rfl, rfl⟩) ⟨Nat.zero_le _, by simpa using hout6, hlens6, hrw6, hE6⟩ ?_
  rintro j w7 ⟨hj, hout7, hlens7, hrw7, hE7⟩
  have hblen : (lnBits (lensOf ts) ++ (ts.take j).flatMap (tkBits (lensOf ts))).length ≤ 2 ^ 30 := by
    rw [List.length_append, lnBits_len, hL320]
    have h1 := tkBits_sum (ts := ts) (l := ts.take j) hmay (fun t ht => List.mem_of_mem_take ht)
    have h2 : (ts.take j).length ≤ 12000 := by rw [List.length_take]; omega
    omega
  by_cases hj2 : j < ts.length
  · obtain ⟨A1', c1', e1, _, _, hA1⟩ := hrw7.op
    injection e1 with e1 e2 e3
    subst e1
    obtain ⟨b, o, rfl, hblt, hcells⟩ := hA1.at_ (by omega)
    obtain ⟨t, ht⟩ : ∃ t, ts[j]? = some t := ⟨_, List.getElem?_eq_getElem hj2⟩
    have htm := List.mem_of_getElem? ht
    obtain ⟨s, q, hs, hs320, hq, hq0, hq12⟩ := lensOf_sym htm (hmay t htm)
    have hsb := symT_bd (hmay t htm)
    obtain ⟨vv, hvv⟩ := Int.eq_ofNat_of_zero_le hsb.2.2.1
    obtain ⟨nn, hnn⟩ : ∃ nn : Nat, (symT t).2.2 = (nn : Int) := ⟨(symT t).2.2.toNat, by omega⟩
    have htk : tkBits (lensOf ts) t = bitsOf (codeB (lensOf ts) s) q ++ bitsOf vv nn := by
      unfold tkBits; rw [hs, hvv, hnn, Int.toNat_natCast, Int.toNat_natCast, Int.toNat_natCast, getD_of hq, Int.toNat_natCast]
    repeat' (first | refine xizq j (o + j * 3) rfl rfl rfl rfl rfl (by omega) ?_ | refine go1L ?_ | fail)
    refine xldz (cs := tkC t) rfl rfl (fun j u hu => by rw [Nat.add_assoc]; exact hcells _ u (tksC_get ht j u hu)) ?_
    refine xcall rfl rfl (rsym_does w7 t) (fun r w8 h8 => ?_)
    obtain ⟨rfl, hE8⟩ := h8
    rw [hs, hvv, hnn]
    refine goL ?_
    have hrow8 : IRow w8 (.slice (some ⟨gl, 0, none⟩) 320 320) (lensOf ts) := (hlens7.ext hE8).row (by rw [hL320]; decide) 320 hL320.symm
    have hown8 : ∀ b, (Value.slice (some ⟨gl, 0, none⟩) 320 320).ownBlock = some b → b < w4.heap.size := fun b hb => by
      have e' : (some gl : Option Nat) = some b := hb
      exact (Option.some.inj e') ▸ hlt4
    have hbl40 : (lnBits (lensOf ts) ++ (ts.take j).flatMap (tkBits (lensOf ts))).length ≤ 2 ^ 40 := by omega
    refine xcall rfl rfl (rputc_ok w8 w4.heap.size _ _ (lensOf ts) s q (hout7.ext hE8) hrow8 hown8 hmayL hq hq0 hbl40) (fun r w9 h9 => ?_)
    obtain ⟨rfl, hout9, hF9⟩ := h9
    repeat' (first | refine xcvu rfl rfl rfl (by omega) (by omega) ?_ | refine go1L ?_ | fail)
    refine xcall rfl rfl (rput_does w9 w4.heap.size _ vv nn hout9 (by omega) (by omega) (by rw [List.length_append, length_bitsOf]; omega)) (fun r w10 h10 => ?_)
    obtain ⟨rfl, hout10, hF10⟩ := h10
    refine goL ?_
    have hF : Fr (fun b => w4.heap.size ≤ b) w7 w10 := (hE8.fr.t hF9).t hF10
    refine tfin ⟨j + 1, sub ⟨rfl, rfl, rfl, rfl, rfl⟩, ⟨by omega, ?_, hlens7.fr hF (by show ¬ w4.heap.size ≤ gl; omega), hrw7.fr hF fun b hb e => by have := htb4 b hb; have e' : w4.heap.size ≤ b := e; omega, Ext.te hE7 hF fun j hj e => by have e' : w4.heap.size ≤ j := e; omega⟩, (by show ts.length - (j + 1) < ts.length - j; omega)⟩
    rw [List.take_add_one, ht, Option.toList_some, List.flatMap_append, List.flatMap_singleton, htk, ← List.append_assoc, ← List.append_assoc]
    exact hout10
  obtain rfl : j = ts.length := by omega
  rw [List.take_length] at hout7 hblen
  have hsq : sqB zs = 1 :: (numB zs.length ++ pk (lnBits (lensOf ts) ++ ts.flatMap (tkBits (lensOf ts)))) := by unfold sqB sqBits; rw [← hts]
  have hpl := length_pk (lnBits (lensOf ts) ++ ts.flatMap (tkBits (lensOf ts)))
  have hnl := numB_len (n := zs.length) (by omega)
  obtain ⟨pp, hpp⟩ : ∃ pp, pp = pk (lnBits (lensOf ts) ++ ts.flatMap (tkBits (lensOf ts))) := ⟨_, rfl⟩
  rw [← hpp] at hsq hpl
  refine goL ?_
  refine tcut (α := Unit) (fun _ => [(0, .string (strOfNums zs)), (18, .string (strOfNums ([1] ++ numB zs.length ++ pp)))]) (fun _ w' => Ext w w') ?_ ?_
  · refine tdrawQ 11 [] noH rfl (by kernel_rfl) (by decide +kernel) trivial (fun hR => ?_)
    obtain ⟨a0, ha0⟩ : ∃ a, a = w7.drew := ⟨_, rfl⟩
    have fa0 : Ext w7 a0 := by rw [ha0]; exact Fr.drew _ _
    rw [← ha0]
    refine grun [2, 3, 4, 7] [0, 1, 5, 6, 8, 9, 10] hR (by decide +kernel) (by decide +kernel) rfl ?_
    repeat' (first | refine xcvu rfl rfl rfl (by omega) (by omega) ?_ | refine xsln rfl rfl ?_ | refine go1L ?_ | fail)
    refine gbr2 0 5 [1, 5, 6, 8, 9, 10] [0, 1, 6, 8, 9, 10] hR (by decide +kernel) rfl rfl rfl rfl ?_ ?_
    · skip
      repeat' (first | refine xcvu rfl rfl rfl (by omega) (by omega) ?_ | refine xsln rfl rfl ?_ | refine go1L ?_ | fail)
      refine xbs sl_bytes rfl rfl (by decide) (by decide) (fun u hu => by rw [List.mem_singleton.1 hu]; rfl) (fun a1 hBa1 hEa1 hsa1 => ?_)
      have fa1 : Ext w7 a1 := fa0.t hEa1
      have hba1 := BB.new' [1] hBa1 rfl
      have ga1 := Fr.refl noneB a1
      repeat' (first | refine xcvu rfl rfl rfl (by omega) (by omega) ?_ | refine xsln rfl rfl ?_ | refine go1L ?_ | fail)
      refine gbr2 1 5 [5, 6, 8, 9, 10] [1, 6, 8, 9, 10] hR (by decide +kernel) rfl rfl rfl rfl ?_ ?_
      · skip
        repeat' (first | refine xcvu rfl rfl rfl (by omega) (by omega) ?_ | refine xsln rfl rfl ?_ | refine go1L ?_ | fail)
        refine xcbs rfl (BB.row (hba1.ext ga1) (by show 1 ≤ maxLen; decide)) ?_
        repeat' (first | refine xcvu rfl rfl rfl (by omega) (by omega) ?_ | refine xsln rfl rfl ?_ | refine go1L ?_ | fail)
        refine grun [5, 6, 8, 9, 10] [] hR (by decide +kernel) (by decide +kernel) rfl ?_
        repeat' (first | refine xcvu rfl rfl rfl (by omega) (by omega) ?_ | refine xsln rfl rfl ?_ | refine go1L ?_ | fail)
        refine xcall rfl rfl (rnput_does a1 zs.length (by omega)) (fun r a3 ha3 => ?_)
        obtain ⟨rfl, hEa3⟩ := ha3
        have fa3 : Ext w7 a3 := fa1.t hEa3
        have ga3 : Ext a1 a3 := ga1.t hEa3
        repeat' (first | refine xcvu rfl rfl rfl (by omega) (by omega) ?_ | refine xsln rfl rfl ?_ | refine go1L ?_ | fail)
        refine xsadd rfl rfl (by simp; omega) ?_
        repeat' (first | refine xcvu rfl rfl rfl (by omega) (by omega) ?_ | refine xsln rfl rfl ?_ | refine go1L ?_ | fail)
        refine xcall rfl rfl (rbytes_does a3 w4.heap.size _ (hout7.ext fa3) (by omega)) (fun r a5 ha5 => ?_)
        obtain ⟨rfl, hEa5⟩ := ha5
        rw [← hpp]
        have fa5 : Ext w7 a5 := fa3.t hEa5
        have ga5 : Ext a1 a5 := ga3.t hEa5
        repeat' (first | refine xcvu rfl rfl rfl (by omega) (by omega) ?_ | refine xsln rfl rfl ?_ | refine go1L ?_ | fail)
        refine xsadd rfl rfl (by simp; omega) ?_
        repeat' (first | refine xcvu rfl rfl rfl (by omega) (by omega) ?_ | refine xsln rfl rfl ?_ | refine go1L ?_ | fail)
        refine xg_end ?_
        refine goL ?_
        exact tfin ⟨(), sub ⟨rfl, rfl⟩, hE7.t fa5⟩
      · skip
        repeat' (first | refine xcvu rfl rfl rfl (by omega) (by omega) ?_ | refine xsln rfl rfl ?_ | refine go1L ?_ | fail)
        refine xcall rfl rfl (rnput_does a1 zs.length (by omega)) (fun r a7 ha7 => ?_)
        obtain ⟨rfl, hEa7⟩ := ha7
        have fa7 : Ext w7 a7 := fa1.t hEa7
        have ga7 : Ext a1 a7 := ga1.t hEa7
        repeat' (first | refine xcvu rfl rfl rfl (by omega) (by omega) ?_ | refine xsln rfl rfl ?_ | refine go1L ?_ | fail)
        refine gbr2 1 8 [6, 8, 9, 10] [1, 6, 9, 10] hR (by decide +kernel) rfl rfl rfl rfl ?_ ?_
        · skip
          repeat' (first | refine xcvu rfl rfl rfl (by omega) (by omega) ?_ | refine xsln rfl rfl ?_ | refine go1L ?_ | fail)
          refine xcbs rfl (BB.row (hba1.ext ga7) (by show 1 ≤ maxLen; decide)) ?_
          repeat' (first | refine xcvu rfl rfl rfl (by omega) (by omega) ?_ | refine xsln rfl rfl ?_ | refine go1L ?_ | fail)
          refine grun [6, 8, 9, 10] [] hR (by decide +kernel) (by decide +kernel) rfl ?_
          repeat' (first | refine xcvu rfl rfl rfl (by omega) (by omega) ?_ | refine xsln rfl rfl ?_ | refine go1L ?_ | fail)
          refine xsadd rfl rfl (by simp; omega) ?_
          repeat' (first | refine xcvu rfl rfl rfl (by omega) (by omega) ?_ | refine xsln rfl rfl ?_ | refine go1L ?_ | fail)
          refine xcall rfl rfl (rbytes_does a7 w4.heap.size _ (hout7.ext fa7) (by omega)) (fun r a10 ha10 => ?_)
          obtain ⟨rfl, hEa10⟩ := ha10
          rw [← hpp]
          have fa10 : Ext w7 a10 := fa7.t hEa10
          have ga10 : Ext a1 a10 := ga7.t hEa10
          repeat' (first | refine xcvu rfl rfl rfl (by omega) (by omega) ?_ | refine xsln rfl rfl ?_ | refine go1L ?_ | fail)
          refine xsadd rfl rfl (by simp; omega) ?_
          repeat' (first | refine xcvu rfl rfl rfl (by omega) (by omega) ?_ | refine xsln rfl rfl ?_ | refine go1L ?_ | fail)
          refine xg_end ?_
          refine goL ?_
          exact tfin ⟨(), sub ⟨rfl, rfl⟩, hE7.t fa10⟩
        · skip
          repeat' (first | refine xcvu rfl rfl rfl (by omega) (by omega) ?_ | refine xsln rfl rfl ?_ | refine go1L ?_ | fail)
          refine xcall rfl rfl (rbytes_does a7 w4.heap.size _ (hout7.ext fa7) (by omega)) (fun r a12 ha12 => ?_)
          obtain ⟨rfl, hEa12⟩ := ha12
          rw [← hpp]
          have fa12 : Ext w7 a12 := fa7.t hEa12
          have ga12 : Ext a1 a12 := ga7.t hEa12
          repeat' (first | refine xcvu rfl rfl rfl (by omega) (by omega) ?_ | refine xsln rfl rfl ?_ | refine go1L ?_ | fail)
          refine grun [1, 6, 9, 10] [] hR (by decide +kernel) (by decide +kernel) rfl ?_
          repeat' (first | refine xcvu rfl rfl rfl (by omega) (by omega) ?_ | refine xsln rfl rfl ?_ | refine go1L ?_ | fail)
          refine xcbs rfl (BB.row (hba1.ext ga12) (by show 1 ≤ maxLen; decide)) ?_
          repeat' (first | refine xcvu rfl rfl rfl (by omega) (by omega) ?_ | refine xsln rfl rfl ?_ | refine go1L ?_ | fail)
          refine xsadd rfl rfl (by simp; omega) ?_
          repeat' (first | refine xcvu rfl rfl rfl (by omega) (by omega) ?_ | refine xsln rfl rfl ?_ | refine go1L ?_ | fail)
          refine xsadd rfl rfl (by simp; omega) ?_
          repeat' (first | refine xcvu rfl rfl rfl (by omega) (by omega) ?_ | refine xsln rfl rfl ?_ | refine go1L ?_ | fail)
          refine xg_end ?_
          refine goL ?_
          exact tfin ⟨(), sub ⟨rfl, rfl⟩, hE7.t fa12⟩
    · skip
      repeat' (first | refine xcvu rfl rfl rfl (by omega) (by omega) ?_ | refine xsln rfl rfl ?_ | refine go1L ?_ | fail)
      refine xcall rfl rfl (rnput_does a0 zs.length (by omega)) (fun r a16 ha16 => ?_)
      obtain ⟨rfl, hEa16⟩ := ha16
      have fa16 : Ext w7 a16 := fa0.t hEa16
      repeat' (first | refine xcvu rfl rfl rfl (by omega) (by omega) ?_ | refine xsln rfl rfl ?_ | refine go1L ?_ | fail)
      refine gbr2 0 8 [1, 6, 8, 9, 10] [0, 1, 6, 9, 10] hR (by decide +kernel) rfl rfl rfl rfl ?_ ?_
      · skip
        repeat' (first | refine xcvu rfl rfl rfl (by omega) (by omega) ?_ | refine xsln rfl rfl ?_ | refine go1L ?_ | fail)
        refine xbs sl_bytes rfl rfl (by decide) (by decide) (fun u hu => by rw [List.mem_singleton.1 hu]; rfl) (fun a17 hBa17 hEa17 hsa17 => ?_)
        have fa17 : Ext w7 a17 := fa16.t hEa17
        have hba17 := BB.new' [1] hBa17 rfl
        have ga17 := Fr.refl noneB a17
        repeat' (first | refine xcvu rfl rfl rfl (by omega) (by omega) ?_ | refine xsln rfl rfl ?_ | refine go1L ?_ | fail)
        refine gbr2 1 8 [6, 8, 9, 10] [1, 6, 9, 10] hR (by decide +kernel) rfl rfl rfl rfl ?_ ?_
        · skip
          repeat' (first | refine xcvu rfl rfl rfl (by omega) (by omega) ?_ | refine xsln rfl rfl ?_ | refine go1L ?_ | fail)
          refine xcbs rfl (BB.row (hba17.ext ga17) (by show 1 ≤ maxLen; decide)) ?_
          repeat' (first | refine xcvu rfl rfl rfl (by omega) (by omega) ?_ | refine xsln rfl rfl ?_ | refine go1L ?_ | fail)
          refine grun [6, 8, 9, 10] [] hR (by decide +kernel) (by decide +kernel) rfl ?_
          repeat' (first | refine xcvu rfl rfl rfl (by omega) (by omega) ?_ | refine xsln rfl rfl ?_ | refine go1L ?_ | fail)
          refine xsadd rfl rfl (by simp; omega) ?_
          repeat' (first | refine xcvu rfl rfl rfl (by omega) (by omega) ?_ | refine xsln rfl rfl ?_ | refine go1L ?_ | fail)
          refine xcall rfl rfl (rbytes_does a17 w4.heap.size _ (hout7.ext fa17) (by omega)) (fun r a20 ha20 => ?_)
          obtain ⟨rfl, hEa20⟩ := ha20
          rw [← hpp]
          have fa20 : Ext w7 a20 := fa17.t hEa20
          have ga20 : Ext a17 a20 := ga17.t hEa20
          repeat' (first | refine xcvu rfl rfl rfl (by omega) (by omega) ?_ | refine xsln rfl rfl ?_ | refine go1L ?_ | fail)
          refine xsadd rfl rfl (by simp; omega) ?_
          repeat' (first | refine xcvu rfl rfl rfl (by omega) (by omega) ?_ | refine xsln rfl rfl ?_ | refine go1L ?_ | fail)
          refine xg_end ?_
          refine goL ?_
          exact tfin ⟨(), sub ⟨rfl, rfl⟩, hE7.t fa20⟩
        · skip
          repeat' (first | refine xcvu rfl rfl rfl (by omega) (by omega) ?_ | refine xsln rfl rfl ?_ | refine go1L ?_ | fail)
          refine xcall rfl rfl (rbytes_does a17 w4.heap.size _ (hout7.ext fa17) (by omega)) (fun r a22 ha22 => ?_)
          obtain ⟨rfl, hEa22⟩ := ha22
          rw [← hpp]
          have fa22 : Ext w7 a22 := fa17.t hEa22
          have ga22 : Ext a17 a22 := ga17.t hEa22
          repeat' (first | refine xcvu rfl rfl rfl (by omega) (by omega) ?_ | refine xsln rfl rfl ?_ | refine go1L ?_ | fail)
          refine grun [1, 6, 9, 10] [] hR (by decide +kernel) (by decide +kernel) rfl ?_
          repeat' (first | refine xcvu rfl rfl rfl (by omega) (by omega) ?_ | refine xsln rfl rfl ?_ | refine go1L ?_ | fail)
          refine xcbs rfl (BB.row (hba17.ext ga22) (by show 1 ≤ maxLen; decide)) ?_
          repeat' (first | refine xcvu rfl rfl rfl (by omega) (by omega) ?_ | refine xsln rfl rfl ?_ | refine go1L ?_ | fail)
          refine xsadd rfl rfl (by simp; omega) ?_
          repeat' (first | refine xcvu rfl rfl rfl (by omega) (by omega) ?_ | refine xsln rfl rfl ?_ | refine go1L ?_ | fail)
          refine xsadd rfl rfl (by simp; omega) ?_
          repeat' (first | refine xcvu rfl rfl rfl (by omega) (by omega) ?_ | refine xsln rfl rfl ?_ | refine go1L ?_ | fail)
          refine xg_end ?_
          refine goL ?_
          exact tfin ⟨(), sub ⟨rfl, rfl⟩, hE7.t fa22⟩
      · skip
        repeat' (first | refine xcvu rfl rfl rfl (by omega) (by omega) ?_ | refine xsln rfl rfl ?_ | refine go1L ?_ | fail)
        refine xcall rfl rfl (rbytes_does a16 w4.heap.size _ (hout7.ext fa16) (by omega)) (fun r a26 ha26 => ?_)
        obtain ⟨rfl, hEa26⟩ := ha26
        rw [← hpp]
        have fa26 : Ext w7 a26 := fa16.t hEa26
        repeat' (first | refine xcvu rfl rfl rfl (by omega) (by omega) ?_ | refine xsln rfl rfl ?_ | refine go1L ?_ | fail)
        refine grun [0, 1, 6, 9, 10] [] hR (by decide +kernel) (by decide +kernel) rfl ?_
        repeat' (first | refine xcvu rfl rfl rfl (by omega) (by omega) ?_ | refine xsln rfl rfl ?_ | refine go1L ?_ | fail)
        refine xbs sl_bytes rfl rfl (by decide) (by decide) (fun u hu => by rw [List.mem_singleton.1 hu]; rfl) (fun a27 hBa27 hEa27 hsa27 => ?_)
        have fa27 : Ext w7 a27 := fa26.t hEa27
        have hba27 := BB.new' [1] hBa27 rfl
        have ga27 := Fr.refl noneB a27
        repeat' (first | refine xcvu rfl rfl rfl (by omega) (by omega) ?_ | refine xsln rfl rfl ?_ | refine go1L ?_ | fail)
        refine xcbs rfl (BB.row (hba27.ext ga27) (by show 1 ≤ maxLen; decide)) ?_
        repeat' (first | refine xcvu rfl rfl rfl (by omega) (by omega) ?_ | refine xsln rfl rfl ?_ | refine go1L ?_ | fail)
        refine xsadd rfl rfl (by simp; omega) ?_
        repeat' (first | refine xcvu rfl rfl rfl (by omega) (by omega) ?_ | refine xsln rfl rfl ?_ | refine go1L ?_ | fail)
        refine xsadd rfl rfl (by simp; omega) ?_
        repeat' (first | refine xcvu rfl rfl rfl (by omega) (by omega) ?_ | refine xsln rfl rfl ?_ | refine go1L ?_ | fail)
        refine xg_end ?_
        refine goL ?_
        exact tfin ⟨(), sub ⟨rfl, rfl⟩, hE7.t fa27⟩
  rintro _ w8 hE8
  have hsq' : [1] ++ numB zs.length ++ pp = sqB zs := by rw [hsq]; simp
  rw [hsq']
  unfold putB
  by_cases h : (sqB zs).length < 1 + zs.length
  · rw [if_pos h]
    repeat' (first | refine xsln rfl rfl ?_ | refine go1L ?_ | fail)
    exact tret2 rfl rfl rfl ⟨rfl, hE8⟩
  rw [if_neg h]
  repeat' (first | refine xsln rfl rfl ?_ | refine go1L ?_ | fail)
  refine xbs sl_bytes rfl rfl (by decide) (by decide) (fun u hu => by rw [List.mem_singleton.1 hu]; rfl) (fun w9 hB9 hE9 hs9 => ?_)
  have hBB := BB.new' [0] hB9 rfl
  refine xcbs rfl (hBB.row (by show 1 ≤ maxLen; decide)) ?_
  refine goL ?_
  refine xsadd rfl rfl (by simp; omega) ?_
  refine goL ?_
  exact tret2 rfl rfl rfl ⟨rfl, hE8.t hE9⟩
end Eng
end Go.Proofs.Ytighkjohpmlemaa
