/-
  The reference's Join.
-/
import Derived.Test.YtighkjohpmlemaaTb
namespace Go.Proofs.Ytighkjohpmlemaa
open Go.RowKit
namespace Eng
attribute [local irreducible] xs T

structure RjI (ts : List Tkn) (M : Nat) (tv : Value) (w0 : World) (x : Nat × Value × List Int) (w : World) : Prop where
  le : x.1 ≤ ts.length
  own : Own w w0.heap.size 5 x.2.1 (x.2.2.map (Value.int .u8))
  go : joinB M x.2.2 (ts.drop x.1) = joinB M [] ts
  len : x.2.2.length ≤ M
  ext : Ext w0 w

structure RcI (t : Tkn) (acc : List Int) (gt : Nat) (w0 : World) (x : Nat × Value × List Int) (w : World) : Prop where
  le : x.1 ≤ t.long.toNat
  own : Own w w0.heap.size 5 x.2.1 (x.2.2.map (Value.int .u8))
  blk : Blk w gt 67 (tkC t).toArray
  go : cpB t.back.toNat (t.long.toNat - x.1) x.2.2 = cpB t.back.toNat t.long.toNat acc
  len : x.2.2.length = acc.length + x.1
  ne : x.2.1.ownBlock ≠ some gt
  ext : Ext w0 w

set_option maxRecDepth 20000 in
set_option maxHeartbeats 8000000 in
theorem rjoin_does (w : World) (v : Value) (ts : List Tkn) (M : Nat) (hv : Row w v ts.length (tksC ts)) (hM : M ≤ 2 ^ 30) (hl : ts.length ≤ 2 ^ 30) :
    Does Try.prog 84 #[v, .int .i64 (M : Int)] w fun r w' => r = .tuple #[.string (strOfNums (joinB M [] ts).2), .int .i64 (joinB M [] ts).1] ∧ Ext w w' := by
  refine does2 Try.func84 rfl (by kernel_rfl) ?_
  obtain ⟨A, c, rfl, hcc, hcm, hA⟩ := hv.op
  refine goL ?_
  refine tloop (α := Nat × Value × List Int) (fun x => [(0, .slice A ts.length c), (1, .int .i64 (M : Int)), (6, x.2.1), (7, .int .i64 (x.1 : Int))]) (RjI ts M (.slice A ts.length c) w) (fun x => ts.length - x.1) (0, .slice none 0 0, []) (sub ⟨rfl, rfl, rfl, rfl⟩) ⟨Nat.zero_le _, Own.nil _ _ _, rfl, Nat.zero_le _, Fr.refl _ _⟩ ?_
  rintro ⟨i, bv, acc⟩ w1 ⟨hi, hown, hgo, hlen, hE⟩
  dsimp only at hi hown hgo hlen hE ⊢
  obtain ⟨A1, c1, e1, hc1, hm1⟩ := hown.form
  rw [List.length_map] at e1 hc1
  subst e1
  have hm1' : c1 ≤ 9223372036854775807 := hm1
  have hsz := hE.size
  by_cases hlt : i < ts.length
  · obtain ⟨b, o, rfl, hblt, hcells⟩ := hA.at_ (by omega)
    obtain ⟨t, ht⟩ : ∃ t, ts[i]? = some t := ⟨_, List.getElem?_eq_getElem hlt⟩
    have hdr : ts.drop i = t :: ts.drop (i + 1) := by
      rw [List.drop_eq_getElem_cons hlt]
      congr 1
      rw [List.getElem?_eq_getElem hlt] at ht
      injection ht
    rw [hdr, joinB] at hgo
    repeat' (first | refine xizq i (o + i * 3) rfl rfl rfl rfl rfl (by omega) ?_ | refine go1L ?_ | fail)
    refine xldz (cs := tkC t) rfl rfl (fun j u hu => by rw [Nat.add_assoc]; exact hE.cell (hcells _ u (tksC_get ht j u hu))) ?_
    refine xalloc (z := .agg #[.int .i64 0, .int .i64 0, .int .i64 0]) (by kernel_rfl) (fun w2 hB2 hE2 hs2 => ?_)
    refine xsta (cs := (tkC t).toArray) hB2 rfl rfl rfl rfl (tkC_all t) (fun w3 hB3 hF3 => ?_)
    have hE13 : Ext w1 w3 := Ext.te hE2 hF3 fun j hj e => by have e' : j = w1.heap.size := e; omega
    refine goL ?_
    refine xlda hB3 rfl rfl ?_
    refine xcall rfl rfl (rmayt_does w3 t) (fun r w4 h4 => ?_)
    obtain ⟨rfl, hE4⟩ := h4
    have hE14 : Ext w1 w4 := hE13.t hE4
    have hE04 : Ext w w4 := hE.t hE14
    cases hm : mayT t with
    | false =>
      rw [if_pos hm] at hgo
      refine goL ?_
      exact tret2 rfl rfl rfl ⟨by rw [← hgo]; rfl, hE04⟩
    | true =>
      rw [if_neg (by rw [hm]; decide)] at hgo
      have hmo := mayT_op hm
      have hB4 : Blk w4 w1.heap.size 67 #[.int .i64 t.lit, .int .i64 t.back, .int .i64 t.long] := hB3.ext hE4
      have k0 : w4.cell? ⟨w1.heap.size, 0, none⟩ = some (.int .i64 t.lit) := hB4.cell 0
      have k1 : w4.cell? ⟨w1.heap.size, 1, none⟩ = some (.int .i64 t.back) := hB4.cell 1
      have k2 : w4.cell? ⟨w1.heap.size, 2, none⟩ = some (.int .i64 t.long) := hB4.cell 2
      by_cases hb : (acc.length : Int) < t.back
      · rw [if_pos hb] at hgo
        refine goL ?_
        exact tret2 rfl rfl rfl ⟨by rw [← hgo]; rfl, hE04⟩
      rw [if_neg hb] at hgo
      by_cases hM2 : (M : Int) - acc.length < max t.long 1
      · rw [if_pos hM2] at hgo
        refine goLM ?_
        exact tret2 rfl rfl rfl ⟨by rw [← hgo]; rfl, hE04⟩
      rw [if_neg hM2] at hgo
      have hown4 := hown.ext hE14
      have hsz4 := hE14.size
      by_cases hlit : 0 ≤ t.lit
      · have hadd : addB acc t = acc ++ [t.lit] := by unfold addB; rw [if_pos hlit]
        rw [hadd] at hgo
        repeat' (first | refine xcvb8 rfl rfl rfl (by omega) (by omega) ?_ | refine go1LM ?_ | fail)
        refine xbs sl_bytes rfl rfl (by decide) (by decide) (fun u hu => by rw [List.mem_singleton.1 hu]; rfl) (fun w5 hB5 hE5 hs5 => ?_)
        refine xap sl_bytes rfl rfl (hown4.ext hE5) rfl (blk_row hB5 (by decide) rfl) (by simp) (fun u hu => by rw [List.mem_singleton.1 hu]; rfl) (by unfold maxLen; simp; omega) (by simp; omega) (by omega) (fun v6 w6 hown6 hF6 hv6 => ?_)
        have hE06 : Ext w w6 := Ext.te (hE04.t hE5) hF6 fun j hj e => by have := (hown.blk e).1; omega
        have hne : (Value.slice A1 acc.length c1).ownBlock ≠ some w1.heap.size := fun e => by have := (hown.blk e).2; omega
        have hB6 : Blk w6 w1.heap.size 67 #[.int .i64 t.lit, .int .i64 t.back, .int .i64 t.long] := (hB4.ext hE5).fr hF6 hne
        have q2 : w6.cell? ⟨w1.heap.size, 2, none⟩ = some (.int .i64 t.long) := hB6.cell 2
        refine goL ?_
        refine tloop (α := Unit) (fun _ => [(0, .slice (some ⟨b, o, none⟩) ts.length c), (1, .int .i64 (M : Int)), (6, v6), (7, .int .i64 (i : Int)), (8, .pointer (some ⟨w1.heap.size, 0, none⟩)), (9, .int .i64 0)]) (fun _ w' => w6 = w') (fun _ => 0) () (sub ⟨rfl, rfl, rfl, rfl, rfl, rfl⟩) rfl ?_
        rintro _ _ rfl
        refine goL ?_
        exact tfin ⟨(i + 1, v6, acc ++ [t.lit]), sub ⟨rfl, rfl, rfl, rfl⟩, ⟨by dsimp only; omega, by dsimp only; rw [List.map_append]; exact hown6, hgo, by dsimp only; rw [List.length_append]; simp; omega, hE06⟩, (by show ts.length - (i + 1) < ts.length - i; omega)⟩
      · have hadd : addB acc t = cpB t.back.toNat t.long.toNat acc := by unfold addB; rw [if_neg hlit]
        rw [hadd] at hgo
        have hne : (Value.slice A1 acc.length c1).ownBlock ≠ some w1.heap.size := fun e => by have := (hown.blk e).2; omega
        refine goLM ?_
        refine tloop (α := Nat × Value × List Int) (fun x => [(0, .slice (some ⟨b, o, none⟩) ts.length c), (1, .int .i64 (M : Int)), (6, x.2.1), (7, .int .i64 (i : Int)), (8, .pointer (some ⟨w1.heap.size, 0, none⟩)), (9, .int .i64 (x.1 : Int))]) (RcI t acc w1.heap.size w) (fun x => t.long.toNat - x.1) (0, _, acc) (sub ⟨rfl, rfl, rfl, rfl, rfl, rfl⟩) ⟨Nat.zero_le _, hown4, hB4, rfl, rfl, hne, hE04⟩ ?_
        rintro ⟨k, v5, a5⟩ w5 ⟨hk, hown5, hB5, hgo5, hlen5, hne5, hE5⟩
        dsimp only at hk hown5 hB5 hgo5 hlen5 hne5 hE5 ⊢
        have hB5' : Blk w5 w1.heap.size 67 #[.int .i64 t.lit, .int .i64 t.back, .int .i64 t.long] := hB5
        have q1 : w5.cell? ⟨w1.heap.size, 1, none⟩ = some (.int .i64 t.back) := hB5'.cell 1
        have q2 : w5.cell? ⟨w1.heap.size, 2, none⟩ = some (.int .i64 t.long) := hB5'.cell 2
        have hsz5 := hE5.size
        have hbl := hB5.lt
        by_cases hk2 : k < t.long.toNat
        · obtain ⟨A5, c5, e5, hc5, hm5, hA5⟩ := hown5.brow.op
          subst e5
          obtain ⟨b5, o5, z, rfl, _, hz, hcell, _⟩ := hA5.at_ (show a5.length - t.back.toNat < a5.length by omega)
          rw [show t.long.toNat - k = (t.long.toNat - (k + 1)) + 1 from by omega, cpB, getD_of hz] at hgo5
          repeat' (first | refine xisq (a5.length - t.back.toNat) (o5 + (a5.length - t.back.toNat)) rfl rfl rfl (by omega) rfl (by omega) ?_ | refine go1L ?_ | fail)
          refine xbs sl_bytes rfl rfl (by decide) (by decide) (fun u hu => by rw [List.mem_singleton.1 hu]; rfl) (fun w6 hB6 hE6 hs6 => ?_)
          refine xap sl_bytes rfl rfl (hown5.ext hE6) rfl (blk_row hB6 (by decide) rfl) (by simp) (fun u hu => by rw [List.mem_singleton.1 hu]; rfl) (by unfold maxLen; simp; omega) (by simp; omega) (by omega) (fun v7 w7 hown7 hF7 hv7 => ?_)
          refine goL ?_
          refine tfin ⟨(k + 1, v7, a5 ++ [z]), sub ⟨rfl, rfl, rfl, rfl, rfl, rfl⟩, ⟨by dsimp only; omega, by dsimp only; rw [List.map_append]; exact hown7, (hB5.ext hE6).fr hF7 hne5, hgo5, by dsimp only; rw [List.length_append]; simp; omega, ?_, Ext.te (hE5.t hE6) hF7 fun j hj e => by have := (hown5.blk e).1; omega⟩, (by show t.long.toNat - (k + 1) < t.long.toNat - k; omega)⟩
          dsimp only
          rcases hv7 with h | h
          · rw [h]; exact hne5
          · rw [h]; intro e; injection e with e; omega
        · obtain rfl : k = t.long.toNat := by omega
          rw [Nat.sub_self, cpB] at hgo5
          rw [← hgo5] at hgo
          refine goL ?_
          exact tfin ⟨(i + 1, v5, a5), sub ⟨rfl, rfl, rfl, rfl⟩, ⟨by dsimp only; omega, hown5, hgo, by dsimp only; omega, hE5⟩, (by show ts.length - (i + 1) < ts.length - i; omega)⟩
  · obtain rfl : i = ts.length := by omega
    rw [List.drop_length, joinB] at hgo
    refine goL ?_
    refine xcbs rfl hown.brow ?_
    refine goL ?_
    exact tret2 rfl rfl rfl ⟨by rw [← hgo], hE⟩
end Eng
end Go.Proofs.Ytighkjohpmlemaa
