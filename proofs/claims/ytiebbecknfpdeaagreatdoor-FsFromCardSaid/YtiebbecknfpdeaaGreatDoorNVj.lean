/-
  Parts of the proof: Vj.
-/
import Derived.Test.YtiebbecknfpdeaaGreatDoorNB11
set_option maxRecDepth 100000
set_option maxHeartbeats 64000000
namespace Go.Proofs.YtiebbecknfpdeaaGreatDoor.Eng
open Go.RowKit
section
open Wr
attribute [local irreducible] xs T
theorem exsP_len (l : List Pce) : (exsP l).length = l.length := by simp [exsP]
theorem bytes_sep : ∀ (l : List Pce) (lo M : Int), SepP 1 l → (∀ p ∈ l, lo ≤ p.pos ∧ endP p ≤ M) → lo ≤ M → (bytesP l : Int) ≤ M - lo
 | [], lo, M, _, _, h => by simp only [bytesP]; omega
 | p :: r, lo, M, hs, hm, h => by
  unfold SepP at hs
  rw [List.pairwise_cons] at hs
  have hp := hm p (by simp)
  have := bytes_sep r (endP p) M hs.2 (fun q hq => ⟨by have := hs.1 q hq; omega, (hm q (by simp [hq])).2⟩) hp.2
  rw [bytesP]
  unfold endP at this hp
  omega
theorem exsP_get {l : List Pce} {i : Nat} {e : Ext2} (h : (exsP l)[i]? = some e) : ∃ q, l[i]? = some q ∧ e = (q.pos.toNat, q.data.length) := by
 unfold exsP at h
 rw [List.getElem?_map] at h
 cases hq : l[i]? with
 | none => rw [hq] at h; cases h
 | some q => rw [hq] at h; injection h with h; exact ⟨q, rfl, h.symm⟩
structure WrS (Wb : World) (g : Nat) (fin : Nd) (va vc : Value) (J : List Pce) (x : Nat × Value) (w' : World) : Prop where
 i : x.1 ≤ J.length
 b : Blk w' g 67 (ndC ⟨fin, va, vc, x.2⟩).toArray
 d : Ow pcC 2 w' Wb.heap.size 134 x.2 (J.take x.1)
 f : Fr (· = g) Wb w'
structure WrC (Wc : World) (g n : Nat) (q0 q1 : Int) (P : List Pce) (j : Nat) (w' : World) : Prop where
 jl : j ≤ P.length
 b : Blk w' g 5 (byC (roomF q0 q1 (P.take j) (List.replicate n 0))).toArray
 f : Fr (· = g) Wc w'
theorem roomF_take {q0 q1 : Int} {P : List Pce} {j : Nat} {p : Pce} {r : Str} (h : P[j]? = some p) : roomF q0 q1 (P.take (j + 1)) r = stepR q0 q1 (roomF q0 q1 (P.take j) r) p := by
 unfold roomF
 rw [List.take_add_one, h, Option.toList_some, List.foldl_append]
 rfl
def WrR (w : World) (x : NdV) (pos : Int) (s : Str) (r : Value) (w' : World) : Prop :=
 ∃ x', r = .tuple #[.agg (ndC x').toArray, .int .i64 (writeN x.n pos s).2] ∧ x'.n = (writeN x.n pos s).1 ∧ NdIn w' x' ∧ ((writeN x.n pos s).2 = 0 → NdO w' w.heap.size x') ∧ Ext w w'
theorem nwrite_does (w : World) (x : NdV) (pos : Int) (s : Str) (hx : NdIn w x) (hL : NdL x.n) (hb : bytesP x.n.data ≤ 1000000) (hsl : s.length ≤ 1000000) (hp : pos ≤ 4000000000000000000) : Does Tryz.prog 82 #[.agg (ndC x).toArray, .int .i64 pos, .string (su s)] w (WrR w x pos s) := by
 refine does3 Tryz.func82 rfl (by kernel_rfl) ?_
 unfold WrR
 refine goL ?_
 refine xbox rfl (fun w1 hB1 hE1 hs1 => ?_)
 refine goL ?_
 refine xalloc (z := .agg nd0) (by kernel_rfl) (fun w2 hB2 hE2 hs2 => ?_)
 have hB : Blk w2 w.heap.size 67 (ndC x).toArray := Blk.ext hB1 hE2
 have hE02 : Ext w w2 := hE1.t hE2
 have z1 := hE1.size; have z2 := hE2.size
 refine goL ?_
 refine xlda (t := 67) hB rfl rfl ?_
 refine goL ?_
 refine xcallE rfl rfl (isFile_does w2 x (hx.ext hE02) hb) (fun r w3 h3 => ?_)
 obtain ⟨rfl, hE3⟩ := h3
 have hB3 := hB.ext hE3
 have hR3 := Blk.ext hB2 hE3
 have hE03 := hE02.t hE3
 have hx3 := hx.ext hE03
 have z3 := hE3.size
 have hone : ∀ {w : World} {y : NdV}, NdIn w y → ∀ u ∈ ndC y, u.oneCell' = true := fun h => ndC_one h
 by_cases bad : nodeOK x.n = false ∨ x.n.kind ≠ 2 ∨ pos < 0 ∨ 1099511627776 < pos
 ·have hw : writeN x.n pos s = (x.n, 1) := by unfold writeN; rw [if_pos bad]
  rw [hw]
  have hgo : (decide (x.n.kind = 2) && nodeOK x.n) = false ∨ ((decide (x.n.kind = 2) && nodeOK x.n) = true ∧ (pos < 0 ∨ 1099511627776 < pos)) := by
   cases h1 : nodeOK x.n with
   | false => left; simp
   | true =>
    by_cases h2 : x.n.kind = 2
    ·right; refine ⟨by simp [h2], ?_⟩; rcases bad with h | h | h
     ·rw [h1] at h; cases h
     ·exact absurd h2 h
     ·exact h
    ·left; simp [h2]
  rcases hgo with hgo | ⟨hgo, hgp⟩
  ·rw [hgo]
   refine goL ?_
   exact y0
  ·rw [hgo]
   rcases hgp with hgp | hgp
   ·refine goL ?_
    exact y0
   ·refine goL ?_
    exact y0
 have hnk : nodeOK x.n = true := by cases h : nodeOK x.n with
  | true => rfl
  | false => exact absurd (.inl h) bad
 have hk2 : x.n.kind = 2 := by
  by_cases h : x.n.kind = 2
  ·exact h
  ·exact absurd (.inr (.inl h)) bad
 have hp0 : 0 ≤ pos := by
  by_cases h : 0 ≤ pos
  ·exact h
  ·exact absurd (.inr (.inr (.inl (by omega)))) bad
 have hp1 : pos ≤ 1099511627776 := by
  by_cases h : pos ≤ 1099511627776
  ·exact h
  ·exact absurd (.inr (.inr (.inr (by omega)))) bad
 rw [show (decide (x.n.kind = 2) && nodeOK x.n) = true from by rw [hk2, hnk]; rfl]
 have hfo : fileOK x.n = true := node_file hnk hk2
 have hwr : writeN x.n pos s = (if 1099511627776 - pos < (s.length : Int) then (x.n, 2)
  else if s = [] then (x.n, 0)
  else if 4000 < bytesP (wrP x.n.data pos s) ∨ 16 < (wrP x.n.data pos s).length then (x.n, 13)
  else ({ x.n with data := wrP x.n.data pos s, size := max x.n.size (pos + (s.length : Int)) }, 0)) := by
  unfold writeN; rw [if_neg bad]
 by_cases big : 1099511627776 - pos < (s.length : Int)
 ·rw [hwr, if_pos big]
  refine gz19 ?_
  exact y0
 rw [if_neg big] at hwr
 refine gz19 ?_
 refine xlda (t := 67) hB3 rfl rfl ?_
 refine goL ?_
 refine xcallE rfl rfl (ncopy_does w3 x hx3 hL) (fun r w4 h4 => ?_)
 obtain ⟨x1, rfl, hO4, hxn, hE4⟩ := h4
 have hB4 := hB3.ext hE4
 have hR4 := hR3.ext hE4
 have hE04 := hE03.t hE4
 have z4 := hE4.size
 refine goL ?_
 refine xalloc (z := .agg nd0) (by kernel_rfl) (fun w5 hB5 hE5 hs5 => ?_)
 refine goL ?_
 refine xsta hB5 rfl rfl (by kernel_rfl) rfl (one_cells (l := ndC x1) (List.all_eq_true.2 (hone hO4.in))) (fun w6 hB6 hF6 => ?_)
 have hE46 : Ext w4 w6 := hE5.trans hF6 fun j hj e => by have : j = w4.heap.size := e; omega
 have z5 := hE5.size; have z6 := hF6.size
 have hB6n := hB4.ext hE46
 have hR6 := hR4.ext hE46
 have hE06 := hE04.t hE46
 have hO6 := hO4.ext hE46
 by_cases hs0 : s = []
 ·exact y11
 rw [if_neg hs0] at hwr
 obtain ⟨f1, f2, f3, f4, f5, f6⟩ := (file_iff x.n).1 hfo
 have hpall : x.n.data.all pceOK = true := by
  unfold fileOK at hfo
  simp only [Bool.and_eq_true] at hfo
  exact hfo.1.1.2
 obtain ⟨a, rfl⟩ := Int.eq_ofNat_of_zero_le hp0
 obtain ⟨wS, wM⟩ := wr_spec hfo hp0 hs0 (by omega)
 have hM : max x.n.size ((a : Int) + (s.length : Int)) ≤ 1099511627776 := by omega
 have hme : ∀ {srt : List Ext2}, srt.Perm (exsP x.n.data ++ [(a, s.length)]) → ascX srt → mrgX srt = exsP (wrP x.n.data (a : Int) s) := fun hp ha => merged_eq (l := x.n.data) (pos := (a : Int)) (s := s) (fun p hp => ⟨(f6 p hp).2.1, by have := (f6 p hp).2.2; omega, (f6 p hp).1⟩) hp0 hs0 wS (fun q hq => ⟨(wM q hq).1, (wM q hq).2.1⟩) hp ha
 have hro := fun q hq => room_eq (l := x.n.data) (pos := (a : Int)) (s := s) f5 (fun p hp => ⟨(f6 p hp).2.1, by have := (f6 p hp).2.2; omega⟩) wS (q := q) hq
 obtain ⟨J, hJ⟩ : ∃ J, J = wrP x.n.data (a : Int) s := ⟨_, rfl⟩
 rw [← hJ] at wS wM hme hro hwr
 have hbJ := bytes_sep J 0 1099511627776 wS (fun q hq => ⟨(wM q hq).2.1, by have := (wM q hq).2.2; omega⟩) (by omega)
 have hel : (exsP x.n.data).length ≤ 16 := by rw [exsP_len]; omega
 have hs1 : 0 < s.length := List.length_pos_iff.2 hs0
 repeat' (first | refine xucmp (op := .eql) (r := false) rfl rfl (by simp [cmpU, hs0]) ?_ | refine go1L ?_ | fail)
 refine xlda (t := 67) hB6n rfl rfl ?_
 refine goL ?_
 refine xcallE rfl rfl (extents_does w6 x (hx.ext hE06) hpall hb (by omega)) (fun r w7 h7 => ?_)
 obtain ⟨hO7, hE7⟩ := h7
 refine gz19 ?_
 refine xcallE rfl rfl (of_does w7 a s.length (by omega) (by omega)) (fun r w8 h8 => ?_)
 obtain ⟨rfl, rfl⟩ := h8
 refine goL ?_
 refine xbs (vs := exC (a, s.length)) sl_cpl rfl rfl (by decide) (by decide) (fun u hu => by rw [List.mem_singleton.1 hu]; rfl) (fun w8 hB8 hE8 hs8 => ?_)
 refine xapz (news := exC (a, s.length)) sl_cpl rfl (by decide) rfl (OwnZ.ext hO7 hE8) rfl (blk_row hB8 (by decide) rfl) rfl (fun u hu => by rw [List.mem_singleton.1 hu]; rfl) (by unfold maxLen; omega) (by omega) (by have := hE7.size; have := hE8.size; omega) (fun v9 w9 hO9 hF9 hv9 => ?_)
 have hO9' : Ow exC 1 w9 w6.heap.size 156 v9 (exsP x.n.data ++ [(a, s.length)]) := Ow.ext1 (l' := [(a, s.length)]) (by simpa using hO9)
 have hE69 : Ext w6 w9 := Ext.te (hE7.t hE8) hF9 fun j hj e => by have := (hO7.blk e).1; omega
 refine goL ?_
 refine xcallE rfl rfl (normX_does w9 v9 _ hO9'.rw (fun e he => by
  rcases List.mem_append.1 he with he | he
  ·obtain ⟨p, hp, rfl⟩ := List.mem_map.1 he
   have h1 := f6 p hp
   have h2 := List.length_pos_iff.2 h1.1
   unfold endP at h1
   dsimp only
   omega
  ·rw [List.mem_singleton.1 he]; dsimp only; omega) (by simp) (by rw [List.length_append, List.length_singleton]; omega)) (fun r w10 h10 => ?_)
 obtain ⟨⟨srt, hperm, hasc, hO10⟩, hE10⟩ := h10
 rw [hme hperm hasc] at hO10
 have hE610 := hE69.t hE10
 have z69 := hE69.size
 clear hO7 hO9 hO9' hF9 hB8 hE7 hE8 hE69 hE10 hme hperm hasc
 obtain ⟨A10, c10, rfl, hc10, hc10', hA10⟩ := hO10.rw.op exC_len
 have hJl := exsP_len J
 refine goL ?_
 refine tloop (α := Nat) (fun i => [(1, .int .i64 (a : Int)), (2, .string (su s)), (3, .pointer (some ⟨w.heap.size, 0, none⟩)), (6, .pointer (some ⟨w1.heap.size, 0, none⟩)), (8, .int .i64 ((a : Int) + (s.length : Int))), (9, .pointer (some ⟨w4.heap.size, 0, none⟩)), (10, .slice A10 (exsP J).length c10), (11, .int .i64 (bytesP (J.take i) : Int)), (54, .slice A10 (exsP J).length c10), (55, .int .i64 ((exsP J).length : Int)), (56, .int .i64 (i : Int))]) (fun i w' => w10 = w' ∧ i ≤ J.length) (fun i => J.length - i) 0 (sub ⟨rfl, rfl, rfl, rfl, rfl, rfl, rfl, rfl, rfl, rfl, rfl⟩) ⟨rfl, Nat.zero_le _⟩ ?_
 rintro i w11 ⟨rfl, hi⟩
 by_cases hlt : i < J.length
 ·exact y12
 obtain rfl : i = J.length := by omega
 rw [List.take_length]
 have hB10n := hB6n.ext hE610
 have hB10 := hB6.ext hE610
 have hR10 := hR6.ext hE610
 have hE010 := hE06.t hE610
 have z10 := hE610.size
 by_cases hbig : 4000 < bytesP J ∨ 16 < J.length
 ·rw [if_pos hbig] at hwr
  rw [hwr]
  have hx10 := hx.ext hE010
  rcases Nat.lt_or_ge 4000 (bytesP J) with hg | hg
  ·exact y1
  ·exact y1
 obtain ⟨fin, hfin⟩ : ∃ fin : Nd, fin = { x.n with data := J, size := max x.n.size ((a : Int) + (s.length : Int)) } := ⟨_, rfl⟩
 rw [if_neg hbig, ← hfin] at hwr
 rw [hwr]
 have hJ4 : bytesP J ≤ 4000 := by omega
 have hJ16 : J.length ≤ 16 := by omega
 obtain ⟨n1, va1, vc1, vd1⟩ := x1
 dsimp only at hxn
 subst hxn
 have k7 : w10.cell? ⟨w.heap.size, 7, none⟩ = some (.int .i64 x.n.size) := hB10n.cell 7
 refine goLM ?_
 refine xstb hB10 rfl rfl (by kernel_rfl) rfl rfl (fun w11 hB11 hF11 => ?_)
 refine goL ?_
 refine xstb hB11 rfl rfl (by kernel_rfl) rfl rfl (fun w12 hB12 hF12 => ?_)
 have hB12' : Blk w12 w4.heap.size 67 (ndC ⟨fin, va1, vc1, .slice none 0 0⟩).toArray := by rw [hfin]; exact hB12
 have hF1012 : Fr (· = w4.heap.size) w10 w12 := hF11.t hF12
 have hE412 : Ext w4 w12 := (hE46.t hE610).trans hF1012 fun j hj e => by have : j = w4.heap.size := e; omega
 have hE012 := hE04.t hE412
 have hB12n := hB4.ext hE412
 have z12 := hF1012.size
 refine goL ?_
 refine xlda (t := 67) hB12n rfl rfl ?_
 refine goL ?_
 refine xcallE rfl rfl (ncopy_does w12 x (hx.ext hE012) hL) (fun r w13 h13 => ?_)
 obtain ⟨⟨n2, va2, vc2, vd2⟩, rfl, hO13, hxn2, hE13⟩ := h13
 dsimp only at hxn2
 subst hxn2
 have hO13d : Ow pcC 2 w13 w12.heap.size 134 vd2 x.n.data := hO13.d
 repeat' (first | refine xfld8 rfl rfl ?_ | refine go1L ?_ | fail)
 refine xbd (parts := [(0, .tmp 82), (1, .tmp 83)]) (cells := (pcC ⟨a, s⟩).toArray) (vs := [(0, .int .i64 (a : Int)), (1, .string (su s))]) rfl (by kernel_rfl) ?_
 refine goL ?_
 refine xbz1 sl_pcs rfl rfl (by decide) (by decide) (fun w14 hB14 hE14 hs14 => ?_)
 refine xapz (B := w12.heap.size) (news := pcC ⟨a, s⟩) sl_pcs rfl (by decide) rfl (hO13d.ext hE14) rfl (blk_row hB14 (by decide) rfl) rfl (fun u hu => pcC_one [_] u (by simpa using hu)) (by unfold maxLen; omega) (by omega) (by have := hE13.size; have := hE14.size; omega) (fun v15 w15 hO15 hF15 _ => ?_)
 obtain ⟨P, hP⟩ : ∃ P, P = x.n.data ++ [(⟨(a : Int), s⟩ : Pce)] := ⟨_, rfl⟩
 have hPl : P.length ≤ 17 := by rw [hP, List.length_append, List.length_singleton]; omega
 have hO15' : Ow pcC 2 w15 w12.heap.size 134 v15 P := by rw [hP]; exact Ow.ext1 (l' := [(⟨(a : Int), s⟩ : Pce)]) (by simpa using hO15)
 rw [← hP] at hro
 have hE1215 : Ext w12 w15 := Ext.te (hE13.t hE14) hF15 fun j hj e => by have := (hO13d.blk e).1; omega
 have z15 := hE1215.size
 have hO12m : Ow exC 1 w12 w9.heap.size 156 (.slice A10 (exsP J).length c10) (exsP J) := hO10.fr hF1012 fun b hb e => by have := (hO10.blk hb).1; have : b = w4.heap.size := e; omega
 have hO15m := hO12m.ext hE1215
 have hB15 := hB12'.ext hE1215
 obtain ⟨_, _, em, _, _, hA15⟩ := hO15m.rw.op exC_len
 injection em with em1 _ em2
 subst em1; subst em2
 obtain ⟨AP, cP, rfl, hcP, hcP', hAP⟩ := hO15'.rw.op pcC_len
 have hmb : ∀ b o, A10 = some ⟨b, o, none⟩ → b ≠ w4.heap.size := fun b o e => by subst e; have := (hO12m.blk (b := b) rfl).1; omega
 have hPb : ∀ b o, AP = some ⟨b, o, none⟩ → b ≠ w4.heap.size := fun b o e => by subst e; have := (hO15'.blk (b := b) rfl).1; omega
 clear hO10 hA10 hO12m hO15 hF15 hB14 hE14 hO13 hO13d hB11 hF11 hB12 hF12 hB10 hB10n hB6n hB6 hB5 k7
 refine goL ?_
 refine tloop (α := Nat × Value) (fun y => [(6, .pointer (some ⟨w1.heap.size, 0, none⟩)), (9, .pointer (some ⟨w4.heap.size, 0, none⟩)), (14, .slice AP P.length cP), (87, .slice A10 (exsP J).length c10), (88, .int .i64 ((exsP J).length : Int)), (89, .int .i64 (y.1 : Int))]) (WrS w15 w4.heap.size fin va1 vc1 J) (fun y => J.length - y.1) (0, .slice none 0 0) (sub ⟨rfl, rfl, rfl, rfl, rfl, rfl⟩) ⟨Nat.zero_le _, hB15, Ow.nil _ _ _, Fr.refl _ _⟩ ?_
 rintro ⟨i, vd⟩ w16 ⟨hi, hB16, hO16, hF16⟩
 dsimp only at hi hB16 hO16 hF16 ⊢
 have z16 := hF16.size
 by_cases hlt : i < J.length
 ·obtain ⟨b, o, p, rfl, _, hp', hdr, hcell⟩ := hA15.at_ (i := i) (by omega)
  obtain ⟨q, hq, rfl⟩ := exsP_get hp'
  have hqJ := wM q (List.mem_of_getElem? hq)
  have hqr := hro q (List.mem_of_getElem? hq)
  have hqb := bytesP_take hq
  have hle := bytesP_le J (i + 1)
  have hql := List.length_pos_iff.2 hqJ.1
  have hqe : endP q = q.pos + (q.data.length : Int) := rfl
  have hqp : ((q.pos.toNat : Nat) : Int) = q.pos := by omega
  have k0 := hF16.cell (hcell 0 _ rfl) (hmb b o rfl)
  rw [Nat.mul_one, Nat.add_zero] at k0
  refine gz23 ?_
  refine xcallE rfl rfl (exat_does w16 q.pos.toNat q.data.length (by omega)) (fun r w1 h1 => ?_)
  obtain ⟨rfl, rfl⟩ := h1
  rw [hqp]
  refine goL ?_
  refine xcallE rfl rfl (exlong_does w16 q.pos.toNat q.data.length (by omega)) (fun r w1 h1 => ?_)
  obtain ⟨rfl, rfl⟩ := h1
  refine goL ?_
  refine xmk sl_u8 rfl rfl rfl (by omega) (by omega) (by omega) (fun w17 hB17 hE17 hs17 => ?_)
  rw [Int.toNat_natCast] at hB17 ⊢
  rw [byC_zero] at hB17
  refine goL ?_
  refine tloop (α := Nat) (fun j => [(6, .pointer (some ⟨w1.heap.size, 0, none⟩)), (9, .pointer (some ⟨w4.heap.size, 0, none⟩)), (14, .slice AP P.length cP), (16, .complex .f64 (fw q.pos.toNat) (fw q.data.length)), (17, .int .i64 q.pos), (18, .slice (some ⟨w16.heap.size, 0, none⟩) q.data.length q.data.length), (87, .slice (some ⟨b, o, none⟩) (exsP J).length c10), (88, .int .i64 ((exsP J).length : Int)), (89, .int .i64 (i : Int)), (98, .slice AP P.length cP), (99, .int .i64 (P.length : Int)), (100, .int .i64 (j : Int))]) (WrC w17 w16.heap.size q.data.length q.pos (endP q) P) (fun j => P.length - j) 0 (sub ⟨rfl, rfl, rfl, rfl, rfl, rfl, rfl, rfl, rfl, rfl, rfl, rfl⟩) ⟨Nat.zero_le _, hB17, Fr.refl _ _⟩ ?_
  rintro j w18 ⟨hj, hB18, hF18⟩
  have z18 := hF18.size
  obtain ⟨room, hroom⟩ : ∃ room, room = roomF q.pos (endP q) (P.take j) (List.replicate q.data.length 0) := ⟨_, rfl⟩
  have hrl : room.length = q.data.length := by rw [hroom, roomF_len _ _ _ _ (by rw [List.length_replicate]; omega), List.length_replicate]
  rw [← hroom] at hB18
  have hE1618 : Ext w16 w18 := hE17.trans hF18 fun j hj e => by have : j = w16.heap.size := e; omega
  by_cases hjl : j < P.length
  ·obtain ⟨bp, op, p, rfl, hbp, hpj, hdrp, hcp⟩ := hAP.at_ (i := j) hjl
   have hpc : ∀ k u, (pcC p)[k]? = some u → w18.cell? ⟨bp, op + j * 2 + k, none⟩ = some u := fun k u hu => hE1618.cell (hF16.cell (hcp k u hu) (hPb bp op rfl))
   repeat' (first | refine xizq j (op + j * 2) rfl rfl rfl rfl rfl hjl ?_ | refine go1L ?_ | fail)
   refine xldz (cs := pcC p) rfl rfl hpc ?_
   refine xalloc (z := .agg #[.int .i64 0, .string ⟨#[]⟩]) (by kernel_rfl) (fun w19 hB19 hE19 hs19 => ?_)
   refine xsta (cs := (pcC p).toArray) hB19 rfl rfl rfl rfl (pcC_all p) (fun w20 hB20 hF20 => ?_)
   have hE20 : Ext w18 w20 := Ext.te hE19 hF20 fun j hj e => by have e' : j = w18.heap.size := e; omega
   refine goL ?_
   refine xbs (vs := exC (q.pos.toNat, q.data.length)) sl_cpl rfl rfl (by decide) (by decide) (fun u hu => by rw [List.mem_singleton.1 hu]; rfl) (fun w21 hB21 hE21 hs21 => ?_)
   have hB21p := hB20.ext hE21
   have q0 : w21.cell? ⟨w18.heap.size, 0, none⟩ = some (.int .i64 p.pos) := hB21p.cell 0
   refine goL ?_
   refine xcallE rfl rfl (has_does w21 _ (q.pos.toNat, q.data.length) p.pos (blk_row hB21 (by decide) rfl) (by dsimp only; omega) (by dsimp only; omega)) (fun r w22 h22 => ?_)
   obtain ⟨rfl, hE22⟩ := h22
   dsimp only
   rw [hqp, ← hqe]
   have hE1822 : Ext w18 w22 := (hE20.t hE21).t hE22
   by_cases hin : q.pos ≤ p.pos ∧ p.pos < endP q
   ·exact y5
   ·exact y30
  ·obtain rfl : j = P.length := by omega
   rw [List.take_length] at hroom
   have hrq : room = q.data := by rw [hroom, hqr]
   have hB18g := hB16.ext hE1618
   have k8 : w18.cell? ⟨w4.heap.size, 8, none⟩ = some vd := hB18g.cell 8
   have hO18 := hO16.ext hE1618
   have hzi : (J.take i).length = i := by rw [List.length_take]; omega
   rw [hrq] at hB18
   have hqm : q.data.length ≤ maxLen := by unfold maxLen; omega
   refine goL ?_
   refine xcbu hB18 rfl rfl hqm ?_
   refine xbd (parts := [(0, .tmp 121), (1, .tmp 123)]) (cells := (pcC q).toArray) (vs := [(0, .int .i64 q.pos), (1, .string (su q.data))]) rfl (by kernel_rfl) ?_
   refine goL ?_
   refine xbz1 sl_pcs rfl rfl (by decide) (by decide) (fun w19 hB19 hE19 hs19 => ?_)
   have hE1619 := hE1618.t hE19
   refine xapz (B := w15.heap.size) (news := pcC q) sl_pcs rfl (by decide) rfl (hO18.ext hE19) rfl (blk_row hB19 (by decide) rfl) rfl (fun u hu => pcC_one [_] u (by simpa using hu)) (by unfold maxLen; omega) (by omega) (by have := hE1619.size; omega) (fun v20 w20 hO20 hF20 _ => ?_)
   have hO20' : Ow pcC 2 w20 w15.heap.size 134 v20 (J.take (i + 1)) := by
    rw [List.take_add_one, hq]
    exact Ow.ext1 (l' := [q]) (by simpa using hO20)
   exact y7
 ·obtain rfl : i = J.length := by omega
  rw [List.take_length] at hO16
  have hne : ∀ b, b < w4.heap.size → ¬ b = w4.heap.size := fun b hb e => by omega
  have hOx : NdO w16 w3.heap.size ⟨fin, va1, vc1, vd⟩ := by
   refine ⟨?_, ?_, ?_⟩
   ·have h := ((hO4.a.ext hE412).ext hE1215).fr hF16 fun b hb => hne b (hO4.a.blk hb).2
    rw [hfin]; exact h
   ·have h := ((hO4.c.ext hE412).ext hE1215).fr hF16 fun b hb => hne b (hO4.c.blk hb).2
    rw [hfin]; exact h
   ·have h : Ow pcC 2 w16 w15.heap.size 134 vd J := hO16
    rw [hfin]; exact h.mono (by omega)
  exact y9
end
end Go.Proofs.YtiebbecknfpdeaaGreatDoor.Eng
