/-
  The reference's PartOf.
-/
import Derived.Test.YtleaanenpimanaaGreatDoorWy
import Derived.Test.YtleaanenpimanaaGreatDoorWz
namespace Go.Proofs.YtleaanenpimanaaGreatDoor
open Go.RowKit
namespace Eng
attribute [local irreducible] xs T

theorem Fr.ee {a b : World} (h : Fr noneB a b) : Ext a b := h
structure PoI (t : Tre) (tops : List Str) (gp B : Nat) (vn : Value) (w0 : World) (x : Nat × Value) (w : World) : Prop where
  ext : Ext w0 w
  le : x.1 ≤ t.es.length
  part : Blk w gp 25 #[x.2, vn]
  own : Ow enC 2 w B 49 x.2 ((t.es.take x.1).filter fun e => wantP tops e.path)
  sz : B ≤ w.heap.size

set_option maxRecDepth 20000 in
set_option maxHeartbeats 8000000 in
theorem rpart2_does (w : World) (ve vn vt : Value) (nvs : List NdV) (t : Tre) (tops : List Str) (hv : TrV w ve vn nvs t) (ht : Rw stC w vt tops) (hn : TsOK t) (hns : t.ns.length ≤ 1000000) (htl : ∀ q ∈ tops, q.length ≤ 1000000) : Does Tryz.prog 17 #[.agg #[ve, vn], vt] w (PartR t tops w) := by
  refine does2 Tryz.func17 rfl (by kernel_rfl) ?_
  have hN : ∀ {a b c : World} {g : Nat}, Ext a b → Fr (· = g) b c → a.heap.size ≤ g → Ext a c := fun h1 h2 hg => h1.trans h2 fun j hj e => absurd hj (by omega)
  have hv0 := hv
  obtain ⟨A, c, rfl, hc1, hc2, hA⟩ := hv.e.op enC_len
  obtain ⟨A', c', rfl, hc1', hc2', hA'⟩ := hv.n.op ndC_len
  obtain ⟨AT, cT, rfl, hcT1, hcT2, hAT⟩ := ht.op stC_len
  have hlen := hv0.len
  refine goL ?_
  refine xbox rfl (fun w1 hB1 hE1 hs1 => ?_)
  have hT1 : Blk w1 w.heap.size 25 #[.slice A t.es.length c, .slice A' nvs.length c'] := hB1
  refine goL ?_
  refine xalloc (z := .agg #[.slice none 0 0, .slice none 0 0]) (by kernel_rfl) (fun w2 hB2 hE2 hs2 => ?_)
  have hR2 : Blk w2 w1.heap.size 25 #[.slice none 0 0, .slice none 0 0] := hB2
  have hE02 : Ext w w2 := hE1.t hE2
  have hT2 := hT1.ext hE2
  refine goL ?_
  refine xlda (t := 25) hT2 rfl rfl ?_
  refine goL ?_
  refine xcallE rfl rfl (rtmay_does w2 _ _ nvs t (hv0.ext hE02) hn hns) (fun r w3 h3 => ?_)
  obtain ⟨rfl, hE3⟩ := h3
  have hE03 := hE02.t hE3
  have hR3 := hR2.ext hE3
  have hT3 := hT2.ext hE3
  cases hm : mayT t with
  | false =>
    refine goL ?_
    refine xbd (parts := []) (cells := #[.slice none 0 0, .slice none 0 0]) rfl (by kernel_rfl) ?_
    refine goL ?_
    refine xsta hR3 rfl rfl (by kernel_rfl) rfl (one_cells (l := [.slice none 0 0, .slice none 0 0]) rfl) (fun w4 hB4 hF4 => ?_)
    refine goL ?_
    exact tretc2 rfl rfl rfl hB4 (by kernel_rfl) ⟨hN hE03 hF4 (by omega), by rw [part_may hm]⟩
  | true =>
  have hg := may_good hm
  have h100 : t.es.length ≤ 100 := hg.len
  refine goL ?_
  refine tloop (α := Nat) (fun i => [(1, .slice AT tops.length cT), (2, .pointer (some ⟨w.heap.size, 0, none⟩)), (4, .pointer (some ⟨w1.heap.size, 0, none⟩)), (6, .int .i64 (i : Int))]) (fun i w' => Ext w3 w' ∧ i ≤ tops.length ∧ ∀ q ∈ tops.take i, ∃ e ∈ t.es, e.path = q) (fun i => tops.length - i) 0 (sub ⟨rfl, rfl, rfl, rfl⟩) ⟨Fr.refl _ _, Nat.zero_le _, fun q hq => by rw [List.take_zero] at hq; cases hq⟩ ?_
  rintro i w4 ⟨hE4, hi, hfnd⟩
  have hE04 := hE03.t hE4
  by_cases hlt : i < tops.length
  · obtain ⟨b, o, q, rfl, _, hq, _, hcell⟩ := hAT.at_ hlt
    have cq : w4.drew.cell? ⟨b, o + i, none⟩ = some (.string (su q)) := by
      have := hE04.ed.cell (hcell 0 _ rfl)
      rwa [Nat.mul_one, Nat.add_zero] at this
    have hT4d : Blk w4.drew w.heap.size 25 #[.slice A t.es.length c, .slice A' nvs.length c'] := hT3.ext hE4.ed
    repeat' (first | refine xlda (t := 25) hT4d rfl rfl ?_ | refine xisq i (o + i) rfl rfl rfl rfl rfl hlt ?_ | refine go1L ?_ | fail)
    refine xcallE rfl rfl (rfind_does w4.drew _ _ t.es q (hv0.ext hE04.ed).e) (fun r w5 h5 => ?_)
    obtain ⟨rfl, hE5⟩ := h5
    have hE45 : Ext w4 w5 := (Fr.drew _ _).t hE5
    cases hf : findT t.es q with
    | none =>
      simp only [Option.getD_none, Option.isSome_none]
      have hno : partT t tops = (none, 7) := part_none hm (List.mem_of_getElem? hq) (findT_none hf)
      refine goL ?_
      refine xbd (parts := []) (cells := #[.slice none 0 0, .slice none 0 0]) rfl (by kernel_rfl) ?_
      refine goL ?_
      refine xsta (hR3.ext (hE4.t hE45)) rfl rfl (by kernel_rfl) rfl (one_cells (l := [.slice none 0 0, .slice none 0 0]) rfl) (fun w6 hB6 hF6 => ?_)
      refine goL ?_
      exact tretc2 rfl rfl rfl hB6 (by kernel_rfl) ⟨hN (hE04.t hE45) hF6 (by omega), by rw [hno]⟩
    | some k =>
      simp only [Option.getD_some, Option.isSome_some]
      refine goL ?_
      refine tfin ⟨i + 1, sub ⟨rfl, rfl, rfl, rfl⟩, ⟨hE4.t hE45, hlt, fun q' hq' => ?_⟩, (by show tops.length - (i + 1) < tops.length - i; omega)⟩
      rw [List.take_add_one, hq] at hq'
      rcases List.mem_append.1 hq' with hq' | hq'
      · exact hfnd q' hq'
      · have e : q' = q := by simpa using hq'
        obtain ⟨e', he', hp, _⟩ := findT_mem hf
        exact ⟨e', he', by rw [e]; exact hp⟩
  obtain rfl : i = tops.length := by omega
  rw [List.take_length] at hfnd
  have k1 : w4.cell? ⟨w.heap.size, 1, none⟩ = some (.slice A' nvs.length c') := (hT3.ext hE4).cell 1
  refine goL ?_
  refine xbd (parts := [(1, .tmp 37)]) (cells := #[.slice none 0 0, .slice A' nvs.length c']) rfl (by first | rfl | kernel_rfl) ?_
  refine xalloc (z := .agg #[.slice none 0 0, .slice none 0 0]) (by kernel_rfl) (fun w5 hB5 hE5 hs5 => ?_)
  refine xsta hB5 rfl rfl (by kernel_rfl) rfl (one_cells (l := [.slice none 0 0, .slice A' nvs.length c']) rfl) (fun w6 hB6 hF6 => ?_)
  have hE46 : Ext w4 w6 := hN hE5 hF6 (Nat.le_refl _)
  obtain ⟨gp, hgp⟩ : ∃ gp, gp = w4.heap.size := ⟨_, rfl⟩
  rw [← hgp] at hB6 ⊢
  have hgpl : gp < w6.heap.size := Blk.lt hB6
  refine goL ?_
  refine tloop (α := Nat × Value) (fun x => [(1, .slice AT tops.length cT), (2, .pointer (some ⟨w.heap.size, 0, none⟩)), (4, .pointer (some ⟨w1.heap.size, 0, none⟩)), (9, .pointer (some ⟨gp, 0, none⟩)), (10, .int .i64 (x.1 : Int))]) (PoI t tops gp w6.heap.size (.slice A' nvs.length c') w4) (fun x => t.es.length - x.1) (0, .slice none 0 0) (sub ⟨rfl, rfl, rfl, rfl, rfl⟩) ⟨hE46, Nat.zero_le _, hB6, Ow.nil _ _ _, Nat.le_refl _⟩ ?_
  rintro ⟨i, vp⟩ w7 ⟨hE7, hi', hpart, hown, hsz⟩
  dsimp only at hi' hpart hown hsz ⊢
  have hE07 := hE04.t hE7
  have hT7 := hT3.ext (hE4.t hE7)
  obtain ⟨Ap, cp, rfl, _, _⟩ := hown.form
  have hfl := List.length_filter_le (fun e => wantP tops e.path) (t.es.take i)
  rw [List.length_take] at hfl
  have m0 : w7.cell? ⟨w.heap.size, 0, none⟩ = some (.slice A t.es.length c) := hT7.cell 0
  by_cases hlt : i < t.es.length
  · obtain ⟨b, o, e, rfl, _, he, _, hcell⟩ := hA.at_ hlt
    have hem := List.mem_of_getElem? he
    have hpl := hn.p e hem
    have ep : w7.cell? ⟨b, o + i * 2 + 0, none⟩ = some (.string (su e.path)) := hE07.ee.cell (hcell 0 _ rfl)
    have htake : (t.es.take (i + 1)).filter (fun e => wantP tops e.path) = (t.es.take i).filter (fun e => wantP tops e.path) ++ if wantP tops e.path then [e] else [] := by
      rw [List.take_add_one, he, List.filter_append]
      congr 1
      by_cases hw : wantP tops e.path = true <;> simp [hw]
    obtain ⟨bb, hbb⟩ : ∃ bb : Nat → Bool, bb = fun k => decide (e.path = []) || (tops.take k).any fun q => underP e.path q || underP q e.path := ⟨_, rfl⟩
    have hb0 : bb 0 = decide (e.path = []) := by rw [hbb]; simp
    have hbl : bb tops.length = wantP tops e.path := by rw [hbb]; simp only [List.take_length]; rfl
    repeat' (first | refine xizq i (o + i * 2) rfl rfl rfl rfl rfl hlt ?_ | refine xucmp (op := .eql) (a := e.path) (b := []) rfl rfl rfl ?_ | refine go1L ?_ | fail)
    refine tloop (α := Nat) (fun k => [(1, .slice AT tops.length cT), (2, .pointer (some ⟨w.heap.size, 0, none⟩)), (4, .pointer (some ⟨w1.heap.size, 0, none⟩)), (9, .pointer (some ⟨gp, 0, none⟩)), (10, .int .i64 (i : Int)), (11, .string (su e.path)), (12, .bool (bb k)), (13, .int .i64 (k : Int))]) (fun k w' => Ext w7 w' ∧ k ≤ tops.length) (fun k => tops.length - k) 0 (sub ⟨rfl, rfl, rfl, rfl, rfl, rfl, by rw [hb0]; rfl, rfl⟩) ⟨Fr.refl _ _, Nat.zero_le _⟩ ?_
    rintro k w8 ⟨hE8, hk⟩
    have hE08 := hE07.t hE8
    by_cases hkl : k < tops.length
    · obtain ⟨bt, ot, q, rfl, _, hq, _, hcq⟩ := hAT.at_ hkl
      have hql := htl q (List.mem_of_getElem? hq)
      have hbk : bb (k + 1) = (bb k || (underP e.path q || underP q e.path)) := by
        rw [hbb]
        dsimp only
        rw [List.take_add_one, hq, Option.toList_some, List.any_append]
        simp [Bool.or_assoc]
      have cq : ∀ w', Ext w w' → w'.cell? ⟨bt, ot + k, none⟩ = some (.string (su q)) := fun w' hE => by
        have := hE.cell (hcq 0 _ rfl)
        rwa [Nat.mul_one, Nat.add_zero] at this
      have cq8 := cq w8 hE08
      cases hbv : bb k with
      | true =>
        rw [hbv, Bool.true_or] at hbk
        refine goL ?_
        exact tfin ⟨k + 1, sub ⟨rfl, rfl, rfl, rfl, rfl, rfl, by rw [hbk]; rfl, rfl⟩, ⟨hE8, hkl⟩, (by show tops.length - (k + 1) < tops.length - k; omega)⟩
      | false =>
        rw [hbv, Bool.false_or] at hbk
        repeat' (first | refine xisq k (ot + k) rfl rfl rfl rfl rfl hkl ?_ | refine go1L ?_ | fail)
        refine xcallE rfl rfl (runder_does w8 e.path q hpl hql) (fun r w9 h9 => ?_)
        obtain ⟨rfl, hE9⟩ := h9
        cases hu : underP e.path q with
        | true =>
          rw [hu, Bool.true_or] at hbk
          refine goL ?_
          exact tfin ⟨k + 1, sub ⟨rfl, rfl, rfl, rfl, rfl, rfl, by rw [hbk]; rfl, rfl⟩, ⟨hE8.t hE9, hkl⟩, (by show tops.length - (k + 1) < tops.length - k; omega)⟩
        | false =>
          rw [hu, Bool.false_or] at hbk
          have cq9 := cq w9 (hE08.t hE9)
          repeat' (first | refine xisq k (ot + k) rfl rfl rfl rfl rfl hkl ?_ | refine go1L ?_ | fail)
          refine xcallE rfl rfl (runder_does w9 q e.path hql hpl) (fun r w10 h10 => ?_)
          obtain ⟨rfl, hE10⟩ := h10
          refine goL ?_
          exact tfin ⟨k + 1, sub ⟨rfl, rfl, rfl, rfl, rfl, rfl, by rw [hbk]; rfl, rfl⟩, ⟨hE8.t (hE9.t hE10), hkl⟩, (by show tops.length - (k + 1) < tops.length - k; omega)⟩
    · obtain rfl : k = tops.length := by omega
      rw [hbl]
      have hE48 := hE7.t hE8
      cases hw : wantP tops e.path with
      | false =>
        refine goL ?_
        exact tfin ⟨(i + 1, _), sub ⟨rfl, rfl, rfl, rfl, rfl⟩, ⟨hE48, hlt, hpart.ext hE8, by dsimp only; rw [htake, hw]; simpa using hown.ext hE8, Nat.le_trans hsz hE8.size⟩, (by show t.es.length - (i + 1) < t.es.length - i; omega)⟩
      | true =>
        have c79 : w8.drew.cell? ⟨gp, 0, none⟩ = some (.slice Ap ((t.es.take i).filter fun e => wantP tops e.path).length cp) := (hpart.ext hE8).cell 0
        have m08 : w8.drew.cell? ⟨w.heap.size, 0, none⟩ = some (.slice (some ⟨b, o, none⟩) t.es.length c) := hE8.ed.cell m0
        have hec : ∀ j u, (enC e)[j]? = some u → w8.drew.cell? ⟨b, o + i * 2 + j, none⟩ = some u := fun j u hu => hE08.ed.cell (hcell j u hu)
        refine goL ?_
        refine tdrawC 8 [79] (fun w' => w'.cell? ⟨gp, 0, none⟩ = some (.slice Ap ((t.es.take i).filter fun e => wantP tops e.path).length cp)) (by kernel_rfl) (by decide +kernel) c79 ?_
        repeat' (first | refine xldh rfl rfl (fun _ h => h) ?_ | refine xizq i (o + i * 2) rfl rfl rfl rfl rfl hlt ?_ | refine go1L ?_ | fail)
        refine xldz (cs := enC e) rfl rfl hec ?_
        refine xbz1 sl_ents rfl rfl (by decide) (by decide) (fun w9 hB9 hE9 hs9 => ?_) (fun w' he => he.cell c79)
        refine xnil ?_
        have hE89 : Ext w8 w9 := (Fr.drew _ _).t hE9
        have hE79 := hE8.t hE89
        have z9 := hE79.size
        refine xapz (B := w6.heap.size) (news := enC e) sl_ents rfl (by decide) rfl (hown.ext hE79) rfl (blk_row hB9 (by decide) rfl) rfl (fun u hu => enC_one [e] u (by simpa using hu)) (by unfold maxLen; omega) (by omega) (by omega) (fun v10 w10 hO10 hF10 _ => ?_)
        have hO10' : Ow enC 2 w10 w6.heap.size 49 v10 ((t.es.take i).filter (fun e => wantP tops e.path) ++ [e]) := Ow.ext1 (l' := [e]) (by simpa using hO10)
        obtain ⟨A10, c10, rfl, _, _⟩ := hO10'.form
        have hne : ∀ x, x < w6.heap.size → ¬ (Value.slice Ap ((t.es.take i).filter fun e => wantP tops e.path).length cp).ownBlock = some x := fun x hx h => by have := (hown.blk h).1; omega
        have hp10 := (hpart.ext hE79).fr hF10 (hne gp hgpl)
        refine goL ?_
        refine xstb hp10 rfl rfl (by kernel_rfl) rfl rfl (fun w11 hB11 hF11 => ?_)
        refine goL ?_
        have z46 := hE46.size
        have hE410 : Ext w4 w10 := (hE7.t hE79).trans hF10 fun j hj h => absurd h (hne j (by omega))
        exact tfin ⟨(i + 1, _), sub ⟨rfl, rfl, rfl, rfl, rfl⟩, ⟨hN hE410 hF11 (by omega), hlt, hB11, by dsimp only; rw [htake, hw]; simpa using hO10'.fr hF11 (fun b hb => by have := (hO10'.blk hb).1; show ¬ b = gp; omega), (by have := hF10.size; have := hF11.size; omega)⟩, (by show t.es.length - (i + 1) < t.es.length - i; omega)⟩
  · obtain rfl : i = t.es.length := by omega
    rw [List.take_length] at hown hpart
    have hp := part_norm hm hfnd
    have htr : TrV w7 (.slice Ap (t.es.filter fun e => wantP tops e.path).length cp) (.slice A' nvs.length c') nvs ⟨t.es.filter (fun e => wantP tops e.path), t.ns⟩ := ⟨hown.rw, (hv0.n).ext hE07, fun y hy => (hv0.i y hy).ext hE07, hv0.m⟩
    have hts : TsOK ⟨t.es.filter (fun e => wantP tops e.path), t.ns⟩ := ⟨hn.b, hn.g, fun e he => hn.p e (List.mem_filter.1 he).1⟩
    have hfl2 := List.length_filter_le (fun e : En => wantP tops e.path) t.es
    refine goL ?_
    refine xlda (t := 25) hpart rfl rfl ?_
    refine goL ?_
    refine xcallE rfl rfl (rnorm_does w7 _ _ nvs ⟨t.es.filter (fun e => wantP tops e.path), t.ns⟩ htr hts (by dsimp only; omega) hns) (fun r w8 h8 => ?_)
    obtain ⟨hE8, h8⟩ := h8
    have hR8 := hR3.ext (hE4.t (hE7.t hE8))
    unfold PartR
    rw [hp]
    cases hno : normT ⟨t.es.filter (fun e => wantP tops e.path), t.ns⟩ with
    | none =>
      rw [hno] at h8
      dsimp only at h8
      subst h8
      refine goL ?_
      refine xsta hR8 rfl rfl (by kernel_rfl) rfl (one_cells (l := [.slice none 0 0, .slice none 0 0]) rfl) (fun w9 hB9 hF9 => ?_)
      refine goL ?_
      exact tretc2 rfl rfl rfl hB9 (by kernel_rfl) ⟨hN (hE07.t hE8) hF9 (by omega), rfl⟩
    | some u =>
      rw [hno] at h8
      dsimp only at h8
      obtain ⟨ve', vn', l', rfl, hT⟩ := h8
      have hT' := hT
      obtain ⟨A1, c1, rfl, _, _, _⟩ := hT.e.op enC_len
      obtain ⟨N1, d1, rfl, _, _, _⟩ := hT.n.op ndC_len
      refine goL ?_
      refine xsta hR8 rfl rfl (by kernel_rfl) rfl (one_cells (l := [.slice A1 u.es.length c1, .slice N1 l'.length d1]) rfl) (fun w9 hB9 hF9 => ?_)
      refine goL ?_
      exact tretc2 rfl rfl rfl hB9 (by kernel_rfl) ⟨hN (hE07.t hE8) hF9 (by omega), ⟨_, _, l', rfl, hT'.slc hR8 (two_slc _ _ _ _ _ _) hF9⟩⟩
end Eng
end Go.Proofs.YtleaanenpimanaaGreatDoor
