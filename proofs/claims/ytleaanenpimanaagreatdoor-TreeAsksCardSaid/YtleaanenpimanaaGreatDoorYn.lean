/-
  TreeAsks: the law's own walk.
-/
import Derived.Test.YtleaanenpimanaaGreatDoorYl
import Derived.Test.YtleaanenpimanaaGreatDoorYf
import Derived.Test.YtleaanenpimanaaGreatDoorWq
import Derived.Test.YtleaanenpimanaaGreatDoorEngQ
namespace Go.Proofs.YtleaanenpimanaaGreatDoor
open Go.RowKit
namespace Eng
attribute [local irreducible] xs T

/-- Some trees in blocks. -/
def TrB (l : List (Nat × Value × Value)) (w : World) : Prop := ∀ x ∈ l, Blk w x.1 25 #[x.2.1, x.2.2]
theorem TrB.ext {l : List (Nat × Value × Value)} {w w' : World} (h : TrB l w) (hE : Ext w w') : TrB l w' := fun x hx => Blk.ext (h x hx) hE
theorem TrB.ld {l : List (Nat × Value × Value)} {w : World} {g : Nat} {a b : Value} (h : TrB l w) (hm : (g, a, b) ∈ l) (j : Nat) (u : Value) (hu : [a, b][j]? = some u) : w.cell? ⟨g, 0 + j, none⟩ = some u := by
  rw [Nat.zero_add, Blk.cell (h _ hm) j]
  simpa using hu
def treZ : Tre := ⟨[], []⟩
theorem trZ (w : World) : TrV w (.slice none 0 0) (.slice none 0 0) [] treZ := ⟨Rw.nil w 0 (Nat.zero_le _), Rw.nil w 0 (Nat.zero_le _), fun x hx => (by cases hx), rfl⟩
theorem normR_any {t : Tre} {w w' : World} {r : Value} (h : NormR t w r w') : ∃ ve vn nvs tt e, tt = (normT t).getD treZ ∧ e = (if (normT t).isSome then (0 : Int) else 1) ∧ r = .tuple #[.agg #[ve, vn], .int .i64 e] ∧ TrV w' ve vn nvs tt := by
  obtain ⟨_, h⟩ := h
  cases hn : normT t with
  | none => rw [hn] at h; exact ⟨_, _, [], treZ, 1, rfl, rfl, h, trZ _⟩
  | some x => rw [hn] at h; obtain ⟨ve, vn, nvs, h1, h2⟩ := h; exact ⟨ve, vn, nvs, x, 0, rfl, rfl, h1, h2⟩
theorem partR_any {t : Tre} {tops : List Str} {w w' : World} {r : Value} (h : PartR t tops w r w') : ∃ ve vn nvs tt e, tt = (partT t tops).1.getD treZ ∧ e = (partT t tops).2 ∧ r = .tuple #[.agg #[ve, vn], .int .i64 e] ∧ TrV w' ve vn nvs tt := by
  obtain ⟨_, h⟩ := h
  rcases hn : partT t tops with ⟨o, e⟩
  rw [hn] at h
  cases o with
  | none => exact ⟨_, _, [], treZ, e, rfl, rfl, h, trZ _⟩
  | some x => obtain ⟨ve, vn, nvs, h1, h2⟩ := h; exact ⟨ve, vn, nvs, x, e, rfl, rfl, h1, h2⟩
theorem alikeT_self (a : Tre) : alikeT a a = true := by simp [alikeT]

set_option maxRecDepth 20000 in
set_option maxHeartbeats 16000000 in
theorem treeAsks_core (w : World) (ve vn ve' vn' vt : Value) (l l' : List NdV) (t u : Tre) (p : Str) (tops : List Str) (ht : TrV w ve vn l t) (hu : TrV w ve' vn' l' u) (hq : Rw stC w vt tops) : Does Tryz.prog 3 #[.agg #[ve, vn], .agg #[ve', vn'], .string (su p), vt] w fun r w' => r = .bool true ∧ Ext w w' := by
  refine does4 Tryz.func3 rfl (by kernel_rfl) ?_
  have hN : ∀ {a b c : World} {g : Nat}, Ext a b → Fr (· = g) b c → a.heap.size ≤ g → Ext a c := fun h1 h2 hg => h1.trans h2 fun j hj e => absurd hj (by omega)
  obtain ⟨AT, cT, rfl, hcT1, hcT2, hAT⟩ := hq.op stC_len
  refine goL ?_
  refine xbox rfl (fun w1 hB1 hE1 hs1 => ?_)
  have hB1' : Blk w1 w.heap.size 25 #[ve, vn] := hB1
  refine goL ?_
  refine xbox rfl (fun w2 hB2 hE2 hs2 => ?_)
  have hB2' : Blk w2 w1.heap.size 25 #[ve', vn'] := hB2
  have hE02 : Ext w w2 := hE1.t hE2
  obtain ⟨g4, hg4⟩ : ∃ g, g = w.heap.size := ⟨_, rfl⟩
  obtain ⟨g5, hg5⟩ : ∃ g, g = w1.heap.size := ⟨_, rfl⟩
  have hB12 := hB1'.ext hE2
  rw [← hg4] at hB12 ⊢
  rw [← hg5] at hB2' ⊢
  refine goL ?_
  refine xlda (t := 25) hB12 rfl rfl ?_
  refine goL ?_
  refine xcallE rfl rfl (few6_does w2 ve vn l t (ht.ext hE02)) (fun r w3 h3 => ?_)
  obtain ⟨rfl, hE3⟩ := h3
  have hE03 := hE02.t hE3
  cases hf : fewT t with
  | false =>
    refine goL ?_
    refine xcallE rfl rfl (told6_does w3) (fun r w4 h4 => ?_)
    obtain ⟨rfl, hE4⟩ := h4
    refine goL ?_
    exact tret1 rfl rfl ⟨rfl, hE03.t hE4⟩
  | true =>
  obtain ⟨ok1, ok2, ok3, ok4, ok5⟩ := few_ok hf
  refine goL ?_
  refine xlda (t := 25) (hB2'.ext hE3) rfl rfl ?_
  refine goL ?_
  refine xcallE rfl rfl (few6_does w3 ve' vn' l' u (hu.ext hE03)) (fun r w4 h4 => ?_)
  obtain ⟨rfl, hE4⟩ := h4
  have hE04 := hE03.t hE4
  cases hfu : fewT u with
  | false =>
    refine goL ?_
    refine xcallE rfl rfl (told6_does w4) (fun r w5 h5 => ?_)
    obtain ⟨rfl, hE5⟩ := h5
    refine goL ?_
    exact tret1 rfl rfl ⟨rfl, hE04.t hE5⟩
  | true =>
  obtain ⟨uk1, uk2, uk3, uk4, uk5⟩ := few_ok hfu
  by_cases hpl : p.length > 120
  · repeat' (first | refine xuln rfl rfl ?_ | refine go1L ?_ | fail)
    refine xcallE rfl rfl (told6_does w4) (fun r w5 h5 => ?_)
    obtain ⟨rfl, hE5⟩ := h5
    refine goL ?_
    exact tret1 rfl rfl ⟨rfl, hE04.t hE5⟩
  by_cases htl : tops.length > 5
  · repeat' (first | refine xuln rfl rfl ?_ | refine go1L ?_ | fail)
    refine xcallE rfl rfl (told6_does w4) (fun r w5 h5 => ?_)
    obtain ⟨rfl, hE5⟩ := h5
    refine goL ?_
    exact tret1 rfl rfl ⟨rfl, hE04.t hE5⟩
  repeat' (first | refine xuln rfl rfl ?_ | refine go1L ?_ | fail)
  refine tloop (α := Nat) (fun i => [(2, .string (su p)), (3, .slice AT tops.length cT), (4, .pointer (some ⟨g4, 0, none⟩)), (5, .pointer (some ⟨g5, 0, none⟩)), (9, .int .i64 (i : Int))]) (fun i w' => w' = w4 ∧ i ≤ tops.length ∧ ∀ q ∈ tops.take i, q.length ≤ 1000000) (fun i => tops.length - i) 0 (sub ⟨rfl, rfl, rfl, rfl, rfl⟩) ⟨rfl, Nat.zero_le _, fun q hq => by rw [List.take_zero] at hq; cases hq⟩ ?_
  rintro i w5 ⟨e5, hi, hfnd⟩
  subst w5
  by_cases hlt : i < tops.length
  · obtain ⟨b, o, q, rfl, _, hq1, _, hcell⟩ := hAT.at_ hlt
    have cq : w4.cell? ⟨b, o + i, none⟩ = some (.string (su q)) := by
      have := hE04.ee.cell (hcell 0 _ rfl)
      rwa [Nat.mul_one, Nat.add_zero] at this
    by_cases hql : q.length > 120
    · repeat' (first | refine xisq i (o + i) rfl rfl rfl rfl rfl hlt ?_ | refine xuln rfl rfl ?_ | refine go1L ?_ | fail)
      refine xcallE rfl rfl (told6_does w4) (fun r w5 h5 => ?_)
      obtain ⟨rfl, hE5⟩ := h5
      refine goL ?_
      exact tret1 rfl rfl ⟨rfl, hE04.t hE5⟩
    · repeat' (first | refine xisq i (o + i) rfl rfl rfl rfl rfl hlt ?_ | refine xuln rfl rfl ?_ | refine go1L ?_ | fail)
      refine tfin ⟨i + 1, sub ⟨rfl, rfl, rfl, rfl, rfl⟩, ⟨rfl, hlt, fun q' hq' => ?_⟩, (by show tops.length - (i + 1) < tops.length - i; omega)⟩
      rw [List.take_add_one, hq1] at hq'
      rcases List.mem_append.1 hq' with hq' | hq'
      · exact hfnd q' hq'
      · have e : q' = q := by simpa using hq'
        rw [e]; omega
  obtain rfl : i = tops.length := by omega
  rw [List.take_length] at hfnd
  have hB14 := (hB12.ext hE3).ext hE4
  have hB24 := (hB2'.ext hE3).ext hE4
  have ht4 := ht.ext hE04
  have hu4 := hu.ext hE04
  have hq4 := hq.ext hE04
  clear hB12 hB2' hB1 hB2 hB1' ht hu hq
  refine goL ?_
  refine xlda (t := 25) hB14 rfl rfl ?_
  refine goL ?_
  refine xcallE rfl rfl (norm_does w4 ve vn l t ht4 ok1 ok2) (fun r w5 h5 => ?_)
  have hE45 := h5.1
  obtain ⟨vea, vna, la, ta, ea, hta, hea, rfl, hTa⟩ := normR_any h5
  refine goL ?_
  refine xalloc (z := .agg #[.slice none 0 0, .slice none 0 0]) (by kernel_rfl) (fun w6 hB6 hE6 hs6 => ?_)
  obtain ⟨Aa, ca, rfl, _, _, _⟩ := hTa.e.op enC_len
  obtain ⟨Na, da, rfl, _, _, _⟩ := hTa.n.op ndC_len
  refine xsta hB6 rfl rfl (by kernel_rfl) rfl (one_cells (l := [.slice Aa ta.es.length ca, .slice Na la.length da]) rfl) (fun w7 hB7 hF7 => ?_)
  have hE57 : Ext w5 w7 := hN hE6 hF7 (Nat.le_refl _)
  have hE47 : Ext w4 w7 := hE45.t hE57
  obtain ⟨g10, hg10⟩ : ∃ g, g = w5.heap.size := ⟨_, rfl⟩
  rw [← hg10] at hB7 ⊢
  refine goL ?_
  refine xlda (t := 25) (hB14.ext hE47) rfl rfl ?_
  refine goL ?_
  refine xcallE rfl rfl (rnorm_does w7 ve vn l t (ht4.ext hE47) ok3 (by omega) (by omega)) (fun r w8 h8 => ?_)
  have hE78 := h8.1
  obtain ⟨veb, vnb, lb, tb, eb, htb, heb, rfl, hTb⟩ := normR_any h8
  obtain rfl : ta = tb := hta.trans htb.symm
  obtain rfl : ea = eb := hea.trans heb.symm
  refine goL ?_
  refine xalloc (z := .agg #[.slice none 0 0, .slice none 0 0]) (by kernel_rfl) (fun w9 hB9 hE9 hs9 => ?_)
  obtain ⟨Ab, cb, rfl, _, _, _⟩ := hTb.e.op enC_len
  obtain ⟨Nb, db, rfl, _, _, _⟩ := hTb.n.op ndC_len
  refine xsta hB9 rfl rfl (by kernel_rfl) rfl (one_cells (l := [.slice Ab ta.es.length cb, .slice Nb lb.length db]) rfl) (fun w10 hB10 hF10 => ?_)
  have hE810 : Ext w8 w10 := hN hE9 hF10 (Nat.le_refl _)
  have hE710 : Ext w7 w10 := hE78.t hE810
  have hE410 : Ext w4 w10 := hE47.t hE710
  obtain ⟨g12, hg12⟩ : ∃ g, g = w8.heap.size := ⟨_, rfl⟩
  rw [← hg12] at hB10 ⊢
  refine goL ?_
  refine xlda (t := 25) (hB14.ext hE410) rfl rfl ?_
  refine goL ?_
  refine xcallE rfl rfl (tpart_does w10 ve vn _ l t tops (ht4.ext hE410) (hq4.ext hE410) ok1 ok2) (fun r w11 h11 => ?_)
  have hE1011 := h11.1
  obtain ⟨vex, vnx, lx, tx, ex, htx, hex, rfl, hTx⟩ := partR_any h11
  refine goL ?_
  refine xalloc (z := .agg #[.slice none 0 0, .slice none 0 0]) (by kernel_rfl) (fun w12 hB12 hE12 hs12 => ?_)
  obtain ⟨Ax, cx, rfl, _, _, _⟩ := hTx.e.op enC_len
  obtain ⟨Nx, dx, rfl, _, _, _⟩ := hTx.n.op ndC_len
  refine xsta hB12 rfl rfl (by kernel_rfl) rfl (one_cells (l := [.slice Ax tx.es.length cx, .slice Nx lx.length dx]) rfl) (fun w13 hB13 hF13 => ?_)
  have hE1113 : Ext w11 w13 := hN hE12 hF13 (Nat.le_refl _)
  have hE1013 : Ext w10 w13 := hE1011.t hE1113
  have hE413 : Ext w4 w13 := hE410.t hE1013
  obtain ⟨g14, hg14⟩ : ∃ g, g = w11.heap.size := ⟨_, rfl⟩
  rw [← hg14] at hB13 ⊢
  refine goL ?_
  refine xlda (t := 25) (hB14.ext hE413) rfl rfl ?_
  refine goL ?_
  refine xcallE rfl rfl (rpart2_does w13 ve vn _ l t tops (ht4.ext hE413) (hq4.ext hE413) ok3 (by omega) hfnd) (fun r w14 h14 => ?_)
  have hE1314 := h14.1
  obtain ⟨vey, vny, ly, ty, ey, hty, hey, rfl, hTy⟩ := partR_any h14
  obtain rfl : tx = ty := htx.trans hty.symm
  obtain rfl : ex = ey := hex.trans hey.symm
  refine goL ?_
  refine xalloc (z := .agg #[.slice none 0 0, .slice none 0 0]) (by kernel_rfl) (fun w15 hB15 hE15 hs15 => ?_)
  obtain ⟨Ay, cy, rfl, _, _, _⟩ := hTy.e.op enC_len
  obtain ⟨Ny, dy, rfl, _, _, _⟩ := hTy.n.op ndC_len
  refine xsta hB15 rfl rfl (by kernel_rfl) rfl (one_cells (l := [.slice Ay tx.es.length cy, .slice Ny ly.length dy]) rfl) (fun w16 hB16 hF16 => ?_)
  have hE1416 : Ext w14 w16 := hN hE15 hF16 (Nat.le_refl _)
  have hE1316 : Ext w13 w16 := hE1314.t hE1416
  have hE416 : Ext w4 w16 := hE413.t hE1316
  obtain ⟨g16, hg16⟩ : ∃ g, g = w14.heap.size := ⟨_, rfl⟩
  rw [← hg16] at hB16 ⊢
  refine goL ?_
  refine xlda (t := 25) (hB14.ext hE416) rfl rfl ?_
  refine goL ?_
  refine xcallE rfl rfl (find_does w16 _ _ t.es p (ht4.ext hE416).e) (fun r w17 h17 => ?_)
  obtain ⟨rfl, hE17⟩ := h17
  have hE417 := hE416.t hE17
  refine goL ?_
  refine xlda (t := 25) (hB14.ext hE417) rfl rfl ?_
  refine goL ?_
  refine xcallE rfl rfl (rfind_does w17 _ _ t.es p (ht4.ext hE417).e) (fun r w18 h18 => ?_)
  obtain ⟨rfl, hE18⟩ := h18
  have hE1618 : Ext w16 w18 := hE17.t hE18
  have hE418 := hE416.t hE1618
  obtain ⟨fk, hfk⟩ : ∃ k, k = (findT t.es p).getD 0 := ⟨_, rfl⟩
  obtain ⟨fi, hfi⟩ : ∃ k, k = (findT t.es p).isSome := ⟨_, rfl⟩
  rw [← hfk, ← hfi]
  obtain ⟨L, hL⟩ : ∃ L : List (Nat × Value × Value), L = [(g4, ve, vn), (g5, ve', vn'), (g10, .slice Aa ta.es.length ca, .slice Na la.length da), (g12, .slice Ab ta.es.length cb, .slice Nb lb.length db), (g14, .slice Ax tx.es.length cx, .slice Nx lx.length dx), (g16, .slice Ay tx.es.length cy, .slice Ny ly.length dy)] := ⟨_, rfl⟩
  have m4 : (g4, ve, vn) ∈ L := by rw [hL]; simp
  have m5 : (g5, ve', vn') ∈ L := by rw [hL]; simp
  have m10 : (g10, .slice Aa ta.es.length ca, .slice Na la.length da) ∈ L := by rw [hL]; simp
  have m12 : (g12, .slice Ab ta.es.length cb, .slice Nb lb.length db) ∈ L := by rw [hL]; simp
  have m14 : (g14, .slice Ax tx.es.length cx, .slice Nx lx.length dx) ∈ L := by rw [hL]; simp
  have m16 : (g16, .slice Ay tx.es.length cy, .slice Ny ly.length dy) ∈ L := by rw [hL]; simp
  have hH : TrB L w18 := by
    intro x hx
    rw [hL] at hx
    simp only [List.mem_cons, List.not_mem_nil, or_false] at hx
    rcases hx with rfl | rfl | rfl | rfl | rfl | rfl
    · exact hB14.ext hE418
    · exact hB24.ext hE418
    · exact Blk.ext hB7 (hE710.t (hE1013.t (hE1316.t hE1618)))
    · exact Blk.ext hB10 (hE1013.t (hE1316.t hE1618))
    · exact Blk.ext hB13 (hE1316.t hE1618)
    · exact Blk.ext hB16 hE1618
  have ht18 := ht4.ext hE418
  have hu18 := hu4.ext hE418
  have ha18 := hTa.ext (hE57.t (hE710.t (hE1013.t (hE1316.t hE1618))))
  have hb18 := hTb.ext (hE810.t (hE1013.t (hE1316.t hE1618)))
  have hx18 := hTx.ext (hE1113.t (hE1316.t hE1618))
  have hy18 := hTy.ext (hE1416.t hE1618)
  have hE018 : Ext w w18 := hE04.t hE418
  clear hL hB14 hB24 hB6 hB7 hB9 hB10 hB12 hB13 hB15 hB16 hTa hTb hTx hTy ht4 hu4 hq4 h5 h8 h11 h14 hfnd
  have hHd : TrB L w18.drew := hH.ext (Fr.drew _ _)
  refine goL ?_
  refine tcut (α := Unit) (fun _ => [(2, .string (su p)), (4, .pointer (some ⟨g4, 0, none⟩)), (18, .int .i64 fk), (19, .bool fi), (20, .int .i64 fk), (21, .bool fi), (123, .bool false)]) (fun _ w' => Ext w18 w') ?_ ?_
  · refine tdrawH [88, 90, 99, 100, 110, 111, 116, 117, 119, 120] (TrB L) (by kernel_rfl) (by decide +kernel) hHd ?_
    refine goL ?_
    refine xldzh (cs := [ve, vn]) rfl rfl (fun w' h => h.ld m4) ?_
    refine goL ?_
    refine xcall rfl rfl (tmay_does w18.drew ve vn l t (ht18.ext (Fr.drew _ _)) ok1) (fun r w19 h19 => ?_) (fun r w' h => hHd.ext h.2)
    obtain ⟨rfl, hE19⟩ := h19
    have hH19 := hHd.ext hE19
    have hF19 : Ext w18 w19 := (Fr.drew _ _).t hE19
    refine goL ?_
    refine xldzh (cs := [ve, vn]) rfl rfl (fun w' h => h.ld m4) ?_
    refine goL ?_
    refine xcall rfl rfl (rtmay_does w19 ve vn l t (ht18.ext hF19) ok3 (by omega)) (fun r w20 h20 => ?_) (fun r w' h => hH19.ext h.2)
    obtain ⟨rfl, hE20⟩ := h20
    have hH20 := hH19.ext hE20
    have hF20 : Ext w18 w20 := hF19.t hE20
    refine xbne rfl rfl ?_
    rw [beq_self_eq_true, Bool.not_true]
    refine goL ?_
    refine xldzh (cs := [_, _]) rfl rfl (fun w' h => h.ld m10) ?_
    refine goL ?_
    refine xldzh (cs := [_, _]) rfl rfl (fun w' h => h.ld m12) ?_
    refine goL ?_
    refine xcall rfl rfl (alike_does w20 _ _ _ _ la lb ta ta (ha18.ext hF20) (hb18.ext hF20)) (fun r w21 h21 => ?_) (fun r w' h => hH20.ext h.2)
    obtain ⟨rfl, hE21⟩ := h21
    have hH21 := hH20.ext hE21
    have hF21 : Ext w18 w21 := hF20.t hE21
    rw [alikeT_self]
    refine goL ?_
    refine xldzh (cs := [_, _]) rfl rfl (fun w' h => h.ld m14) ?_
    refine goL ?_
    refine xldzh (cs := [_, _]) rfl rfl (fun w' h => h.ld m16) ?_
    refine goL ?_
    refine xcall rfl rfl (alike_does w21 _ _ _ _ lx ly tx tx (hx18.ext hF21) (hy18.ext hF21)) (fun r w22 h22 => ?_) (fun r w' h => hH21.ext h.2)
    obtain ⟨rfl, hE22⟩ := h22
    have hH22 := hH21.ext hE22
    have hF22 : Ext w18 w22 := hF21.t hE22
    rw [alikeT_self]
    refine goL ?_
    refine xldzh (cs := [ve, vn]) rfl rfl (fun w' h => h.ld m4) ?_
    refine goL ?_
    refine xldzh (cs := [ve', vn']) rfl rfl (fun w' h => h.ld m5) ?_
    refine goL ?_
    refine xcall rfl rfl (treeSame_does w22 ve vn ve' vn' l l' t u (ht18.ext hF22) (hu18.ext hF22) ok1 uk1 ok2 uk2) (fun r w23 h23 => ?_) (fun r w' h => hH22.ext h.2)
    obtain ⟨rfl, hE23⟩ := h23
    have hH23 := hH22.ext hE23
    have hF23 : Ext w18 w23 := hF22.t hE23
    refine goL ?_
    refine xldzh (cs := [ve, vn]) rfl rfl (fun w' h => h.ld m4) ?_
    refine goL ?_
    refine xldzh (cs := [ve', vn']) rfl rfl (fun w' h => h.ld m5) ?_
    refine goL ?_
    refine xcall rfl rfl (sameTree_does w23 ve vn ve' vn' l l' t u (ht18.ext hF23) (hu18.ext hF23) ok3 uk3 ⟨by omega, by omega⟩ ⟨by omega, by omega⟩) (fun r w24 h24 => ?_) (fun r w' h => hH23.ext h.2)
    obtain ⟨rfl, hE24⟩ := h24
    have hF24 : Ext w18 w24 := hF23.t hE24
    have hH24 := hH23.ext hE24
    refine goL ?_
    refine xbne rfl rfl ?_
    rw [beq_self_eq_true, Bool.not_true]
    refine goL ?_
    exact tfin ⟨(), sub ⟨rfl, rfl, rfl, rfl, rfl, rfl, rfl⟩, hF24⟩
  rintro _ w24 hF24
  have hH24 : TrB L w24 := hH.ext hF24
  have hB424 : Blk w24 g4 25 #[ve, vn] := hH24 _ m4
  refine goL ?_
  refine xlda (t := 25) hB424 rfl rfl ?_
  refine goL ?_
  refine xcallE rfl rfl (rtmay_does w24 ve vn l t (ht18.ext hF24) ok3 (by omega)) (fun r w25 h25 => ?_)
  obtain ⟨rfl, hE25⟩ := h25
  cases hm : mayT t with
  | false =>
    refine goL ?_
    refine xcallE rfl rfl (told6_does w25) (fun r w26 h26 => ?_)
    obtain ⟨rfl, hE26⟩ := h26
    refine goL ?_
    exact tret1 rfl rfl ⟨rfl, hE018.t ((hF24.t hE25).t hE26)⟩
  | true =>
  have hE30 : Ext w18 w25 := hF24.t hE25
  have hE30d : Ext w18 w25.drew := hE30.ed
  have hH30 : TrB L w25.drew := hH.ext hE30d
  refine goL ?_
  refine tdrawH [140, 143, 149, 152, 158, 160] (TrB L) (by kernel_rfl) (by decide +kernel) hH30 ?_
  refine goL ?_
  refine xcall rfl rfl (told6_does w25.drew) (fun r w31 h31 => ?_) (fun r w' h => hH30.ext h.2)
  obtain ⟨rfl, hE31⟩ := h31
  have hH31 := hH30.ext hE31
  have hF31 : Ext w18 w31 := hE30d.t hE31
  refine goL ?_
  refine xbeq rfl rfl ?_
  rw [beq_self_eq_true]
  refine goL ?_
  refine xldzh (cs := [ve, vn]) rfl rfl (fun w' h => h.ld m4) ?_
  refine goL ?_
  refine xcall rfl rfl (kids_does w31 ve vn t p (ht18.ext hF31).e (by omega)) (fun r w32 h32 => ?_) (fun r w' h => hH31.ext h.2)
  obtain ⟨hk32, hE32⟩ := h32
  have hH32 := hH31.ext hE32
  have hF32 : Ext w18 w32 := hF31.t hE32
  refine goL ?_
  refine xldzh (cs := [ve, vn]) rfl rfl (fun w' h => h.ld m4) ?_
  refine goL ?_
  refine xcall rfl rfl (rkids_does w32 ve vn t p (ht18.ext hF32).e (by omega) ok3.p) (fun r' w33 h33 => ?_) (fun r w' h => hH32.ext h.2)
  obtain ⟨hk33, hE33⟩ := h33
  have hH33 := hH32.ext hE33
  have hF33 : Ext w18 w33 := hF32.t hE33
  refine goL ?_
  refine xcall rfl rfl (texts_does w33 r r' _ _ (hk32.rw.ext hE33) hk33.rw) (fun r w34 h34 => ?_) (fun r w' h => hH33.ext h.2)
  obtain ⟨rfl, hE34⟩ := h34
  have hH34 := hH33.ext hE34
  have hF34 : Ext w18 w34 := hF33.t hE34
  rw [decide_eq_true rfl]
  refine goL ?_
  refine xldzh (cs := [ve, vn]) rfl rfl (fun w' h => h.ld m4) ?_
  refine goL ?_
  refine xcall rfl rfl (class_does w34 ve vn t p (ht18.ext hF34).e (by omega)) (fun r w35 h35 => ?_) (fun r w' h => hH34.ext h.2)
  obtain ⟨hk35, hE35⟩ := h35
  have hH35 := hH34.ext hE35
  have hF35 : Ext w18 w35 := hF34.t hE35
  refine goL ?_
  refine xldzh (cs := [ve, vn]) rfl rfl (fun w' h => h.ld m4) ?_
  refine goL ?_
  refine xcall rfl rfl (rclass_does w35 ve vn t p (ht18.ext hF35).e (by omega)) (fun r' w36 h36 => ?_) (fun r w' h => hH35.ext h.2)
  obtain ⟨hk36, hE36⟩ := h36
  have hH36 := hH35.ext hE36
  have hF36 : Ext w18 w36 := hF35.t hE36
  refine goL ?_
  refine xcall rfl rfl (texts_does w36 r r' _ _ (hk35.rw.ext hE36) hk36.rw) (fun r w37 h37 => ?_) (fun r w' h => hH36.ext h.2)
  obtain ⟨rfl, hE37⟩ := h37
  have hH37 := hH36.ext hE37
  have hF37 : Ext w18 w37 := hF36.t hE37
  rw [decide_eq_true rfl]
  refine goL ?_
  refine xldzh (cs := [ve, vn]) rfl rfl (fun w' h => h.ld m4) ?_
  refine goL ?_
  refine xcall rfl rfl (tbytes_does w37 ve vn l t (ht18.ext hF37) ok1 (by omega)) (fun r w38 h38 => ?_) (fun r w' h => hH37.ext h.2)
  obtain ⟨rfl, hE38⟩ := h38
  have hH38 := hH37.ext hE38
  have hF38 : Ext w18 w38 := hF37.t hE38
  refine goL ?_
  refine xldzh (cs := [ve, vn]) rfl rfl (fun w' h => h.ld m4) ?_
  refine goL ?_
  refine xcall rfl rfl (rtotal_does w38 ve vn l t (ht18.ext hF38) ok1 (by omega)) (fun r w39 h39 => ?_) (fun r w' h => hH38.ext h.2)
  obtain ⟨rfl, hE39⟩ := h39
  have hF39 : Ext w18 w39 := hF38.t hE39
  refine goL ?_
  exact tret1 rfl rfl ⟨rfl, hE018.t hF39⟩
end Eng
end Go.Proofs.YtleaanenpimanaaGreatDoor
