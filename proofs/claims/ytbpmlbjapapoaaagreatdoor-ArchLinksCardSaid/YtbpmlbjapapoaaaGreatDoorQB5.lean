/-
  Parts of the proof: Wg.
-/
import Derived.Test.YtbpmlbjapapoaaaGreatDoorQWe
import Derived.Test.YtbpmlbjapapoaaaGreatDoorQWf
set_option maxRecDepth 100000
set_option maxHeartbeats 64000000
namespace Go.Proofs.YtbpmlbjapapoaaaGreatDoor.Eng
open Go.RowKit
section
attribute [local irreducible] xs T
theorem extG_eq (size : Int) : ∀ (l : List Pce) (last : Int), l.all pceOK = true → extG size last (exsP l) = extOK size last l
 | [], _, _ => rfl
 | p :: r, last, h => by
  rw [List.all_cons, Bool.and_eq_true] at h
  have hok := h.1
  simp only [pceOK, Bool.and_eq_true, decide_eq_true_eq] at hok
  have ih := extG_eq size r (p.pos + p.data.length) h.2
  have e1 : ((p.pos.toNat : Nat) : Int) = p.pos := by omega
  have e2 : p.data.length ≠ 0 := fun e => hok.1.1 (List.length_eq_zero_iff.1 e)
  show (decide (p.data.length ≠ 0) && decide (last < ((p.pos.toNat : Nat) : Int)) && extG size (((p.pos.toNat : Nat) : Int) + p.data.length) (exsP r)) = _
  rw [e1, ih, decide_eq_true e2, Bool.true_and]; rfl
theorem exsP_ok {l : List Pce} (h : l.all pceOK = true) (hb : bytesP l ≤ 1000000) : exOK (exsP l) := by
 intro q hq
 obtain ⟨p, hp, rfl⟩ := List.mem_map.1 hq
 have hok := List.all_eq_true.1 h p hp
 simp only [pceOK, Bool.and_eq_true, decide_eq_true_eq] at hok
 have := bytes_mem hp
 dsimp only
 omega
theorem mt_get {x : NdV} {j : Nat} {u : Value} (h : (mtC x)[j]? = some u) : (ndC x).toArray[1 + j]? = some u := by
 have e : ndC x = [.int .i64 x.n.kind] ++ (mtC x ++ [.int .i64 x.n.size, x.vd, .string (su x.n.target), .int .i64 x.n.major, .int .i64 x.n.minor]) := rfl
 rw [List.getElem?_toArray, e, List.getElem?_append_right (by simp), List.length_singleton, Nat.add_sub_cancel_left, List.getElem?_append_left (List.getElem?_eq_some_iff.1 h).1]
 exact h
theorem pceOK_no {p : Pce} (h : pceOK p = false) : p.data = [] ∨ p.pos < 0 ∨ 1099511627776 < p.pos := by
 by_cases h1 : p.data = []
 ·exact .inl h1
 ·by_cases h2 : p.pos < 0
  ·exact .inr (.inl h2)
  ·refine .inr (.inr ?_)
   rcases Int.lt_or_le 1099511627776 p.pos with h3 | h3
   ·exact h3
   ·simp [pceOK, h1, h3] at h; omega
theorem mayfile_does (w : World) (x : NdV) (hx : NdIn w x) (hb : bytesP x.n.data ≤ 1000000) : Does Tryz.prog 77 #[.agg (ndC x).toArray] w fun r w' => r = .bool (fileOK x.n) ∧ Ext w w' := by
 refine does1 Tryz.func77 rfl (by kernel_rfl) ?_
 unfold fileOK
 refine goL ?_
 refine xbox rfl (fun w1 hB1 hE1 hs1 => ?_)
 have hB : Blk w1 w.heap.size 47 (ndC x).toArray := hB1
 obtain ⟨A, c, evd, hc1, hc2, hA⟩ := hx.d.op pcC_len
 have k7 : w1.cell? ⟨w.heap.size, 7, none⟩ = some (.int .i64 x.n.size) := hB.cell 7
 have k8 : w1.cell? ⟨w.heap.size, 8, none⟩ = some (.slice A x.n.data.length c) := by rw [← evd]; exact hB.cell 8
 by_cases h0 : ¬ 0 ≤ x.n.size
 ·refine goL ?_
  exact tret1 rfl rfl ⟨by simp [h0], hE1⟩
 have h0 : 0 ≤ x.n.size := by omega
 by_cases h1 : ¬ x.n.size ≤ 1099511627776
 ·refine goL ?_
  exact tret1 rfl rfl ⟨by simp [h1], hE1⟩
 have h1 : x.n.size ≤ 1099511627776 := by omega
 by_cases h2 : ¬ x.n.data.length ≤ 16
 ·refine goL ?_
  exact tret1 rfl rfl ⟨by simp [h2], hE1⟩
 have h2 : x.n.data.length ≤ 16 := by omega
 rw [decide_eq_true h0, decide_eq_true h1, decide_eq_true h2, Bool.true_and, Bool.true_and, Bool.true_and]
 obtain ⟨l, hl⟩ : ∃ l, l = x.n.data := ⟨_, rfl⟩
 have hb' := hb
 rw [← hl] at hA hc1 k8 hb' h2 ⊢
 refine goL ?_
 refine tloop (α := Nat) (fun i => [(1, .pointer (some ⟨w.heap.size, 0, none⟩)), (20, .slice A l.length c), (21, .int .i64 (l.length : Int)), (22, .int .i64 (i : Int))]) (fun i w' => Ext w1 w' ∧ i ≤ l.length ∧ (l.drop i).all pceOK = l.all pceOK) (fun i => l.length - i) 0 (sub ⟨rfl, rfl, rfl, rfl⟩) ⟨Fr.refl _ _, Nat.zero_le _, rfl⟩ ?_
 rintro i w2 ⟨hE2, hi, hgo⟩
 by_cases hlt : i < l.length
 ·obtain ⟨b, o, p, rfl, _, hp, hdr, hcell⟩ := hA.at_ hlt
  have hpc : ∀ j u, (pcC p)[j]? = some u → w2.cell? ⟨b, o + i * 2 + j, none⟩ = some u := fun j u hu => hE2.cell (hE1.cell (hcell j u hu))
  rw [hdr, List.all_cons] at hgo
  refine gz4 ?_
  refine xldz (cs := pcC p) rfl rfl hpc ?_
  refine xalloc (z := .agg #[.int .i64 0, .string ⟨#[]⟩]) (by kernel_rfl) (fun w3 hB3 hE3 hs3 => ?_)
  refine xsta (cs := (pcC p).toArray) hB3 rfl rfl rfl rfl (pcC_all p) (fun w4 hB4 hF4 => ?_)
  have hE4 : Ext w2 w4 := Ext.te hE3 hF4 fun j hj e => by have e' : j = w2.heap.size := e; omega
  have q0 : w4.cell? ⟨w2.heap.size, 0, none⟩ = some (.int .i64 p.pos) := hB4.cell 0
  have q1 : w4.cell? ⟨w2.heap.size, 1, none⟩ = some (.string (su p.data)) := hB4.cell 1
  have hE04 := hE1.t (hE2.t hE4)
  cases hok : pceOK p with
  | false =>
   rw [hok, Bool.false_and] at hgo
   rw [← hgo]
   by_cases g1 : p.data = []
   ·repeat' (first | refine xucmp (op := .eql) (b := []) (r := true) rfl rfl (by simp [cmpU, g1]) ?_ | refine go1L ?_ | fail)
    exact tret1 rfl rfl ⟨rfl, hE04⟩
   by_cases g2 : p.pos < 0
   ·refine gz13 ?_
    exact tret1 rfl rfl ⟨rfl, hE04⟩
   have g3 : 1099511627776 < p.pos := (pceOK_no hok).resolve_left g1 |>.resolve_left g2
   refine gz13 ?_
   exact tret1 rfl rfl ⟨rfl, hE04⟩
  | true =>
   rw [hok, Bool.true_and] at hgo
   have hk := hok
   simp only [pceOK, Bool.and_eq_true, decide_eq_true_eq] at hk
   obtain ⟨⟨g1, g2⟩, g3⟩ := hk
   refine gz13 ?_
   exact tfin ⟨i + 1, sub ⟨rfl, rfl, rfl, rfl⟩, ⟨hE2.t hE4, by omega, hgo⟩, (by show l.length - (i + 1) < l.length - i; omega)⟩
 ·obtain rfl : i = l.length := by omega
  rw [List.drop_length] at hgo
  have hall : x.n.data.all pceOK = true := by rw [← hl, ← hgo]; rfl
  rw [← hgo, List.all_nil, Bool.true_and]
  have hB2 : Blk w2 w.heap.size 47 (ndC x).toArray := hB.ext hE2
  have m7 : w2.drew.cell? ⟨w.heap.size, 7, none⟩ = some (.int .i64 x.n.size) := hB2.cell 7
  refine goL ?_
  refine tdrawH [47] (fun w' => w'.cell? ⟨w.heap.size, 7, none⟩ = some (.int .i64 x.n.size)) (by kernel_rfl) (by decide +kernel) m7 ?_
  refine xlda (t := 47) hB2 rfl rfl ?_
  refine xcall rfl rfl (bytes_does w2.drew x (hx.ext (hE1.t hE2.d)) hb) ?_ ?_
  ·rintro r w3 ⟨rfl, hE3⟩
   rw [← hl]
   by_cases g : bytesP l ≤ 4000
   ·rw [decide_eq_true g, Bool.true_and]
    have hB3 : Blk w3 w.heap.size 47 (ndC x).toArray := hB2.drew.ext hE3
    have hE03 := hE1.t (hE2.d.t hE3)
    refine goL ?_
    refine xlda (t := 47) hB3 rfl rfl ?_
    refine goL ?_
    refine xcall rfl rfl (extents_does w3 x (hx.ext hE03) hall hb (by rw [← hl]; omega)) ?_ ?_
    ·rintro r w4 ⟨hown, hE4⟩
     have hr := hown.rw
     rw [← hl] at hr
     repeat' (first | refine xldh rfl rfl (fun w' h => h) ?_ | refine go1L ?_ | fail)
     refine xcall rfl rfl (extmay_does w4 r (exsP l) x.n.size hr (by rw [hl]; exact exsP_ok hall hb)) ?_ ?_
     ·rintro r w5 ⟨rfl, rfl⟩
      rw [decide_eq_true h0, decide_eq_true h1, Bool.true_and, Bool.true_and, extG_eq _ _ _ (by rw [hl]; exact hall)]
      refine goL ?_
      exact tret1 rfl rfl ⟨rfl, hE03.t hE4⟩
     ·rintro r w5 ⟨_, rfl⟩
      exact hE4.cell (hE3.cell m7)
    ·rintro r w4 ⟨_, hE4⟩
     exact hE4.cell (hE3.cell m7)
   ·rw [decide_eq_false g, Bool.false_and]
    refine goL ?_
    exact tret1 rfl rfl ⟨rfl, hE1.t (hE2.d.t hE3)⟩
  ·rintro r w3 ⟨_, hE3⟩
   exact hE3.cell m7
end
end Go.Proofs.YtbpmlbjapapoaaaGreatDoor.Eng
