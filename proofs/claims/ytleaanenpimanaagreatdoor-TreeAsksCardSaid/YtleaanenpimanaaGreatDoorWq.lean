/-
  The reference's Kids, Class, Total; texts compared.
-/
import Derived.Test.YtleaanenpimanaaGreatDoorWo
namespace Go.Proofs.YtleaanenpimanaaGreatDoor
open Go.RowKit
namespace Eng
attribute [local irreducible] xs T

set_option maxRecDepth 20000 in
set_option maxHeartbeats 4000000 in
theorem rkids_does (w : World) (ve vn : Value) (t : Tre) (p : Str) (hv : Rw enC w ve t.es) (hl : t.es.length ≤ 1000000) (hpl : ∀ e ∈ t.es, e.path.length ≤ 1000000) : Does Tryz.prog 27 #[.agg #[ve, vn], .string (su p)] w fun r w' => Ow stC 1 w' w.heap.size 9 r (kidsT t p) ∧ Ext w w' := by
  refine does2 Tryz.func27 rfl (by kernel_rfl) ?_
  obtain ⟨A, c, rfl, hc1, hc2, hA⟩ := hv.op enC_len
  refine goL ?_
  refine xbox rfl (fun w1 hB1 hE1 hs1 => ?_)
  have hB : Blk w1 w.heap.size 25 #[.slice A t.es.length c, vn] := hB1
  have k0 : w1.cell? ⟨w.heap.size, 0, none⟩ = some (.slice A t.es.length c) := hB.cell 0
  refine goL ?_
  refine tloop (α := Nat × Value) (fun x => [(1, .string (su p)), (2, .pointer (some ⟨w.heap.size, 0, none⟩)), (5, x.2), (6, .int .i64 (x.1 : Int))]) (KiI (fun i => kidsT ⟨t.es.take i, t.ns⟩ p) t.es.length w1) (fun x => t.es.length - x.1) (0, .slice none 0 0) (sub ⟨rfl, rfl, rfl, rfl⟩) ⟨Nat.zero_le _, by rw [List.take_zero]; exact Ow.nil _ _ _, by rw [List.take_zero]; exact Nat.le_refl _, Fr.refl _ _⟩ ?_
  · rintro ⟨i, v⟩ w2 ⟨hi, hown, hlen, hE2⟩
    dsimp only at hi hown hlen hE2 ⊢
    have m0 : w2.cell? ⟨w.heap.size, 0, none⟩ = some (.slice A t.es.length c) := hE2.cell k0
    by_cases hlt : i < t.es.length
    · obtain ⟨b, o, e, rfl, _, he, _, hcell⟩ := hA.at_ hlt
      have q0 : w2.cell? ⟨b, o + i * 2 + 0, none⟩ = some (.string (su e.path)) := hE2.cell (hE1.cell (hcell 0 _ rfl))
      have hstep := take_kids (p := p) he
      repeat' (first | refine xizq i (o + i * 2) rfl rfl rfl rfl rfl hlt ?_ | refine go1L ?_ | fail)
      refine xcallE rfl rfl (rparent_does w2 e.path (hpl e (List.mem_of_getElem? he))) (fun r w3 h3 => ?_)
      obtain ⟨rfl, hE3⟩ := h3
      have hE03 : Ext w1 w3 := hE2.t hE3
      have m03 : w3.cell? ⟨w.heap.size, 0, none⟩ = some (.slice (some ⟨b, o, none⟩) t.es.length c) := hE03.cell k0
      have q03 : w3.cell? ⟨b, o + i * 2 + 0, none⟩ = some (.string (su e.path)) := hE3.cell q0
      have none_ : parP e.path ≠ some p → Ow stC 1 w3 w1.heap.size 9 v (kidsT ⟨t.es.take (i + 1), t.ns⟩ p) := fun h => by
        rw [hstep, if_neg h, List.append_nil]; exact hown.ext hE3
      cases hp : parP e.path with
      | none =>
        have hn := none_ (by rw [hp]; exact fun h => by cases h)
        refine goL ?_
        exact tfin ⟨(i + 1, v), sub ⟨rfl, rfl, rfl, rfl⟩, ⟨by dsimp only; omega, hn, kids_len _ _ _, hE03⟩, (by show t.es.length - (i + 1) < t.es.length - i; omega)⟩
      | some u =>
        have hu : parS e.path = u := by rw [parS, hp]; rfl
        rw [hu]
        by_cases g : u = p
        · repeat' (first | refine xucmp (op := .eql) (r := true) rfl rfl (by simp [cmpU, g]) ?_ | refine xizq i (o + i * 2) rfl rfl rfl rfl rfl hlt ?_ | refine go1L ?_ | fail)
          refine xcallE rfl rfl (rlast_does w3 e.path (hpl e (List.mem_of_getElem? he))) (fun r w4 h4 => ?_)
          obtain ⟨rfl, hE4⟩ := h4
          have hE04 : Ext w1 w4 := hE03.t hE4
          refine goL ?_
          refine xbs sl_strs rfl rfl (by decide) (by decide) (fun u hu => by rw [List.mem_singleton.1 hu]; rfl) (fun w5 hB5 hE5 hs5 => ?_)
          refine xapz (news := stC (lastP e.path)) sl_strs rfl (by decide) rfl (OwnZ.ext hown (hE3.t (hE4.t hE5))) rfl (blk_row hB5 (by decide) rfl) rfl (fun u hu => by rw [List.mem_singleton.1 hu]; rfl) (by unfold maxLen; omega) (by omega) (by have := hE04.size; have := hE5.size; omega) (fun v' w6 hown6 hF6 hv6 => ?_)
          have hown7 : Ow stC 1 w6 w1.heap.size 9 v' (kidsT ⟨t.es.take (i + 1), t.ns⟩ p) := by
            rw [hstep, if_pos (by rw [hp, g])]
            exact Ow.ext1 (l' := [lastP e.path]) (by simpa using hown6)
          refine goL ?_
          exact tfin ⟨(i + 1, v'), sub ⟨rfl, rfl, rfl, rfl⟩, ⟨by dsimp only; omega, hown7, kids_len _ _ _, Ext.te (hE04.t hE5) hF6 fun j hj e => by have := (hown.blk e).1; omega⟩, (by show t.es.length - (i + 1) < t.es.length - i; omega)⟩
        · have hn := none_ (by rw [hp]; exact fun h => g (Option.some.inj h))
          repeat' (first | refine xucmp (op := .eql) (r := false) rfl rfl (by simp [cmpU, g]) ?_ | refine go1L ?_ | fail)
          exact tfin ⟨(i + 1, v), sub ⟨rfl, rfl, rfl, rfl⟩, ⟨by dsimp only; omega, hn, kids_len _ _ _, hE03⟩, (by show t.es.length - (i + 1) < t.es.length - i; omega)⟩
    · obtain rfl : i = t.es.length := by omega
      rw [List.take_length] at hown
      refine goL ?_
      exact tret1 rfl rfl ⟨hown.mono hE1.size, hE1.t hE2⟩

set_option maxRecDepth 20000 in
set_option maxHeartbeats 4000000 in
theorem rclass_does (w : World) (ve vn : Value) (t : Tre) (p : Str) (hv : Rw enC w ve t.es) (hl : t.es.length ≤ 1000000) : Does Tryz.prog 29 #[.agg #[ve, vn], .string (su p)] w fun r w' => Ow stC 1 w' w.heap.size 9 r (classT t p) ∧ Ext w w' := by
  refine does2 Tryz.func29 rfl (by kernel_rfl) ?_
  have hv0 := hv
  obtain ⟨A, c, rfl, hc1, hc2, hA⟩ := hv.op enC_len
  unfold classT
  refine goL ?_
  refine xbox rfl (fun w1 hB1 hE1 hs1 => ?_)
  have hB : Blk w1 w.heap.size 25 #[.slice A t.es.length c, vn] := hB1
  refine goL ?_
  refine xlda (t := 25) hB rfl rfl ?_
  refine goL ?_
  refine xcallE rfl rfl (rfind_does w1 _ _ t.es p (hv0.ext hE1)) (fun r w0 h0 => ?_)
  obtain ⟨rfl, hE0⟩ := h0
  cases hf : findT t.es p with
  | none =>
    have m0 : w0.cell? ⟨w.heap.size, 0, none⟩ = some (.slice A t.es.length c) := (hB.ext hE0).cell 0
    refine goL ?_
    refine tloop (α := Unit) (fun _ => [(2, .pointer (some ⟨w.heap.size, 0, none⟩)), (6, .bool false), (7, .slice none 0 0), (8, .int .i64 0)]) (fun _ w' => w0 = w') (fun _ => 0) () (sub ⟨rfl, rfl, rfl, rfl⟩) rfl ?_
    rintro _ _ rfl
    by_cases hz : (0 : Int) < t.es.length
    · refine goL ?_
      exact tret1 rfl rfl ⟨Ow.nil _ _ _, hE1.t hE0⟩
    · refine goL ?_
      exact tret1 rfl rfl ⟨Ow.nil _ _ _, hE1.t hE0⟩
  | some k =>
  dsimp only
  show xs Tryz.prog _ _ _ _ _ (T Tryz.prog _ (fun r w' => Ow stC 1 w' w.heap.size 9 r (clsL t.es k) ∧ Ext w w') _) _ _ _
  refine goL ?_
  refine tloop (α := Nat × Value) (fun x => [(2, .pointer (some ⟨w.heap.size, 0, none⟩)), (5, .int .i64 k), (6, .bool true), (7, x.2), (8, .int .i64 (x.1 : Int))]) (KiI (fun i => clsL (t.es.take i) k) t.es.length w1) (fun x => t.es.length - x.1) (0, .slice none 0 0) (sub ⟨rfl, rfl, rfl, rfl, rfl⟩) ⟨Nat.zero_le _, by rw [List.take_zero]; exact Ow.nil _ _ _, by rw [List.take_zero]; exact Nat.le_refl _, hE0⟩ ?_
  · rintro ⟨i, v⟩ w2 ⟨hi, hown, hlen, hE2⟩
    dsimp only at hi hown hlen hE2 ⊢
    have m0 : w2.cell? ⟨w.heap.size, 0, none⟩ = some (.slice A t.es.length c) := (hB.ext hE2).cell 0
    by_cases hlt : i < t.es.length
    · obtain ⟨b, o, e, rfl, _, he, _, hcell⟩ := hA.at_ hlt
      have q0 : w2.cell? ⟨b, o + i * 2 + 0, none⟩ = some (.string (su e.path)) := hE2.cell (hE1.cell (hcell 0 _ rfl))
      have q1 : w2.cell? ⟨b, o + i * 2 + 1, none⟩ = some (.int .i64 e.node) := hE2.cell (hE1.cell (hcell 1 _ rfl))
      have hstep := take_cls (k := k) he
      by_cases g : e.node = k
      · rw [if_pos g] at hstep
        repeat' (first | refine xizq i (o + i * 2) rfl rfl rfl rfl rfl hlt ?_ | refine go1L ?_ | fail)
        refine xbs sl_strs rfl rfl (by decide) (by decide) (fun u hu => by rw [List.mem_singleton.1 hu]; rfl) (fun w5 hB5 hE5 hs5 => ?_)
        refine xapz (news := stC e.path) sl_strs rfl (by decide) rfl (OwnZ.ext hown hE5) rfl (blk_row hB5 (by decide) rfl) rfl (fun u hu => by rw [List.mem_singleton.1 hu]; rfl) (by unfold maxLen; omega) (by omega) (by have := hE2.size; have := hE5.size; omega) (fun v' w6 hown6 hF6 hv6 => ?_)
        have hown7 : Ow stC 1 w6 w1.heap.size 9 v' (clsL (t.es.take (i + 1)) k) := by
          rw [hstep]
          exact Ow.ext1 (l' := [e.path]) (by simpa using hown6)
        refine goL ?_
        exact tfin ⟨(i + 1, v'), sub ⟨rfl, rfl, rfl, rfl, rfl⟩, ⟨by dsimp only; omega, hown7, cls_len _ _ _, Ext.te (hE2.t hE5) hF6 fun j hj e => by have := (hown.blk e).1; omega⟩, (by show t.es.length - (i + 1) < t.es.length - i; omega)⟩
      · rw [if_neg g, List.append_nil] at hstep
        repeat' (first | refine xizq i (o + i * 2) rfl rfl rfl rfl rfl hlt ?_ | refine go1L ?_ | fail)
        exact tfin ⟨(i + 1, v), sub ⟨rfl, rfl, rfl, rfl, rfl⟩, ⟨by dsimp only; omega, by dsimp only; rw [hstep]; exact hown, cls_len _ _ _, hE2⟩, (by show t.es.length - (i + 1) < t.es.length - i; omega)⟩
    · obtain rfl : i = t.es.length := by omega
      rw [List.take_length] at hown
      refine goL ?_
      exact tret1 rfl rfl ⟨hown.mono hE1.size, hE1.t hE2⟩

set_option maxRecDepth 20000 in
set_option maxHeartbeats 4000000 in
theorem rtotal_does (w : World) (ve vn : Value) (nvs : List NdV) (t : Tre) (hv : TrV w ve vn nvs t) (hn : NsOK t.ns) (hl : t.ns.length ≤ 1000000) : Does Tryz.prog 31 #[.agg #[ve, vn]] w fun r w' => r = .int .i64 (totalT t.ns : Int) ∧ Ext w w' := by
  refine does1 Tryz.func31 rfl (by kernel_rfl) ?_
  obtain ⟨A, c, rfl, hc1, hc2, hA⟩ := hv.n.op ndC_len
  have hlen := hv.len
  refine goL ?_
  refine xbox rfl (fun w1 hB1 hE1 hs1 => ?_)
  have hB : Blk w1 w.heap.size 25 #[ve, .slice A nvs.length c] := hB1
  have k1 : w1.cell? ⟨w.heap.size, 1, none⟩ = some (.slice A nvs.length c) := hB.cell 1
  refine goL ?_
  refine tloop (α := Nat) (fun i => [(1, .pointer (some ⟨w.heap.size, 0, none⟩)), (3, .int .i64 (totalT (t.ns.take i) : Int)), (4, .int .i64 (i : Int))]) (fun i w' => Ext w1 w' ∧ i ≤ nvs.length) (fun i => nvs.length - i) 0 (sub ⟨rfl, rfl, rfl⟩) ⟨Fr.refl _ _, Nat.zero_le _⟩ ?_
  · rintro i w2 ⟨hE2, hi⟩
    have m1 : w2.cell? ⟨w.heap.size, 1, none⟩ = some (.slice A nvs.length c) := hE2.cell k1
    by_cases hlt : i < nvs.length
    · obtain ⟨b, o, x, rfl, _, hx, hdr, hcell⟩ := hA.at_ hlt
      have hxc : ∀ j u, (ndC x)[j]? = some u → w2.cell? ⟨b, o + i * 12 + j, none⟩ = some u := fun j u hu => hE2.cell (hE1.cell (hcell j u hu))
      have hin := hv.i x (List.mem_of_getElem? hx)
      have hb := hn x.n (List.mem_of_getElem? (hv.get hx))
      have htk := totalT_take (hv.get hx)
      have hle : totalT (t.ns.take (i + 1)) ≤ 1000000 * (i + 1) := by
        have := totalT_le (l := t.ns.take (i + 1)) fun n hm => hn n (List.mem_of_mem_take hm)
        rw [List.length_take] at this; omega
      repeat' (first | refine xizq i (o + i * 12) rfl rfl rfl rfl rfl hlt ?_ | refine go1L ?_ | fail)
      refine xldz (cs := ndC x) rfl rfl hxc ?_
      refine xcallE rfl rfl (rbytes_does w2 x (hin.ext (hE1.t hE2)) hb) (fun r w3 h3 => ?_)
      obtain ⟨rfl, hE3⟩ := h3
      refine goL ?_
      exact tfin ⟨i + 1, sub ⟨rfl, ieq (by omega), rfl⟩, ⟨hE2.t hE3, by omega⟩, (by show nvs.length - (i + 1) < nvs.length - i; omega)⟩
    · obtain rfl : i = nvs.length := by omega
      refine goL ?_
      exact tret1 rfl rfl ⟨by rw [hlen, List.take_length], hE1.t hE2⟩

set_option maxRecDepth 20000 in
set_option maxHeartbeats 2000000 in
theorem texts_does (w : World) (v v' : Value) (l l' : List Str) (hv : Rw stC w v l) (hv' : Rw stC w v' l') : Does Tryz.prog 25 #[v, v'] w fun r w' => r = .bool (decide (l = l')) ∧ Ext w w' := by
  refine does2 Tryz.func25 rfl (by kernel_rfl) ?_
  obtain ⟨A, c, rfl, hc1, hc2, hA⟩ := hv.op stC_len
  obtain ⟨A', c', rfl, hc1', hc2', hA'⟩ := hv'.op stC_len
  by_cases hlen : l.length = l'.length
  · refine goL ?_
    refine tloop (α := Nat) (fun i => [(0, .slice A l.length c), (1, .slice A' l'.length c'), (5, .int .i64 (i : Int))]) (fun i w' => Ext w w' ∧ i ≤ l.length ∧ decide (l.drop i = l'.drop i) = decide (l = l')) (fun i => l.length - i) 0 (sub ⟨rfl, rfl, rfl⟩) ⟨Fr.refl _ _, Nat.zero_le _, rfl⟩ ?_
    rintro i w1 ⟨hE, hi, hgo⟩
    by_cases hlt : i < l.length
    · obtain ⟨b, o, x, rfl, _, hx, hdr, hcell⟩ := hA.at_ hlt
      obtain ⟨b', o', y, rfl, _, hy, hdr', hcell'⟩ := hA'.at_ (i := i) (by omega)
      rw [hdr, hdr'] at hgo
      have q0 : w1.drew.cell? ⟨b, o + i, none⟩ = some (.string (su x)) := by
        have := hE.cell (hcell 0 _ rfl)
        rw [Nat.mul_one, Nat.add_zero] at this
        exact this
      have q1 : w1.drew.cell? ⟨b', o' + i, none⟩ = some (.string (su y)) := by
        have := hE.cell (hcell' 0 _ rfl)
        rw [Nat.mul_one, Nat.add_zero] at this
        exact this
      by_cases e : x = y
      · subst e
        have hgo : decide (l.drop (i + 1) = l'.drop (i + 1)) = decide (l = l') := by rw [← hgo]; simp
        repeat' (first | refine xisq i (o + i) rfl rfl rfl rfl rfl hlt ?_ | refine xisq i (o' + i) rfl rfl rfl rfl rfl (by omega) ?_ | refine xucmp (op := .neq) (r := false) rfl rfl (by simp [cmpU]) ?_ | refine go1L ?_ | fail)
        exact tfin ⟨i + 1, sub ⟨rfl, rfl, rfl⟩, ⟨hE.d, by omega, hgo⟩, (by show l.length - (i + 1) < l.length - i; omega)⟩
      · rw [decide_eq_false (by simp [e])] at hgo
        repeat' (first | refine xisq i (o + i) rfl rfl rfl rfl rfl hlt ?_ | refine xisq i (o' + i) rfl rfl rfl rfl rfl (by omega) ?_ | refine xucmp (op := .neq) (r := true) rfl rfl (by simp [cmpU, e]) ?_ | refine go1L ?_ | fail)
        exact tret1 rfl rfl ⟨by rw [← hgo], hE.d⟩
    · obtain rfl : i = l.length := by omega
      rw [List.drop_length, hlen, List.drop_length] at hgo
      rw [← hgo]
      refine goL ?_
      exact tret1 rfl rfl ⟨rfl, hE⟩
  · refine goL ?_
    exact tret1 rfl rfl ⟨by rw [decide_eq_false fun e => hlen (by rw [e])], Fr.refl _ _⟩
end Eng
end Go.Proofs.YtleaanenpimanaaGreatDoor
