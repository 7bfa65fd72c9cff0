/-
  Parts of the proof, joined: Vl, Vm, Fa, Fb, Fc, Fd, Vn, Vo, Fg.
-/
import Derived.Test.YtiebbecknfpdeaaGreatDoorQB10
import Derived.Test.YtiebbecknfpdeaaGreatDoorQB11
import Derived.Test.YtiebbecknfpdeaaGreatDoorQB2
import Derived.Test.YtiebbecknfpdeaaGreatDoorQVj
import Derived.Test.YtiebbecknfpdeaaGreatDoorQWc
namespace Go.Proofs.YtiebbecknfpdeaaGreatDoor
open Go.RowKit
namespace Eng
open Wr
attribute [local irreducible] xs T
/-- A closure that gives a node anew, or says why not. -/
def ChC (w : World) (g : Nat) (fid : FuncId) (cap : Array Value) (f : Nd → Nd × Int) : Prop :=
  ∀ w' (x : NdV), Fr (· = g) w w' → NdIn w' x → NdL x.n → bytesP x.n.data ≤ 1000000 → Does Tryz.prog fid (#[.agg (ndC x).toArray] ++ cap) w' fun r w'' => ∃ x', r = .tuple #[.agg (ndC x').toArray, .int .i64 (f x.n).2] ∧ x'.n = (f x.n).1 ∧ (∀ u ∈ ndC x', u.oneCell' = true) ∧ ((f x.n).2 = 0 → NdO w'' w'.heap.size x') ∧ Ext w' w''
set_option maxRecDepth 20000 in
set_option maxHeartbeats 4000000 in
theorem write1_does (w : World) (g b1 b2 : Nat) (pos : Int) (s : Str) (h1 : w.cell? ⟨b1, 0, none⟩ = some (.int .i64 pos)) (h2 : w.cell? ⟨b2, 0, none⟩ = some (.string (su s))) (n1 : b1 ≠ g) (n2 : b2 ≠ g) (hsl : s.length ≤ 1000000) (hp : pos ≤ 4000000000000000000) :
    ChC w g 81 #[.pointer (some ⟨b1, 0, none⟩), .pointer (some ⟨b2, 0, none⟩)] (fun n => writeN n pos s) := by
  intro w0 x hF hx hL hb
  refine does3 Tryz.func81 rfl (by kernel_rfl) ?_
  have k1 := hF.cell h1 n1
  have k2 := hF.cell h2 n2
  refine goL ?_
  refine xbox rfl (fun w1 hB1 hE1 hs1 => ?_)
  refine goL ?_
  refine xalloc (z := .agg nd0) (by kernel_rfl) (fun w2 hB2 hE2 hs2 => ?_)
  have hE02 : Ext w0 w2 := hE1.t hE2
  have hB : Blk w2 w0.heap.size 67 (ndC x).toArray := Blk.ext hB1 hE2
  have q1 := hE02.cell k1
  have q2 := hE02.cell k2
  have z1 := hE1.size
  refine goL ?_
  refine xlda (t := 67) hB rfl rfl ?_
  refine goL ?_
  refine xcallE rfl rfl (nwrite_does w2 x pos s (hx.ext hE02) hL hb hsl hp) (fun r w3 h3 => ?_)
  obtain ⟨x', rfl, hn, hI, hO, hE3⟩ := h3
  refine goL ?_
  refine xsta (hB2.ext hE3) rfl rfl (by kernel_rfl) rfl (one_cells (l := ndC x') (List.all_eq_true.2 (ndC_one hI))) (fun w4 hB4 hF4 => ?_)
  have z3 := hE3.size; have z2 := hE2.size
  have hE4 : Ext w0 w4 := (hE02.t hE3).trans hF4 fun j hj e => by have : j = w1.heap.size := e; omega
  have hO4 : ∀ {b : Nat}, w2.heap.size ≤ b → b ≠ w1.heap.size := fun h e => by omega
  refine goL ?_
  exact tretc2 rfl rfl rfl hB4 (by kernel_rfl) ⟨x', rfl, hn, ndC_one hI, (fun h => ((hO h).fr hF4 fun b hb => hO4 ((hO h).f b hb)).mono (by omega)), hE4⟩
set_option maxRecDepth 20000 in
set_option maxHeartbeats 4000000 in
theorem size1_does (w : World) (g b1 : Nat) (size : Int) (h1 : w.cell? ⟨b1, 0, none⟩ = some (.int .i64 size)) (n1 : b1 ≠ g) :
    ChC w g 87 #[.pointer (some ⟨b1, 0, none⟩)] (fun n => cutN n size) := by
  intro w0 x hF hx hL hb
  refine does2 Tryz.func87 rfl (by kernel_rfl) ?_
  have k1 := hF.cell h1 n1
  refine goL ?_
  refine xbox rfl (fun w1 hB1 hE1 hs1 => ?_)
  refine goL ?_
  refine xalloc (z := .agg nd0) (by kernel_rfl) (fun w2 hB2 hE2 hs2 => ?_)
  have hE02 : Ext w0 w2 := hE1.t hE2
  have hB : Blk w2 w0.heap.size 67 (ndC x).toArray := Blk.ext hB1 hE2
  have q1 := hE02.cell k1
  have z1 := hE1.size
  refine goL ?_
  refine xlda (t := 67) hB rfl rfl ?_
  refine goL ?_
  refine xcallE rfl rfl (ncut_does w2 x size (hx.ext hE02) hL hb) (fun r w3 h3 => ?_)
  obtain ⟨x', rfl, hn, hI, hO, hE3⟩ := h3
  refine goL ?_
  refine xsta (hB2.ext hE3) rfl rfl (by kernel_rfl) rfl (one_cells (l := ndC x') (List.all_eq_true.2 (ndC_one hI))) (fun w4 hB4 hF4 => ?_)
  have z3 := hE3.size; have z2 := hE2.size
  have hE4 : Ext w0 w4 := (hE02.t hE3).trans hF4 fun j hj e => by have : j = w1.heap.size := e; omega
  have hO4 : ∀ {b : Nat}, w2.heap.size ≤ b → b ≠ w1.heap.size := fun h e => by omega
  refine goL ?_
  exact tretc2 rfl rfl rfl hB4 (by kernel_rfl) ⟨x', rfl, hn, ndC_one hI, (fun h => ((hO h).fr hF4 fun b hb => hO4 ((hO h).f b hb)).mono (by omega)), hE4⟩
end Eng
end Go.Proofs.YtiebbecknfpdeaaGreatDoor
namespace Go.Proofs.YtiebbecknfpdeaaGreatDoor
open Go.RowKit
namespace Eng
open Wr
/-- A file's node is made anew. -/
def changeE (m : FsM) (t : Tre) (p : Str) (f : Nd → Nd × Int) : Int :=
  if (findM t p).2 ≠ 0 then (findM t p).2 else if (nodeAt t (findM t p).1).kind = 1 then 8 else if (nodeAt t (findM t p).1).kind ≠ 2 then 9
  else if (f (nodeAt t (findM t p).1)).2 ≠ 0 then (f (nodeAt t (findM t p).1)).2
  else if m.quota < (totalT t.ns : Int) - bytesP (nodeAt t (findM t p).1).data + bytesP (f (nodeAt t (findM t p).1)).1.data then 10 else 0
def changeT (m : FsM) (t : Tre) (p : Str) (f : Nd → Nd × Int) : Tre := if changeE m t p f = 0 then ⟨t.es, t.ns.set (findM t p).1.toNat { (f (nodeAt t (findM t p).1)).1 with time := m.calls }⟩ else t
attribute [local irreducible] xs T
set_option maxRecDepth 20000 in
set_option maxHeartbeats 8000000 in
theorem change_does (w : World) (B g : Nat) (m : FsM) (vf ve vn : Value) (nvs : List NdV) (t : Tre) (p : Str) (fid : FuncId) (cap : Array Value) (f : Nd → Nd × Int) (h : FsO w B g m vf ve vn nvs t) (hfid : bit m_cal fid = true) (hed : ChC w g fid cap f)
    (hL : ∀ n ∈ t.ns, (f n).2 = 0 → NdL (f n).1 ∧ bytesP (f n).1.data ≤ 1000000) :
    Does Tryz.prog 80 #[.pointer (some ⟨g, 0, none⟩), .string (su p), .func (.func fid) #[] cap] w fun r w' => r = .int .i64 (changeE m t p f) ∧ ∃ nvs', FsS w B g vf ve vn nvs w' m (changeT m t p f) ve vn nvs' := by
  refine does3 Tryz.func80 rfl (by kernel_rfl) ?_
  have hlen := h.i.tr.len
  have hg := h.i.k.lt
  obtain ⟨A, c, rfl, hc1, hc2, _⟩ := h.i.tr.e.op enC_len
  refine goL ?_
  refine xcall rfl rfl (fsfind_does w g _ vf _ _ nvs t p h.i) ?_
  rintro r w3 ⟨rfl, hE3⟩
  have hS3 := FsS.ext h hE3
  unfold changeT changeE
  by_cases e1 : (findM t p).2 = 0
  · rw [if_neg (fun h => h e1), e1]
    obtain ⟨i, hi, hil⟩ := find_range h.i.r e1
    rw [hi, Int.toNat_natCast]
    obtain ⟨gN, cN, rfl, hgN, hgN2, hcN, _, hcell⟩ := OwnZ.go h.o.n (by omega)
    obtain ⟨y, hy⟩ : ∃ y, nvs[i]? = some y := ⟨_, List.getElem?_eq_getElem (by omega)⟩
    have hyn : nodeAt t (i : Int) = y.n := by unfold nodeAt; rw [Int.toNat_natCast]; exact h.i.tr.getD hy
    rw [hyn]
    have hgg : gN ≠ g := h.i.a gN (.inr (.inl rfl))
    have k5 : w3.cell? ⟨g, 5, none⟩ = some (.slice (some ⟨gN, 0, none⟩) nvs.length cN) := hS3.o.i.k.cell 5
    have hyO := hS3.o.o.i y (List.mem_of_getElem? hy)
    have hyt := List.mem_of_getElem? (h.i.tr.get hy)
    repeat' (first | refine xizq i (i * 12) rfl rfl rfl rfl (by omega) (by omega) ?_ | refine go1L ?_ | fail)
    refine xldz (cs := ndC y) rfl (by kernel_rfl) (fun j u hu => hE3.cell (hcell _ u (flat_get ndC_len hy hu))) ?_
    refine goL ?_
    refine xalloc (z := .agg nd0) (by kernel_rfl) (fun w4 hB4 hE4 hs4 => ?_)
    refine goL ?_
    refine xsta hB4 rfl rfl (by kernel_rfl) rfl (one_cells (l := ndC y) (List.all_eq_true.2 (ndC_one hyO.in))) (fun w5 hB5 hF5 => ?_)
    have hE35 : Ext w3 w5 := hE4.trans hF5 fun j hj e => by have : j = w3.heap.size := e; omega
    have hS5 := hS3.t (FsS.ext hS3.o hE35)
    have z3 := hE3.size
    have q0 : w5.cell? ⟨w3.heap.size, 0, none⟩ = some (.int .i64 y.n.kind) := hB5.cell 0
    by_cases k1 : y.n.kind = 1
    · rw [if_pos k1]
      refine goL ?_
      exact tret1 rfl rfl ⟨rfl, _, hS5⟩
    rw [if_neg k1]
    by_cases k2 : y.n.kind = 2
    · rw [if_neg (fun h => h k2)]
      refine goL ?_
      refine xlda (t := 67) hB5 rfl rfl ?_
      refine goL ?_
      refine xcallv (vs := [.agg (ndC y).toArray]) rfl rfl hfid (hed w5 y (show Ext w w5 from hE3.t hE35).fr (hyO.in.ext hE35) (h.i.l y.n hyt) (h.i.s y.n hyt)) ?_
      rintro r w6 ⟨y', rfl, hyn', hone', hO6, hE6⟩
      have hS6 := hS5.t (FsS.ext hS5.o hE6)
      refine goL ?_
      refine xalloc (z := .agg nd0) (by kernel_rfl) (fun w7 hB7 hE7 hs7 => ?_)
      refine xsta hB7 rfl rfl (by kernel_rfl) rfl (one_cells (l := ndC y') (List.all_eq_true.2 hone')) (fun w8 hB8 hF8 => ?_)
      have hE68 : Ext w6 w8 := hE7.trans hF8 fun j hj e => by have : j = w6.heap.size := e; omega
      have hS8 := hS6.t (FsS.ext hS6.o hE68)
      by_cases e6 : (f y.n).2 = 0
      · rw [if_neg (fun h => h e6)]
        have hB5' := (hB5.ext hE6).ext hE68
        have hq : Blk w8.drew w3.heap.size 67 (ndC y).toArray ∧ Blk w8.drew w6.heap.size 67 (ndC y').toArray ∧ w8.drew.cell? ⟨g, 0, none⟩ = some (.int .i64 m.quota) := ⟨hB5'.drew, hB8.drew, hS8.o.i.k.cell 0⟩
        refine goL ?_
        refine tdrawH [45, 48, 54] (fun w' => Blk w' w3.heap.size 67 (ndC y).toArray ∧ Blk w' w6.heap.size 67 (ndC y').toArray ∧ w'.cell? ⟨g, 0, none⟩ = some (.int .i64 m.quota)) (by kernel_rfl) (by decide +kernel) hq ?_
        refine goL ?_
        have hS8d := hS8.t (FsS.ext hS8.o (Fr.drew noneB w8))
        refine xcall rfl rfl (used_does w8.drew g _ vf _ _ nvs t hS8d.o.i) ?_ (fun r w' h => ⟨hq.1.ext h.2, hq.2.1.ext h.2, h.2.cell hq.2.2⟩)
        rintro r w9 ⟨rfl, hE9⟩
        have hq9 := And.intro (hq.1.ext hE9) (And.intro (hq.2.1.ext hE9) (hE9.cell hq.2.2))
        have hS9 := hS8d.t (FsS.ext hS8d.o hE9)
        have hE59 : Ext w5 w9 := ((hE6.t hE68).t (Fr.drew noneB w8)).t hE9
        have hyI := (hyO.in.ext hE35).ext hE59
        have hO9 := (((hO6 e6).ext hE68).ext (Fr.drew noneB w8)).ext hE9
        obtain ⟨hL1, hL2⟩ := hL y.n hyt e6
        have htot := totalT_le h.i.s
        have hln := h.i.ln
        have hby := h.i.s y.n hyt
        refine goL ?_
        refine xldzh (cs := ndC y) rfl (by kernel_rfl) (fun w' h j u hu => by rw [Nat.zero_add, h.1.cell, List.getElem?_toArray]; exact hu) ?_
        refine xcall rfl rfl (bytes_does w9 y hyI (h.i.s y.n hyt)) ?_ (fun r w' h => ⟨hq9.1.ext h.2, hq9.2.1.ext h.2, h.2.cell hq9.2.2⟩)
        rintro r w10 ⟨rfl, hE10⟩
        have hq10 := And.intro (hq9.1.ext hE10) (And.intro (hq9.2.1.ext hE10) (hE10.cell hq9.2.2))
        have hS10 := hS9.t (FsS.ext hS9.o hE10)
        refine goL ?_
        refine xldzh (cs := ndC y') rfl (by kernel_rfl) (fun w' h j u hu => by rw [Nat.zero_add, h.2.1.cell, List.getElem?_toArray]; exact hu) ?_
        refine xcall rfl rfl (bytes_does w10 y' (hO9.in.ext hE10) (by rw [hyn']; exact hL2)) ?_ (fun r w' h => ⟨hq10.1.ext h.2, hq10.2.1.ext h.2, h.2.cell hq10.2.2⟩)
        rintro r w11 ⟨rfl, hE11⟩
        have hq11 := And.intro (hq10.1.ext hE11) (And.intro (hq10.2.1.ext hE11) (hE11.cell hq10.2.2))
        have hS11 := hS10.t (FsS.ext hS10.o hE11)
        have hO11 := (hO9.ext hE10).ext hE11
        have hB11 := hq11.2.1
        have hbq : bytesP y'.n.data = bytesP (f y.n).1.data := by rw [hyn']
        rw [hbq]
        have hE611 : Ext w6 w11 := (((hE68.t (Fr.drew noneB w8)).t hE9).t hE10).t hE11
        have z6 := hE6.size
        by_cases hqq : m.quota < (totalT t.ns : Int) - bytesP y.n.data + bytesP (f y.n).1.data
        · rw [if_pos hqq, if_neg (by decide)]
          repeat' (first | refine xldh rfl rfl (fun _ h => h.2.2) ?_ | refine go1L ?_ | fail)
          exact tret1 rfl rfl ⟨rfl, _, hS11⟩
        · rw [if_neg hqq, if_pos rfl]
          repeat' (first | refine xldh rfl rfl (fun _ h => h.2.2) ?_ | refine go1L ?_ | fail)
          refine xcall rfl rfl (clock_does w11 g _ vf _ _ hS11.o.i.k) ?_
          rintro r w12 ⟨rfl, rfl⟩
          refine goL ?_
          refine xstb hB11 rfl rfl (by kernel_rfl) rfl rfl (fun w12 hB12 hF12 => ?_)
          have hB12' : Blk w12 w6.heap.size 67 (ndC ⟨timeN y'.n m.calls, y'.va, y'.vc, y'.vd⟩).toArray := hB12
          have hd := Fr.drew noneB w12
          have hE12d : Ext w12 w12.drew := hd
          have hE612 : Ext w6 w12.drew := (hE611.trans hF12 fun j hj e => by have : j = w6.heap.size := e; omega).t hE12d
          have hS12 := hS6.t (FsS.ext hS6.o hE612)
          have hO12 := (hO11.fr hF12 fun b hb => hO11.ne hB11 (by decide) (by decide) (by decide) hb).ext hE12d
          have hO12' : NdO w12.drew w5.heap.size ⟨timeN y'.n m.calls, y'.va, y'.vc, y'.vd⟩ := ⟨hO12.a, hO12.c, hO12.d⟩
          have hB12d := hB12'.ext hE12d
          have k5d : w12.drew.cell? ⟨g, 5, none⟩ = some (.slice (some ⟨gN, 0, none⟩) nvs.length cN) := hS12.o.i.k.cell 5
          have hB5g : B ≤ w5.heap.size := by have h1 := h.b; have := hE35.size; omega
          refine goL ?_
          refine xlda (t := 67) hB12d rfl rfl ?_
          repeat' (first | refine xizq i (i * 12) rfl rfl rfl rfl (by omega) (by omega) ?_ | refine go1L ?_ | fail)
          refine xstow ndC_len i hS12.o.o.n rfl rfl rfl (by kernel_rfl) (ndC_one hO12'.in) (by omega) (fun w13 hO13 hF13 => ?_)
          have hF13' : Fr (FsK g (.slice A t.es.length c) (.slice (some ⟨gN, 0, none⟩) nvs.length cN)) w12.drew w13 := hF13.mono fun b _ hb => .inr (.inr (by have : b = gN := hb; rw [this]; rfl))
          have hnn : timeN y'.n m.calls = timeN (f y.n).1 m.calls := by rw [hyn']
          have hxl : ∀ n ∈ t.ns.set i (timeN (f y.n).1 m.calls), n ∈ t.ns ∨ n = timeN (f y.n).1 m.calls := fun n hn => List.mem_or_eq_of_mem_set hn
          have hE312 : Ext w3 w12.drew := (hE35.t hE6).t hE612
          have hS13 : FsS w3 B g vf (.slice A t.es.length c) (.slice (some ⟨gN, 0, none⟩) nvs.length cN) nvs w13 m ⟨t.es, t.ns.set i (timeN (f y.n).1 m.calls)⟩ (.slice A t.es.length c) (.slice (some ⟨gN, 0, none⟩) nvs.length cN) (nvs.set i ⟨timeN y'.n m.calls, y'.va, y'.vc, y'.vd⟩) :=
            ⟨hS12.o.step hF13' rfl (hS12.o.i.k.fr hF13 (fun e => hgg e.symm)) (hS12.o.o.e.fr hF13 fun b hb e => hS12.o.o.e.apart hS12.o.o.n (by decide) hb (by have : b = gN := e; rw [this]; rfl)) hO13
              (fun x hx => (List.mem_or_eq_of_mem_set hx).elim (hS12.o.o.i x) fun e => by rw [e]; exact hO12'.mono hB5g) (by rw [List.map_set, h.o.m, hnn]) (by rw [List.length_set]; exact h.i.r) h.i.h
              (fun n hn => (hxl n hn).elim (h.i.l n) fun e => by rw [e]; exact ⟨hL1.a, hL1.c, hL1.d⟩) (fun n hn => (hxl n hn).elim (h.i.s n) fun e => by rw [e]; exact hL2) h.i.le (by rw [List.length_set]; exact h.i.ln), hE312.fr.t hF13', fun _ hb => .inl hb, fun x hx b hb => ?_⟩
          · refine goL ?_
            exact tret1 rfl rfl ⟨rfl, _, hS3.t hS13⟩
          · rcases List.mem_or_eq_of_mem_set hx with hx | rfl
            · exact .inl ⟨x, hx, hb⟩
            · refine .inr ?_
              have z5 := hE35.size
              rcases hb with hb | hb | hb
              · have := (hO12'.a.blk hb).1; omega
              · have := (hO12'.c.blk hb).1; omega
              · have := (hO12'.d.blk hb).1; omega
      · rw [if_pos e6, if_neg e6]
        refine goL ?_
        exact tret1 rfl rfl ⟨rfl, _, hS8⟩
    · rw [if_pos k2]
      refine goL ?_
      exact tret1 rfl rfl ⟨rfl, _, hS5⟩
  · rw [if_pos e1, if_neg e1]
    refine goL ?_
    exact tret1 rfl rfl ⟨rfl, _, hS3⟩
end Eng
end Go.Proofs.YtiebbecknfpdeaaGreatDoor
namespace Go.Proofs.YtiebbecknfpdeaaGreatDoor
open Go.RowKit
namespace Eng
/-- A filesystem's tree: all its nodes in use. -/
structure FsG (t : Tre) : Prop where
  f : FsT t
  u : ∀ i : Nat, i < t.ns.length → ∃ e ∈ t.es, e.node = (i : Int)
theorem set_kind {ns : List Nd} {i : Nat} {n' : Nd} (hk : n'.kind = (ns.getD i default).kind) (k : Int) : kindAt (ns.set i n') k = kindAt ns k := by
  unfold kindAt
  rw [List.getD_eq_getElem?_getD, List.getElem?_set]
  by_cases h : i = k.toNat
  · subst h
    rw [if_pos rfl]
    split
    · exact hk
    · rename_i hl
      rw [List.getD_eq_getElem?_getD, List.getElem?_eq_none (by omega)]
  · rw [if_neg h, List.getD_eq_getElem?_getD]
theorem FsG.set {t : Tre} (h : FsG t) {i : Nat} {n' : Nd} (hk : n'.kind = (t.ns.getD i default).kind) (hn : nodeOK n' = true) : FsG ⟨t.es, t.ns.set i n'⟩ := by
  refine ⟨⟨⟨fun e he => by dsimp only; rw [List.length_set]; exact h.f.g.inr e he, h.f.g.len, h.f.g.path, h.f.g.nd, ?_, fun e he hne => ?_, fun e he => ?_, fun e he hk1 => h.f.g.dir e he ((set_kind hk _).symm.trans hk1)⟩, h.f.a⟩, fun j hj => h.u j (by dsimp only at hj; rwa [List.length_set] at hj)⟩
  · obtain ⟨e, he, hp, hk1⟩ := h.f.g.root
    exact ⟨e, he, hp, (set_kind hk _).trans hk1⟩
  · obtain ⟨d, hd, hp, hk1⟩ := h.f.g.par e he hne
    exact ⟨d, hd, hp, (set_kind hk _).trans hk1⟩
  · have h1 := h.f.g.inr e he
    show nodeOK ((t.ns.set i n').getD e.node.toNat default) = true
    rw [List.getD_eq_getElem?_getD, List.getElem?_set]
    split
    · rename_i e1
      split
      · exact hn
      · omega
    · rw [← List.getD_eq_getElem?_getD]; exact h.f.g.node e he
theorem FsG.node {t : Tre} (h : FsG t) {i : Nat} (hi : i < t.ns.length) : nodeOK (t.ns.getD i default) = true := by
  obtain ⟨e, he, h1⟩ := h.u i hi
  have := h.f.g.node e he
  rwa [h1, Int.toNat_natCast] at this
theorem metaOK_time {n : Nd} {c : Int} (h : metaOK n = true) (hc : 0 ≤ c) : metaOK (timeN n c) = true := by
  unfold metaOK at h ⊢
  unfold timeN
  simp only [Bool.and_eq_true, decide_eq_true_eq] at h ⊢
  obtain ⟨⟨⟨⟨⟨⟨⟨⟨h1, h2⟩, h3⟩, h4⟩, _⟩, h6⟩, h7⟩, h8⟩, h9⟩ := h
  exact ⟨⟨⟨⟨⟨⟨⟨⟨h1, h2⟩, h3⟩, h4⟩, hc⟩, h6⟩, h7⟩, h8⟩, h9⟩
/-- A node with other metadata. -/
theorem nodeOK_meta {n n' : Nd} (h : nodeOK n = true) (hm : metaOK n' = true) (e : n'.kind = n.kind ∧ n'.size = n.size ∧ n'.data = n.data ∧ n'.target = n.target ∧ n'.major = n.major ∧ n'.minor = n.minor) : nodeOK n' = true := by
  obtain ⟨e1, e2, e3, e4, e5, e6⟩ := e
  unfold nodeOK at h ⊢
  rw [Bool.and_eq_true] at h ⊢
  refine ⟨hm, ?_⟩
  have h2 := h.2
  unfold noData noText noDev fileOK at h2 ⊢
  rw [e1, e2, e3, e4, e5, e6]
  exact h2
theorem nodeOK_time {n : Nd} {c : Int} (h : nodeOK n = true) (hc : 0 ≤ c) : nodeOK (timeN n c) = true :=
  nodeOK_meta h (metaOK_time (by unfold nodeOK at h; rw [Bool.and_eq_true] at h; exact h.1) hc) ⟨rfl, rfl, rfl, rfl, rfl, rfl⟩
theorem FsG.stamp {t : Tre} (h : FsG t) (p : Str) {c : Int} (hc : 0 ≤ c) : FsG (stampT t p c) := by
  unfold stampT stampN
  cases parP p with
  | none => exact h
  | some q =>
    dsimp only
    cases hf : findT t.es q with
    | none => exact h
    | some k =>
      obtain ⟨e, he, _, h2⟩ := findT_mem hf
      have h3 := h.f.g.node e he
      rw [h2] at h3
      exact h.set rfl (nodeOK_time h3 hc)
theorem lessL_app : ∀ (l : List Str) (x : Str), lessL l (l ++ [x]) = true
  | [], _ => rfl
  | y :: r, x => by rw [List.cons_append, lessL, if_pos rfl]; exact lessL_app r x
theorem insP_cons (e : En) (r : List En) (p : Str) (k : Int) : insP (e :: r) p k = if lessP e.path p = true then e :: insP r p k else ⟨p, k⟩ :: e :: r := by
  unfold insP
  rw [atP]
  split <;> rfl
theorem insP_perm (es : List En) (p : Str) (k : Int) : (insP es p k).Perm (⟨p, k⟩ :: es) := by
  unfold insP
  exact List.perm_middle.trans (by rw [List.take_append_drop])
theorem insP_asc {p : Str} {k : Int} (hp : mayP p = true) : ∀ {es : List En}, es.Pairwise ltE → (∀ e ∈ es, mayP e.path = true) → (∀ e ∈ es, e.path ≠ p) → (insP es p k).Pairwise ltE
  | [], _, _, _ => List.pairwise_singleton _ _
  | e :: r, h, hm, hn => by
    rw [List.pairwise_cons] at h
    rw [insP_cons]
    split
    · rename_i hl
      rw [List.pairwise_cons]
      refine ⟨fun y hy => ?_, insP_asc hp h.2 (fun x hx => hm x (by simp [hx])) fun x hx => hn x (by simp [hx])⟩
      rcases List.mem_cons.1 ((insP_perm r p k).mem_iff.1 hy) with rfl | hy
      · exact hl
      · exact h.1 y hy
    · rename_i hl
      have hlt : ltE ⟨p, k⟩ e := le_lt (a := ⟨p, k⟩) hp (hm e (by simp)) (fun e' => hn e (by simp) e'.symm) (by unfold leE; simpa using hl)
      rw [List.pairwise_cons, List.pairwise_cons]
      exact ⟨fun y hy => (List.mem_cons.1 hy).elim (fun e' => e' ▸ hlt) fun hy => lessL_trans _ _ _ hlt (h.1 y hy), h⟩
theorem FsT.app {t : Tre} (h : FsT t) (n : Nd) : FsT ⟨t.es, t.ns ++ [n]⟩ := by
  have hg : ∀ e ∈ t.es, (t.ns ++ [n]).getD e.node.toNat default = t.ns.getD e.node.toNat default := fun e he => by
    have := h.g.inr e he
    rw [List.getD_eq_getElem?_getD, List.getElem?_append_left (by omega), List.getD_eq_getElem?_getD]
  have hk : ∀ e ∈ t.es, kindAt (t.ns ++ [n]) e.node = kindAt t.ns e.node := fun e he => by unfold kindAt; rw [hg e he]
  refine ⟨⟨fun e he => ?_, h.g.len, h.g.path, h.g.nd, ?_, fun e he hne => ?_, fun e he => ?_, fun e he hk1 => h.g.dir e he ((hk e he).symm.trans hk1)⟩, h.a⟩
  · have := h.g.inr e he
    dsimp only
    rw [List.length_append]
    simp only [List.length_cons, List.length_nil]
    omega
  · obtain ⟨e, he, hp, hk1⟩ := h.g.root
    exact ⟨e, he, hp, (hk e he).trans hk1⟩
  · obtain ⟨d, hd, hp, hk1⟩ := h.g.par e he hne
    exact ⟨d, hd, hp, (hk d hd).trans hk1⟩
  · dsimp only; rw [hg e he]; exact h.g.node e he
theorem FsT.ins {t : Tre} (h : FsT t) {p : Str} {k : Int} (hl : t.es.length < 100) (hp : mayP p = true) (hnew : ∀ e ∈ t.es, e.path ≠ p) (hpar : p ≠ [] → ∃ d ∈ t.es, d.path = upP p ∧ kindAt t.ns d.node = 1) (hk : 0 ≤ k ∧ k < t.ns.length) (hn : nodeOK (t.ns.getD k.toNat default) = true) (hd : kindAt t.ns k ≠ 1 ∨ ∀ e ∈ t.es, e.node ≠ k) : FsT ⟨insP t.es p k, t.ns⟩ := by
  have hpm := insP_perm t.es p k
  have hmem : ∀ e, e ∈ insP t.es p k ↔ e = ⟨p, k⟩ ∨ e ∈ t.es := fun e => by rw [hpm.mem_iff, List.mem_cons]
  refine ⟨⟨fun e he => ?_, ?_, fun e he => ?_, ?_, ?_, fun e he hne => ?_, fun e he => ?_, fun e he hk1 e' he' hee => ?_⟩, insP_asc hp h.a h.g.path hnew⟩
  · rcases (hmem e).1 he with rfl | he
    · exact hk
    · exact h.g.inr e he
  · dsimp only; rw [hpm.length_eq, List.length_cons]; omega
  · rcases (hmem e).1 he with rfl | he
    · exact hp
    · exact h.g.path e he
  · rw [(hpm.map (·.path)).nodup_iff, List.map_cons, List.nodup_cons]
    exact ⟨fun hm => by obtain ⟨e, he, h1⟩ := List.mem_map.1 hm; exact hnew e he h1, h.g.nd⟩
  · obtain ⟨e, he, h1, h2⟩ := h.g.root
    exact ⟨e, (hmem e).2 (.inr he), h1, h2⟩
  · rcases (hmem e).1 he with rfl | he
    · obtain ⟨d, hd, h1, h2⟩ := hpar hne
      exact ⟨d, (hmem d).2 (.inr hd), h1, h2⟩
    · obtain ⟨d, hd, h1, h2⟩ := h.g.par e he hne
      exact ⟨d, (hmem d).2 (.inr hd), h1, h2⟩
  · rcases (hmem e).1 he with rfl | he
    · exact hn
    · exact h.g.node e he
  · rcases (hmem e).1 he with rfl | he
    · rcases (hmem e').1 he' with rfl | he'
      · rfl
      · rcases hd with hd | hd
        · exact absurd hk1 hd
        · exact absurd hee (hd e' he')
    · rcases (hmem e').1 he' with rfl | he'
      · have hee : k = e.node := hee
        rcases hd with hd | hd
        · rw [hee] at hd; exact absurd hk1 hd
        · exact absurd hee.symm (hd e he)
      · exact h.g.dir e he hk1 e' he' hee
theorem wrongU_miss (t : Tre) : ∀ (f : Nat) (o : Option Str), wrongU t f o 7 ≠ 0
  | 0, _ => by rw [wrongU]; decide
  | _ + 1, none => by rw [wrongU]; decide
  | f + 1, some q => by
    rw [wrongU]
    split
    · split
      · exact wrongU_miss t f _
      · decide
    · exact wrongU_miss t f _
theorem wrong_ok {t : Tre} {p : Str} (h : wrongM t p = 0) : mayP p = true ∧ (p ≠ [] → parP p = some (upP p) ∧ ∃ d ∈ t.es, d.path = upP p ∧ kindAt t.ns d.node = 1) := by
  unfold wrongM at h
  split at h
  · rename_i hm
    refine ⟨hm, fun hp0 => ?_⟩
    have hpp : parP p = some (upP p) := by
      unfold parP
      rw [if_neg (fun h0 => by
        rcases parts_eq_nil.1 h0 with h1 | h1
        · exact hp0 h1
        · rw [hm] at h1; cases h1)]
    refine ⟨hpp, ?_⟩
    rw [hpp, wrongU] at h
    cases hf : findT t.es (upP p) with
    | none => rw [hf] at h; exact absurd h (wrongU_miss t _ _)
    | some k =>
      rw [hf] at h
      dsimp only at h
      split at h
      · rename_i hk
        obtain ⟨d, hd, h1, h2⟩ := findT_mem hf
        exact ⟨d, hd, h1, by rw [h2]; exact hk⟩
      · cases h
  · cases h
theorem room_ok {t : Tre} {p : Str} (h : roomM t p = 0) : (∀ e ∈ t.es, e.path ≠ p) ∧ t.es.length < 100 := by
  unfold roomM at h
  split at h
  · cases h
  · rename_i hf
    split at h
    · cases h
    · refine ⟨findT_none (by cases hx : findT t.es p with | none => rfl | some k => rw [hx] at hf; exact absurd rfl hf), by omega⟩
theorem nodeOK_made {n : Nd} {c : Int} (h : nodeOK n = true) (hc : 0 ≤ c) : nodeOK (madeN n c) = true := by
  unfold nodeOK at h ⊢
  rw [Bool.and_eq_true] at h ⊢
  obtain ⟨h1, h2⟩ := h
  constructor
  · unfold metaOK at h1 ⊢
    unfold madeN
    simp only [Bool.and_eq_true, decide_eq_true_eq] at h1
    obtain ⟨⟨⟨⟨⟨⟨⟨⟨h1, h2⟩, h3⟩, h4⟩, _⟩, h6⟩, h7⟩, h8⟩, h9⟩ := h1
    rw [decide_eq_true h1, decide_eq_true h2, decide_eq_true hc]
    rfl
  · have e1 : noData (madeN n c) = true := rfl
    have e2 : noText (madeN n c) = noText n := rfl
    have e3 : noDev (madeN n c) = noDev n := rfl
    have e4 : fileOK (madeN n c) = true := rfl
    rw [e1, e2, e3, e4]
    show (if n.kind = 1 ∨ n.kind = 6 then _ else if n.kind = 2 then _ else if n.kind = 3 then true && noDev n && decide (1 ≤ n.target.length) && decide (n.target.length ≤ 200) && n.target.all _ else if n.kind = 4 ∨ n.kind = 5 then true && noText n && decide (0 ≤ n.major) && decide (n.major ≤ 65535) && decide (0 ≤ n.minor) && decide (n.minor ≤ 65535) else false) = true
    split at h2
    · rename_i hk
      rw [if_pos hk]
      simp only [Bool.and_eq_true] at h2 ⊢
      exact ⟨⟨trivial, h2.1.2⟩, h2.2⟩
    · rename_i hk
      rw [if_neg hk]
      split at h2
      · rename_i hk
        rw [if_pos hk]
        simp only [Bool.and_eq_true] at h2 ⊢
        exact ⟨⟨trivial, h2.1.2⟩, h2.2⟩
      · rename_i hk
        rw [if_neg hk]
        split at h2
        · rename_i hk
          rw [if_pos hk]
          simp only [Bool.and_eq_true] at h2 ⊢
          exact ⟨⟨⟨⟨trivial, h2.1.1.1.2⟩, h2.1.1.2⟩, h2.1.2⟩, h2.2⟩
        · rename_i hk
          rw [if_neg hk]
          split at h2
          · rename_i hk
            rw [if_pos hk]
            simp only [Bool.and_eq_true] at h2 ⊢
            exact ⟨⟨⟨⟨⟨trivial, h2.1.1.1.1.2⟩, h2.1.1.1.2⟩, h2.1.1.2⟩, h2.1.2⟩, h2.2⟩
          · cases h2
theorem make_fsg {m : FsM} {t : Tre} {p : Str} {n : Nd} (h : FsG t) (hc : 0 ≤ (begM m).2.2.calls) : FsG (makeT m t p n) := by
  unfold makeT
  split
  · rename_i he
    unfold makeE at he
    split at he
    · rename_i h1; exact absurd he h1
    split at he
    · rename_i h1; exact absurd he h1
    split at he
    · cases he
    rename_i _ hw hn
    obtain ⟨hw1, hw2⟩ := wrong_ok (by rw [Decidable.not_not] at hw; exact hw)
    obtain ⟨hr1, hr2⟩ := room_ok he
    have hnk : nodeOK n = true := by simpa using hn
    have hfa := h.f.app (madeN n (begM m).2.2.calls)
    have hka : ∀ e ∈ t.es, kindAt (t.ns ++ [madeN n (begM m).2.2.calls]) e.node = kindAt t.ns e.node := fun e he => by
      have := h.f.g.inr e he
      unfold kindAt
      rw [List.getD_eq_getElem?_getD, List.getElem?_append_left (by omega), List.getD_eq_getElem?_getD]
    unfold enterT
    refine FsG.stamp ⟨hfa.ins (k := (t.ns.length : Int)) hr2 hw1 hr1 (fun h0 => ?_) ?_ ?_ (.inr fun e he => ?_), fun i hi => ?_⟩ p hc
    · obtain ⟨d, hd, h1, h2⟩ := (hw2 h0).2
      exact ⟨d, hd, h1, (hka d hd).trans h2⟩
    · dsimp only; rw [List.length_append]; simp only [List.length_cons, List.length_nil]; omega
    · dsimp only
      rw [Int.toNat_natCast, List.getD_eq_getElem?_getD, List.getElem?_append_right (Nat.le_refl _), Nat.sub_self]
      exact nodeOK_made hnk hc
    · have := h.f.g.inr e he
      omega
    · dsimp only at hi ⊢
      rw [List.length_append] at hi
      simp only [List.length_cons, List.length_nil] at hi
      by_cases hlt : i < t.ns.length
      · obtain ⟨e, he, h1⟩ := h.u i hlt
        exact ⟨e, (insP_perm _ _ _).mem_iff.2 (List.mem_cons_of_mem _ he), h1⟩
      · exact ⟨⟨p, t.ns.length⟩, (insP_perm _ _ _).mem_iff.2 List.mem_cons_self, by dsimp only; omega⟩
  · exact h
theorem find_ok {t : Tre} {p : Str} (h : (findM t p).2 = 0) : wrongM t p = 0 ∧ findT t.es p = some (findM t p).1 := by
  unfold findM at h ⊢
  split at h
  · rename_i hw; exact absurd h hw
  · rename_i hw
    refine ⟨by rw [Decidable.not_not] at hw; exact hw, ?_⟩
    rw [if_neg hw]
    cases hf : findT t.es p with
    | none => rw [hf] at h; cases h
    | some k => rfl
theorem link_fsg {m : FsM} {t : Tre} {p q : Str} (h : FsG t) (hc : 0 ≤ (begM m).2.2.calls) : FsG (linkT m t p q) := by
  unfold linkT
  split
  · rename_i he
    unfold linkE at he
    split at he
    · rename_i h1; exact absurd he h1
    split at he
    · rename_i h1; exact absurd he h1
    split at he
    · cases he
    split at he
    · rename_i h1; exact absurd he h1
    rename_i _ hf hk hw
    obtain ⟨hw1, hw2⟩ := wrong_ok (by rw [Decidable.not_not] at hw; exact hw)
    obtain ⟨hr1, hr2⟩ := room_ok he
    obtain ⟨_, hf2⟩ := find_ok (by rw [Decidable.not_not] at hf; exact hf)
    obtain ⟨d, hd, hdp, hdk⟩ := findT_mem hf2
    have hdr := h.f.g.inr d hd
    have hdn := h.f.g.node d hd
    rw [hdk] at hdr hdn
    unfold enterT
    refine FsG.stamp ⟨h.f.ins hr2 hw1 hr1 (fun h0 => (hw2 h0).2) hdr hdn (.inl hk), fun i hi => ?_⟩ p hc
    obtain ⟨e, he, h1⟩ := h.u i hi
    exact ⟨e, (insP_perm _ _ _).mem_iff.2 (List.mem_cons_of_mem _ he), h1⟩
  · exact h
theorem set_fsg {m : FsM} {t : Tre} {p : Str} {e : Nd → Int} {d : Nd → Nd} (h : FsG t) (hd : ∀ n, nodeOK n = true → e n = 0 → metaOK (d n) = true → nodeOK (d n) = true ∧ (d n).kind = n.kind) : FsG (setT m t p e d) := by
  unfold setT
  split
  · rename_i he
    unfold setE at he
    split at he
    · rename_i h1; exact absurd he h1
    split at he
    · rename_i h1; exact absurd he h1
    split at he
    · rename_i h1; exact absurd he h1
    split at he
    · cases he
    rename_i _ hf h3 hm
    obtain ⟨_, hf2⟩ := find_ok (by rw [Decidable.not_not] at hf; exact hf)
    obtain ⟨x, hx, hxp, hxk⟩ := findT_mem hf2
    have hxn := h.f.g.node x hx
    rw [hxk] at hxn
    obtain ⟨g1, g2⟩ := hd (nodeAt t (findM t p).1) hxn (by rw [Decidable.not_not] at h3; exact h3) (by cases h9 : metaOK (d (nodeAt t (findM t p).1)) with | true => rfl | false => exact absurd h9 hm)
    exact h.set g2 g1
  · exact h
theorem change_fsg {m : FsM} {t : Tre} {p : Str} {f : Nd → Nd × Int} (h : FsG t) (hc : 0 ≤ m.calls) (hd : ∀ n, nodeOK n = true → (f n).2 = 0 → nodeOK (f n).1 = true ∧ (f n).1.kind = n.kind) : FsG (changeT m t p f) := by
  unfold changeT
  split
  · rename_i he
    unfold changeE at he
    split at he
    · rename_i h1; exact absurd he h1
    split at he
    · cases he
    split at he
    · cases he
    split at he
    · rename_i h1; exact absurd he h1
    rename_i hf _ _ h3
    obtain ⟨_, hf2⟩ := find_ok (by rw [Decidable.not_not] at hf; exact hf)
    obtain ⟨x, hx, hxp, hxk⟩ := findT_mem hf2
    have hxn := h.f.g.node x hx
    rw [hxk] at hxn
    obtain ⟨g1, g2⟩ := hd _ hxn (by rw [Decidable.not_not] at h3; exact h3)
    exact h.set (n' := timeN _ _) g2 (nodeOK_time g1 hc)
  · exact h
theorem own_node {n : Nd} {a b : Int} (h : nodeOK n = true) (hm : metaOK (ownN a b n) = true) : nodeOK (ownN a b n) = true ∧ (ownN a b n).kind = n.kind := ⟨nodeOK_meta h hm ⟨rfl, rfl, rfl, rfl, rfl, rfl⟩, rfl⟩
theorem mode_node {n : Nd} {a : Int} (h : nodeOK n = true) (hm : metaOK (modeN a n) = true) : nodeOK (modeN a n) = true ∧ (modeN a n).kind = n.kind := ⟨nodeOK_meta h hm ⟨rfl, rfl, rfl, rfl, rfl, rfl⟩, rfl⟩
theorem time_node {n : Nd} {a : Int} (h : nodeOK n = true) (hm : metaOK (timeN n a) = true) : nodeOK (timeN n a) = true ∧ (timeN n a).kind = n.kind := ⟨nodeOK_meta h hm ⟨rfl, rfl, rfl, rfl, rfl, rfl⟩, rfl⟩
theorem erase_get {ns : List Nd} {k : Int} (hk0 : 0 ≤ k) {e : En} (he : 0 ≤ e.node) (hne : e.node ≠ k) : (ns.eraseIdx k.toNat).getD (decE k e).node.toNat default = ns.getD e.node.toNat default := by
  rw [List.getD_eq_getElem?_getD, List.getElem?_eraseIdx, List.getD_eq_getElem?_getD]
  unfold decE
  split
  · rename_i h
    show (if (e.node - 1).toNat < k.toNat then _ else ns[(e.node - 1).toNat + 1]?).getD default = _
    rw [if_neg (by omega), show (e.node - 1).toNat + 1 = e.node.toNat by omega]
  · rename_i h
    rw [if_pos (by omega)]
theorem FsT.drop {t : Tre} (h : FsT t) {k : Int} (hk : 0 ≤ k ∧ k < t.ns.length) (hno : ∀ e ∈ t.es, e.node ≠ k) : FsT ⟨t.es.map (decE k), t.ns.eraseIdx k.toNat⟩ := by
  have hg : ∀ e ∈ t.es, (t.ns.eraseIdx k.toNat).getD (decE k e).node.toNat default = t.ns.getD e.node.toNat default := fun e he => erase_get hk.1 (h.g.inr e he).1 (hno e he)
  have hkd : ∀ e ∈ t.es, kindAt (t.ns.eraseIdx k.toNat) (decE k e).node = kindAt t.ns e.node := fun e he => by unfold kindAt; rw [hg e he]
  have hpm : (t.es.map (decE k)).map (·.path) = t.es.map (·.path) := by rw [List.map_map]; exact List.map_congr_left fun e _ => decE_path k e
  refine ⟨⟨fun e he => ?_, ?_, fun e he => ?_, ?_, ?_, fun e he hne => ?_, fun e he => ?_, fun e he hk1 e' he' hee => ?_⟩, ltE_map hpm.symm h.a⟩
  · obtain ⟨x, hx, rfl⟩ := List.mem_map.1 he
    have h1 := h.g.inr x hx
    have h2 := hno x hx
    dsimp only
    rw [List.length_eraseIdx, if_pos (by omega)]
    unfold decE
    split
    · dsimp only; omega
    · omega
  · dsimp only; rw [List.length_map]; exact h.g.len
  · obtain ⟨x, hx, rfl⟩ := List.mem_map.1 he
    rw [decE_path]
    exact h.g.path x hx
  · dsimp only; rw [hpm]; exact h.g.nd
  · obtain ⟨e, he, h1, h2⟩ := h.g.root
    exact ⟨_, List.mem_map_of_mem he, (decE_path k e).trans h1, (hkd e he).trans h2⟩
  · obtain ⟨x, hx, rfl⟩ := List.mem_map.1 he
    rw [decE_path] at hne ⊢
    obtain ⟨d, hd, h1, h2⟩ := h.g.par x hx hne
    exact ⟨_, List.mem_map_of_mem hd, (decE_path k d).trans h1, (hkd d hd).trans h2⟩
  · obtain ⟨x, hx, rfl⟩ := List.mem_map.1 he
    dsimp only
    rw [hg x hx]
    exact h.g.node x hx
  · obtain ⟨x, hx, rfl⟩ := List.mem_map.1 he
    obtain ⟨y, hy, rfl⟩ := List.mem_map.1 he'
    have h1 := hno x hx
    have h2 := hno y hy
    have hxy : y.node = x.node := by
      unfold decE at hee
      split at hee <;> split at hee <;> (try dsimp only at hee) <;> omega
    rw [h.g.dir x hx ((hkd x hx).symm.trans hk1) y hy hxy]
theorem FsT.less {t : Tre} (h : FsT t) {p : Str} (hp : p ≠ []) (hk : kidsT t p = []) : FsT ⟨t.es.filter (nB (isP p)), t.ns⟩ := by
  have hmem : ∀ e, e ∈ t.es.filter (nB (isP p)) ↔ e ∈ t.es ∧ e.path ≠ p := fun e => by
    rw [List.mem_filter]
    unfold nB isP
    simp
  refine ⟨⟨fun e he => h.g.inr e ((hmem e).1 he).1, Nat.le_trans (List.length_filter_le _ _) h.g.len, fun e he => h.g.path e ((hmem e).1 he).1, h.g.nd.sublist (List.Sublist.map _ List.filter_sublist), ?_, fun e he hne => ?_, fun e he => h.g.node e ((hmem e).1 he).1, fun e he hk1 e' he' hee => h.g.dir e ((hmem e).1 he).1 hk1 e' ((hmem e').1 he').1 hee⟩, h.a.sublist List.filter_sublist⟩
  · obtain ⟨e, he, h1, h2⟩ := h.g.root
    exact ⟨e, (hmem e).2 ⟨he, by rw [h1]; exact fun e' => hp e'.symm⟩, h1, h2⟩
  · obtain ⟨he1, he2⟩ := (hmem e).1 he
    obtain ⟨d, hd, h1, h2⟩ := h.g.par e he1 hne
    refine ⟨d, (hmem d).2 ⟨hd, fun hdp => ?_⟩, h1, h2⟩
    have hpe : partsP e.path ≠ [] := fun h0 => by
      rcases parts_eq_nil.1 h0 with h3 | h3
      · exact hne h3
      · rw [h.g.path e he1] at h3; cases h3
    have hkm : lastP e.path ∈ kidsT t p := by
      unfold kidsT
      refine List.mem_map.2 ⟨e, List.mem_filter.2 ⟨he1, ?_⟩, rfl⟩
      unfold parP
      rw [if_neg hpe, ← h1, hdp]
      exact decide_eq_true rfl
    rw [hk] at hkm
    cases hkm
theorem off_fsg {t : Tre} (h : FsG t) {p : Str} {k : Int} (hf : findT t.es p = some k) (hp : p ≠ []) (hk : kidsT t p = []) : FsG (offT t p k) := by
  obtain ⟨d, hd, hdp, hdk⟩ := findT_mem hf
  have hdr := h.f.g.inr d hd
  rw [hdk] at hdr
  have hl := h.f.less hp hk
  have hmem : ∀ e, e ∈ t.es.filter (nB (isP p)) ↔ e ∈ t.es ∧ e.path ≠ p := fun e => by
    rw [List.mem_filter]
    unfold nB isP
    simp
  have hcl : (classT t p).length = (t.es.filter fun e => decide (e.node = k)).length := by unfold classT; rw [hf]; dsimp only; rw [List.length_map]
  have hdm : d ∈ t.es.filter fun e => decide (e.node = k) := List.mem_filter.2 ⟨hd, decide_eq_true hdk⟩
  unfold offT
  rw [hcl]
  split
  · rename_i h1
    obtain ⟨z, hz⟩ := List.length_eq_one_iff.1 h1
    have hno : ∀ e ∈ t.es.filter (nB (isP p)), e.node ≠ k := fun e he hek => by
      obtain ⟨he1, he2⟩ := (hmem e).1 he
      have m1 : e ∈ t.es.filter fun e => decide (e.node = k) := List.mem_filter.2 ⟨he1, decide_eq_true hek⟩
      rw [hz, List.mem_singleton] at m1 hdm
      exact he2 (by rw [m1, ← hdm, hdp])
    refine ⟨hl.drop hdr hno, fun i hi => ?_⟩
    dsimp only at hi ⊢
    rw [List.length_eraseIdx, if_pos (by omega)] at hi
    have key : ∀ j : Nat, j < t.ns.length → (j : Int) ≠ k → ∃ e ∈ t.es.filter (nB (isP p)), e.node = (j : Int) := fun j hj hjk => by
      obtain ⟨e, he, h2⟩ := h.u j hj
      refine ⟨e, (hmem e).2 ⟨he, fun hep => hjk ?_⟩, h2⟩
      rw [← h2, nodup_path h.f.g.nd he hd (hep.trans hdp.symm), hdk]
    by_cases hik : (i : Int) < k
    · obtain ⟨e, he, h2⟩ := key i (by omega) (by omega)
      exact ⟨decE k e, List.mem_map_of_mem he, by unfold decE; rw [if_neg (by omega), h2]⟩
    · obtain ⟨e, he, h2⟩ := key (i + 1) (by omega) (by omega)
      exact ⟨decE k e, List.mem_map_of_mem he, by unfold decE; rw [if_pos (by omega)]; dsimp only; omega⟩
  · rename_i h1
    refine ⟨hl, fun i hi => ?_⟩
    obtain ⟨e, he, h2⟩ := h.u i hi
    by_cases hep : e.path = p
    · by_cases hex : ∃ x ∈ t.es, x.node = k ∧ x ≠ d
      · obtain ⟨x, hx, hxk, hxd⟩ := hex
        have hed : e = d := nodup_path h.f.g.nd he hd (hep.trans hdp.symm)
        exact ⟨x, (hmem x).2 ⟨hx, fun hxp => hxd (nodup_path h.f.g.nd hx hd (hxp.trans hdp.symm))⟩, by rw [hxk, ← hdk, ← hed, h2]⟩
      · refine absurd (congrArg List.length (one_of ((nodup_of_paths h.f.g.nd).filter _) hdm fun y hy => ?_)) h1
        obtain ⟨hy1, hy2⟩ := List.mem_filter.1 hy
        by_cases hyd : y = d
        · exact hyd
        · exact absurd ⟨y, hy1, of_decide_eq_true hy2, hyd⟩ hex
    · exact ⟨e, (hmem e).2 ⟨he, hep⟩, h2⟩
theorem gone_ok {m : FsM} {t : Tre} {p : Str} (h : goneE m t p = 0) : (begM m).2.1 = 0 ∧ (findM t p).2 = 0 ∧ p ≠ [] ∧ kidsT t p = [] := by
  unfold goneE at h
  split at h
  · rename_i h1; exact absurd h h1
  split at h
  · rename_i h1; exact absurd h h1
  split at h
  · cases h
  split at h
  · cases h
  rename_i h1 h2 h3 h4
  exact ⟨Decidable.not_not.1 h1, Decidable.not_not.1 h2, h3, List.eq_nil_of_length_eq_zero (by omega)⟩
theorem gone_fsg {m : FsM} {t : Tre} {p : Str} (h : FsG t) (hc : 0 ≤ (begM m).2.2.calls) : FsG (goneT m t p) := by
  unfold goneT
  split
  · rename_i he
    obtain ⟨_, h2, h3, h4⟩ := gone_ok he
    exact (off_fsg h (find_ok h2).2 h3 h4).stamp p hc
  · exact h
/-- The paths that are left. -/
theorem off_paths (t : Tre) (p : Str) (k c : Int) : (stampT (offT t p k) p c).es.map (·.path) = (t.es.map (·.path)).filter fun q => decide (q ≠ p) := by
  show (offT t p k).es.map (·.path) = _
  have h1 : (t.es.filter (nB (isP p))).map (·.path) = (t.es.map (·.path)).filter fun q => decide (q ≠ p) := by
    rw [List.filter_map]
    congr 1
    refine List.filter_congr fun e _ => ?_
    unfold nB isP
    simp
  unfold offT
  split
  · dsimp only
    rw [List.map_map, ← h1]
    exact List.map_congr_left fun e _ => decE_path k e
  · exact h1
theorem may_used {t : Tre} (h : mayT t = true) {i : Nat} (hi : i < t.ns.length) : ∃ e ∈ t.es, e.node = (i : Int) := by
  have h' := h
  unfold mayT at h'
  simp only [Bool.and_eq_true, decide_eq_true_eq] at h'
  obtain ⟨⟨⟨⟨_, _⟩, h3⟩, _⟩, _⟩ := h'
  obtain ⟨_, g2, g3, _, _⟩ := (ordB_iff t.ns t.es none 0 (Nat.zero_le _)).1 h3
  have := (cnt_pos t.es 0 i g2 (Nat.zero_le _)).2 (by rw [g3]; exact hi)
  unfold cntN at this
  obtain ⟨e, he, h1⟩ := List.countP_pos_iff.1 this
  exact ⟨e, he, of_decide_eq_true h1⟩
/-- A made tree's nodes are all in use. -/
theorem may_fsg {t : Tre} (h : mayT t = true) : FsG t := ⟨may_fst h, fun _ hi => may_used h hi⟩
end Eng
end Go.Proofs.YtiebbecknfpdeaaGreatDoor
namespace Go.Proofs.YtiebbecknfpdeaaGreatDoor
open Go.RowKit
namespace Eng
theorem par_parts {t : Tre} (h : FsT t) {e : En} (he : e ∈ t.es) {p : Str} (hp : parP e.path = some p) : partsP e.path = partsP p ++ [lastP e.path] := by
  obtain ⟨h1, h2⟩ := par_some hp
  obtain ⟨d, _, h3, h4, _⟩ := up_ent h he h1
  rw [hp] at h3
  rw [Option.some.inj h3]
  exact h4
theorem kids_nil {t : Tre} (h : FsT t) {l : List Str} {p : Str} (hl : t.es.map (·.path) = l ++ [p]) : kidsT t p = [] := by
  cases hk : kidsT t p with
  | nil => rfl
  | cons x r =>
    obtain ⟨e, he, h1, _⟩ := kid_mem (t := t) (p := p) (k := x) (by rw [hk]; exact List.mem_cons_self)
    have hlt : lessP p e.path = true := by
      unfold lessP
      rw [par_parts h he h1]
      exact lessL_app _ _
    have hm : e.path ∈ l ++ [p] := by rw [← hl]; exact List.mem_map_of_mem he
    have hpw : (l ++ [p]).Pairwise (fun a b => lessP a b = true) := by rw [← hl]; exact List.pairwise_map.2 h.a
    rcases List.mem_append.1 hm with hm | hm
    · have h2 := (List.pairwise_append.1 hpw).2.2 _ hm p (by simp)
      have h3 := lessL_asym h2
      unfold lessP at hlt
      rw [h3] at hlt
      cases hlt
    · rw [List.mem_singleton.1 hm] at hlt
      unfold lessP at hlt
      rw [lessL_irr] at hlt
      cases hlt
theorem gone_up {m : FsM} {t : Tre} (h : FsT t) {e : En} (he : e ∈ t.es) (hne : e.path ≠ []) (hm : (begM m).2.1 = 0) : goneE m t (upP e.path) ≠ 0 := by
  obtain ⟨d, hd, h1, _⟩ := h.g.par e he hne
  have hf := (find_ent h hd).2
  rw [h1] at hf
  have hpe : partsP e.path ≠ [] := fun h0 => by
    rcases parts_eq_nil.1 h0 with h3 | h3
    · exact hne h3
    · rw [h.g.path e he] at h3; cases h3
  have hkm : lastP e.path ∈ kidsT t (upP e.path) := by
    unfold kidsT
    refine List.mem_map.2 ⟨e, List.mem_filter.2 ⟨he, ?_⟩, rfl⟩
    unfold parP
    rw [if_neg hpe]
    exact decide_eq_true rfl
  unfold goneE
  rw [hm, hf, if_neg (fun h => h rfl), if_neg (fun h => h rfl)]
  split
  · decide
  · rw [if_pos (List.length_pos_of_mem hkm)]; decide
theorem gone_last {m : FsM} {t : Tre} (h : FsT t) {l : List Str} {p : Str} (hl : t.es.map (·.path) = l ++ [p]) (hp : p ≠ []) (hm : (begM m).2.1 = 0) : goneE m t p = 0 := by
  have hpm : p ∈ t.es.map (·.path) := by rw [hl]; simp
  obtain ⟨e, he, hep⟩ := List.mem_map.1 hpm
  have hf := (find_ent h he).2
  have hep : e.path = p := hep
  rw [hep] at hf
  unfold goneE
  rw [hm, hf, if_neg (fun h => h rfl), if_neg (fun h => h rfl), if_neg hp, kids_nil h hl, if_neg (by decide)]
theorem gone_paths {m : FsM} {t : Tre} (h : FsT t) {l : List Str} {p : Str} (hl : t.es.map (·.path) = l ++ [p]) (he : goneE m t p = 0) : (goneT m t p).es.map (·.path) = l := by
  unfold goneT
  rw [if_pos he, off_paths, hl, List.filter_append]
  have hnd := h.g.nd
  rw [hl] at hnd
  obtain ⟨_, _, h3⟩ := List.nodup_append.1 hnd
  rw [List.filter_eq_self.2 fun q hq => decide_eq_true (h3 q hq p (by simp))]
  simp
theorem gone_no {m : FsM} {t : Tre} {p : Str} (hn : ∀ e ∈ t.es, e.path ≠ p) : goneE m t p ≠ 0 := fun h => by
  obtain ⟨_, h2, _⟩ := gone_ok h
  obtain ⟨e, he, h3, _⟩ := findT_mem (find_ok h2).2
  exact hn e he h3
theorem gone_same {m : FsM} {t : Tre} {p : Str} (h : goneE m t p ≠ 0) : goneT m t p = t := by unfold goneT; rw [if_neg h]
theorem gone_root {m : FsM} {t : Tre} : goneE m t [] ≠ 0 := fun h => (gone_ok h).2.2.1 rfl
theorem total_zero : ∀ {l : List Nd}, (∀ n ∈ l, n.data = []) → totalT l = 0
  | [], _ => rfl
  | n :: r, h => by
    rw [totalT, h n (by simp), total_zero fun x hx => h x (by simp [hx])]
    rfl
theorem dir_data {n : Nd} (h : nodeOK n = true) (hk : n.kind = 1) : n.data = [] := by
  unfold nodeOK at h
  rw [if_pos (.inl hk), Bool.and_eq_true, Bool.and_eq_true, Bool.and_eq_true] at h
  have := h.2.1.1
  unfold noData at this
  rw [Bool.and_eq_true] at this
  exact of_decide_eq_true this.2
theorem gone_end {t : Tre} (h : FsG t) (hp : t.es.map (·.path) = [[]]) : totalT t.ns = 0 := by
  have hl : t.es.length = 1 := by have := congrArg List.length hp; rwa [List.length_map] at this
  obtain ⟨e, he⟩ := List.length_eq_one_iff.1 hl
  obtain ⟨r, hr, _, hk⟩ := h.f.g.root
  refine total_zero fun n hn => ?_
  obtain ⟨i, hi, rfl⟩ := List.getElem_of_mem hn
  obtain ⟨x, hx, hxn⟩ := h.u i hi
  have hok := h.node hi
  rw [he, List.mem_singleton] at hr hx
  rw [hr, ← hx, hxn] at hk
  unfold kindAt at hk
  rw [Int.toNat_natCast] at hk
  have hgd : t.ns.getD i default = t.ns[i] := by rw [List.getD_eq_getElem?_getD, List.getElem?_eq_getElem hi]; rfl
  rw [hgd] at hk hok
  exact dir_data hok hk
theorem begM_free {m : FsM} (h : m.flts = []) (hd : m.down = false) : (begM m).2.1 = 0 ∧ (begM m).2.2 = { m with calls := m.calls + 1 } := by rw [begM_none h hd]; exact ⟨rfl, rfl⟩
end Eng
end Go.Proofs.YtiebbecknfpdeaaGreatDoor
namespace Go.Proofs.YtiebbecknfpdeaaGreatDoor
open Go.RowKit
namespace Eng
theorem make_new {m : FsM} {t : Tre} {p : Str} {n : Nd} (h : FsG t) (hb : (begM m).2.1 = 0) (hp : mayP p = true) (hpp : parP p = some []) (hn : nodeOK n = true) (hnew : ∀ e ∈ t.es, e.path ≠ p) (hl : t.es.length < 100) : makeE m t p n = 0 := by
  obtain ⟨r, hr, hrp, hrk⟩ := h.f.g.root
  have hf := findT_nodup h.f.g.nd hr
  rw [hrp] at hf
  have hw : wrongM t p = 0 := by
    unfold wrongM
    rw [if_pos hp, hpp, wrongU, hf]
    show (if kindAt t.ns r.node = 1 then _ else _) = (0 : Int)
    rw [if_pos hrk, show parP [] = none from rfl]
    cases p.length <;> rfl
  have hfn : findT t.es p = none := by
    cases hx : findT t.es p with
    | none => rfl
    | some k =>
      obtain ⟨e, he, h1, _⟩ := findT_mem hx
      exact absurd h1 (hnew e he)
  unfold makeE roomM
  rw [hb, if_neg (by decide), hw, if_neg (by decide), hn, if_neg (by decide), hfn, if_neg (by decide), if_neg (by omega)]
theorem make_es {m : FsM} {t : Tre} {p : Str} {n : Nd} (he : makeE m t p n = 0) : ∃ k, (makeT m t p n).es = insP t.es p k := ⟨t.ns.length, by unfold makeT; rw [if_pos he]; rfl⟩
theorem make_ns {m : FsM} {t : Tre} {p : Str} {n : Nd} : (makeT m t p n).ns.length ≤ t.ns.length + 1 := by
  unfold makeT
  split
  · unfold enterT stampT
    dsimp only
    rw [stampN_len, List.length_append]
    simp
  · omega
theorem make_same {m : FsM} {t : Tre} {p : Str} {n : Nd} (h : makeE m t p n ≠ 0) : makeT m t p n = t := by unfold makeT; rw [if_neg h]
theorem make_flt {m : FsM} {t : Tre} {p : Str} {n : Nd} (h : (begM m).2.1 ≠ 0) : makeE m t p n = (begM m).2.1 := by unfold makeE; rw [if_pos h]
/-- The names of the ten calls. -/
def fltP (i : Nat) : Str := [110, UInt8.ofNat (48 + i)]
theorem fltP_ok {i : Nat} (h : i < 10) : mayP (fltP i) = true ∧ parP (fltP i) = some [] ∧ partsP (fltP i) = [fltP i] ∧ fltP i ∉ mkNames := by
  have : i = 0 ∨ i = 1 ∨ i = 2 ∨ i = 3 ∨ i = 4 ∨ i = 5 ∨ i = 6 ∨ i = 7 ∨ i = 8 ∨ i = 9 := by omega
  rcases this with rfl | rfl | rfl | rfl | rfl | rfl | rfl | rfl | rfl | rfl <;> decide +kernel
theorem fltP_inj {i j : Nat} (hi : i < 10) (hj : j < 10) (h : fltP i = fltP j) : i = j := by
  unfold fltP at h
  injection h with _ h
  injection h with h _
  have := congrArg UInt8.toNat h
  rw [UInt8.toNat_ofNat', UInt8.toNat_ofNat'] at this
  omega
/-- A tree before call i. -/
structure FaT (i : Nat) (t : Tre) : Prop where
  g : FsG t
  l : t.es.length ≤ 26 + i
  k : t.ns.length ≤ 26 + i
  n : ∀ e ∈ t.es, ∀ j, i ≤ j → j < 10 → e.path ≠ fltP j
theorem FaT.up {i : Nat} {t : Tre} (h : FaT i t) : FaT (i + 1) t := ⟨h.g, by have := h.l; omega, by have := h.k; omega, fun e he j hj => h.n e he j (by omega)⟩
theorem FaT.make {i : Nat} {t : Tre} (h : FaT i t) (hi : i < 10) {m : FsM} (hb : (begM m).2.1 = 0) (hc : 0 ≤ (begM m).2.2.calls) {n : Nd} (hn : nodeOK n = true) : makeE m t (fltP i) n = 0 ∧ FaT (i + 1) (makeT m t (fltP i) n) := by
  obtain ⟨h1, h2, h3, h4⟩ := fltP_ok hi
  have hl := h.l
  have he : makeE m t (fltP i) n = 0 := make_new h.g hb h1 h2 hn (fun e he => h.n e he i (Nat.le_refl _) hi) (by omega)
  obtain ⟨k, hk⟩ := make_es he
  have hpm := insP_perm t.es (fltP i) k
  have hns := make_ns (m := m) (t := t) (p := fltP i) (n := n)
  have hkk := h.k
  refine ⟨he, make_fsg h.g hc, ?_, by omega, fun e hx j hj hj10 => ?_⟩
  · rw [hk, hpm.length_eq, List.length_cons]; omega
  · rw [hk, hpm.mem_iff] at hx
    rcases List.mem_cons.1 hx with rfl | hx
    · exact fun e => by have := fltP_inj hi hj10 e; omega
    · exact h.n e hx j (by omega) hj10
theorem mkT_fa (l : List Nat) : FaT 0 (mkT l) := by
  have hm := mkT_may l
  have hg := may_fsg hm
  have hl := mkT_len l
  have hn := may_ns hm
  refine ⟨hg, by omega, by omega, fun e he j _ hj hp => ?_⟩
  obtain ⟨_, _, h3, h4⟩ := fltP_ok hj
  exact h4 (mkT_names l e he (fltP j) (by rw [hp, h3]; simp))
/-- Calls, with a fault and without. -/
structure FaM (k c : Int) (i : Nat) (mf mg : FsM) : Prop where
  ff : mf.flts = [(k, c)]
  gf : mg.flts = []
  gd : mg.down = false
  gc : mg.calls = i
  fd : mf.down = decide (c = 3 ∧ k < i)
  fc : ¬ (c = 3 ∧ k < i) → mf.calls = i
  f0 : 0 ≤ mf.calls ∧ mf.calls ≤ i
/-- What call i gives. -/
def faE (k c : Int) (i : Nat) : Int := if c = 3 ∧ k < i then 12 else if k = i then wantE c else 0
theorem FaM.step {k c : Int} {i : Nat} {mf mg : FsM} (h : FaM k c i mf mg) : (begM mf).2.1 = faE k c i ∧ (begM mg).2.1 = 0 ∧ FaM k c (i + 1) (begM mf).2.2 (begM mg).2.2 ∧ (faE k c i = 0 → (begM mf).2.2.calls = i + 1) := by
  obtain ⟨g1, g2⟩ := begM_free h.gf h.gd
  have hgc := h.gc
  have hf0 := h.f0
  unfold faE
  by_cases hd : c = 3 ∧ k < i
  · rw [if_pos hd]
    have hdn : mf.down = true := by rw [h.fd]; exact decide_eq_true hd
    rw [begM_down hdn, g2]
    refine ⟨rfl, g1, ⟨h.ff, h.gf, h.gd, by dsimp only; omega, ?_, fun hn => absurd ⟨hd.1, by omega⟩ hn, (show 0 ≤ mf.calls ∧ mf.calls ≤ ((i + 1 : Nat) : Int) from ⟨by omega, by omega⟩)⟩, fun h => by cases h⟩
    rw [hdn]
    exact (decide_eq_true (by omega)).symm
  · rw [if_neg hd]
    have hdn : mf.down = false := by rw [h.fd]; exact decide_eq_false hd
    have hfc := h.fc hd
    have hm : mf = fltM mf k c := by
      have := h.ff
      obtain ⟨a1, a2, a3, a4⟩ := mf
      dsimp only at this
      subst this
      rfl
    by_cases hk : k = i
    · rw [if_pos hk]
      have hb : begM mf = (c, wantE c, ⟨mf.quota, mf.flts, mf.calls + 1, if c = 3 then true else mf.down⟩) := by
        unfold begM wantE
        rw [if_neg (by rw [hdn]; decide), h.ff, List.find?_cons, decide_eq_true (by dsimp only; omega)]
        dsimp only
        by_cases h3 : c = 3
        · rw [if_pos h3, if_pos h3, if_pos h3, h3]
        · rw [if_neg h3, if_neg h3, if_neg h3]
      rw [hb, g2]
      refine ⟨rfl, g1, ⟨h.ff, h.gf, h.gd, by dsimp only; omega, ?_, fun _ => by dsimp only; omega, by dsimp only; omega⟩, fun h0 => absurd h0 (wantE_ne c)⟩
      dsimp only
      by_cases h3 : c = 3
      · rw [if_pos h3]; exact (decide_eq_true ⟨h3, by omega⟩).symm
      · rw [if_neg h3, hdn]; exact (decide_eq_false (fun h => h3 h.1)).symm
    · rw [if_neg hk]
      have hb := begM_ne (c := c) hdn (show mf.calls ≠ k by omega)
      rw [← hm] at hb
      rw [hb, g2]
      refine ⟨rfl, g1, ⟨rfl, h.gf, h.gd, by dsimp only; omega, ?_, fun _ => by unfold fltM; dsimp only; omega, by unfold fltM; dsimp only; omega⟩, fun _ => by unfold fltM; dsimp only; omega⟩
      show mf.down = _
      rw [hdn]
      exact (decide_eq_false (by omega)).symm
end Eng
end Go.Proofs.YtiebbecknfpdeaaGreatDoor
namespace Go.Proofs.YtiebbecknfpdeaaGreatDoor
open Go.RowKit
namespace Eng
theorem clip1_id {p : Pce} {lo hi : Int} (h0 : p.data ≠ []) (h1 : lo ≤ p.pos) (h2 : endP p ≤ hi) : clip1 lo hi p = some p := by
  have hp : 0 < p.data.length := List.length_pos_iff.2 h0
  obtain ⟨pos, data⟩ := p
  unfold endP at h2
  dsimp only at h1 h2 hp
  have e1 : max lo pos = pos := by omega
  have e2 : min hi (pos + (data.length : Int)) = pos + (data.length : Int) := by omega
  unfold clip1 endP
  dsimp only
  rw [e1, e2, if_pos (by omega)]
  have e3 : (pos - pos).toNat = 0 := by omega
  have e4 : (pos + (data.length : Int) - pos).toNat = data.length := by omega
  rw [e3, e4, List.drop_zero, List.take_length]
theorem clip_all : ∀ {l : List Pce} {lo hi : Int}, (∀ p ∈ l, p.data ≠ [] ∧ lo ≤ p.pos ∧ endP p ≤ hi) → clipP l lo hi = l
  | [], _, _, _ => rfl
  | p :: r, lo, hi, h => by
    obtain ⟨h0, h1, h2⟩ := h p (by simp)
    have ih := clip_all (l := r) (lo := lo) (hi := hi) fun q hq => h q (by simp [hq])
    unfold clipP at ih ⊢
    rw [List.filterMap_cons, clip1_id h0 h1 h2, ih]
theorem clip_none : ∀ {l : List Pce} {lo hi : Int}, (∀ p ∈ l, endP p ≤ lo) → clipP l lo hi = []
  | [], _, _, _ => rfl
  | p :: r, lo, hi, h => by
    have h0 := h p (by simp)
    have ih := clip_none (l := r) (lo := lo) (hi := hi) fun q hq => h q (by simp [hq])
    unfold clipP at ih ⊢
    rw [List.filterMap_cons, show clip1 lo hi p = none from by unfold clip1; rw [if_neg (by omega)], ih]
theorem joinG_id : ∀ (r : List Pce) (c : Pce), SepP 1 (c :: r) → joinG c r = c :: r
  | [], _, _ => rfl
  | p :: r, c, h => by
    unfold SepP at h
    rw [List.pairwise_cons] at h
    have := h.1 p (by simp)
    rw [joinG, if_neg (by omega), joinG_id r p h.2]
theorem joined_id {l : List Pce} (h : SepP 1 l) : joinedP l = l := by
  cases l with
  | nil => rfl
  | cons c r => exact joinG_id r c h
theorem wr_end {l : List Pce} {pos : Int} {s : Str} (hs : SepP 1 l) (h : ∀ p ∈ l, p.data ≠ [] ∧ 0 ≤ p.pos ∧ endP p + 1 ≤ pos) : wrP l pos s = l ++ [⟨pos, s⟩] := by
  unfold wrP
  rw [clip_all fun p hp => ⟨(h p hp).1, (h p hp).2.1, by have := (h p hp).2.2; omega⟩, clip_none fun p hp => by have := (h p hp).2.2; omega, List.append_nil]
  refine joined_id ?_
  unfold SepP at hs ⊢
  rw [List.pairwise_append]
  refine ⟨hs, List.pairwise_singleton _ _, fun p hp q hq => ?_⟩
  rw [List.mem_singleton.1 hq]
  exact (h p hp).2.2
theorem bytes_app : ∀ (a b : List Pce), bytesP (a ++ b) = bytesP a + bytesP b
  | [], b => by rw [List.nil_append, bytesP, Nat.zero_add]
  | p :: r, b => by rw [List.cons_append, bytesP, bytesP, bytes_app r b, Nat.add_assoc]
/-- The file after i writes of k bytes; took: how many bytes it has. -/
structure QuN (k i took : Nat) (n : Nd) : Prop where
  ok : nodeOK n = true
  kd : n.kind = 2
  dl : n.data.length ≤ i
  by' : bytesP n.data = took
  tk : took ≤ i * 60
  en : ∀ p ∈ n.data, endP p + 1000 ≤ (i * (k + 1000) : Nat)
theorem QuN.skip {k i took : Nat} {n : Nd} (h : QuN k i took n) : QuN k (i + 1) took n := ⟨h.ok, h.kd, by have := h.dl; omega, h.by', by have := h.tk; omega, fun p hp => by have h1 := h.en p hp; have e : (i + 1) * (k + 1000) = i * (k + 1000) + (k + 1000) := Nat.succ_mul i (k + 1000); rw [e]; generalize i * (k + 1000) = P at h1 ⊢; omega⟩
theorem QuN.write {k i took : Nat} {n : Nd} (h : QuN k i took n) (hk : 1 ≤ k ∧ k ≤ 60) (hi : i < 16) {s : Str} (hs : s.length = k) {c : Int} (hc : 0 ≤ c) : (writeN n (i * (k + 1000) : Nat) s).2 = 0 ∧ bytesP (writeN n (i * (k + 1000) : Nat) s).1.data = took + k ∧ QuN k (i + 1) (took + k) (timeN (writeN n (i * (k + 1000) : Nat) s).1 c) := by
  obtain ⟨f1, f2, f3, f4, f5, f6⟩ := (file_iff n).1 (node_file h.ok h.kd)
  have hw : wrP n.data (i * (k + 1000) : Nat) s = n.data ++ [(⟨((i * (k + 1000) : Nat) : Int), s⟩ : Pce)] := wr_end f5 fun p hp => ⟨(f6 p hp).1, (f6 p hp).2.1, by have := h.en p hp; omega⟩
  have hb : bytesP (n.data ++ [(⟨((i * (k + 1000) : Nat) : Int), s⟩ : Pce)]) = took + k := by
    rw [bytes_app, h.by']
    show took + (s.length + 0) = _
    omega
  have hl : (n.data ++ [(⟨((i * (k + 1000) : Nat) : Int), s⟩ : Pce)]).length = n.data.length + 1 := by simp
  have hdl := h.dl
  have htk := h.tk
  have hpos : i * (k + 1000) ≤ 16 * 1060 := Nat.mul_le_mul (by omega) (by omega)
  have hwr : writeN n (i * (k + 1000) : Nat) s = ({ n with data := n.data ++ [(⟨((i * (k + 1000) : Nat) : Int), s⟩ : Pce)], size := max n.size (((i * (k + 1000) : Nat) : Int) + (s.length : Int)) }, 0) := by
    unfold writeN
    rw [if_neg (fun hh => by
      rcases hh with hh | hh | hh | hh
      · rw [h.ok] at hh; cases hh
      · exact hh h.kd
      · omega
      · omega), if_neg (by omega), if_neg (fun e => by rw [e] at hs; simp at hs; omega), hw, if_neg (by rw [hb, hl]; omega)]
  have hok := writeN_ok h.ok (i * (k + 1000) : Nat) s
  have hkd := writeN_kind n (i * (k + 1000) : Nat) s
  rw [hwr] at hok hkd ⊢
  refine ⟨rfl, hb, nodeOK_time hok hc, hkd.trans h.kd, ?_, hb, by omega, fun p hp => ?_⟩
  · show (n.data ++ [_]).length ≤ _
    rw [hl]; omega
  · have hp : p ∈ n.data ++ [(⟨((i * (k + 1000) : Nat) : Int), s⟩ : Pce)] := hp
    have e : (i + 1) * (k + 1000) = i * (k + 1000) + (k + 1000) := Nat.succ_mul i (k + 1000)
    rw [e]
    rcases List.mem_append.1 hp with hp | hp
    · have h1 := h.en p hp; generalize i * (k + 1000) = P at h1 ⊢; omega
    · rw [List.mem_singleton.1 hp]
      show ((i * (k + 1000) : Nat) : Int) + (s.length : Int) + 1000 ≤ _
      omega
/-- Made longer it has the same bytes. -/
theorem QuN.cut {k i took : Nat} {n : Nd} (h : QuN k i took n) : (cutN n 1099511627776).2 = 0 ∧ bytesP (cutN n 1099511627776).1.data = took := by
  obtain ⟨f1, f2, f3, f4, f5, f6⟩ := (file_iff n).1 (node_file h.ok h.kd)
  unfold cutN
  rw [if_neg (fun hh => by
      rcases hh with hh | hh | hh | hh
      · rw [h.ok] at hh; cases hh
      · exact hh h.kd
      · omega
      · omega)]
  refine ⟨rfl, ?_⟩
  dsimp only
  rw [clip_all fun p hp => ⟨(f6 p hp).1, (f6 p hp).2.1, by have := (f6 p hp).2.2; omega⟩]
  exact h.by'
/-- The root and one file. -/
def quT (n : Nd) : Tre := ⟨[⟨[], 0⟩, ⟨[102], 1⟩], [timeN rootN 1, n]⟩
theorem quT_find (n : Nd) : findM (quT n) [102] = (1, 0) := rfl
theorem quT_node (n : Nd) : nodeAt (quT n) 1 = n := rfl
theorem quT_total (n : Nd) : totalT (quT n).ns = bytesP n.data := by
  show 0 + (bytesP n.data + 0) = _
  omega
theorem quT_change (m : FsM) (n : Nd) (f : Nd → Nd × Int) (hk : n.kind = 2) : changeE m (quT n) [102] f = (if (f n).2 ≠ 0 then (f n).2 else if m.quota < (bytesP (f n).1.data : Int) then 10 else 0) := by
  unfold changeE
  rw [quT_find, quT_node, quT_total, if_neg (by decide), if_neg (by rw [hk]; decide), if_neg (by rw [hk]; decide)]
  rw [show (bytesP n.data : Int) - bytesP n.data + bytesP (f n).1.data = bytesP (f n).1.data by omega]
theorem quT_set (m : FsM) (n : Nd) (f : Nd → Nd × Int) : changeT m (quT n) [102] f = if changeE m (quT n) [102] f = 0 then quT (timeN (f n).1 m.calls) else quT n := by
  unfold changeT
  rw [quT_find, quT_node]
  rfl
theorem quT_gone (m : FsM) (n : Nd) (h : (begM m).2.1 = 0) : goneE m (quT n) [102] = 0 ∧ totalT (goneT m (quT n) [102]).ns = 0 := by
  have he : goneE m (quT n) [102] = 0 := by
    unfold goneE
    rw [h, quT_find]
    rfl
  refine ⟨he, ?_⟩
  unfold goneT
  rw [if_pos he, quT_find]
  rfl
end Eng
end Go.Proofs.YtiebbecknfpdeaaGreatDoor
namespace Go.Proofs.YtiebbecknfpdeaaGreatDoor
open Go.RowKit
namespace Eng
theorem node_new {n : Nd} (h : nodeOK n = true) : NdL n ∧ bytesP n.data ≤ 1000000 := ⟨node_rows h, by have := (node_small h).1; omega⟩
theorem write_good {n : Nd} {pos : Int} {s : Str} (h : (writeN n pos s).2 = 0) : nodeOK n = true := by
  unfold writeN at h
  split at h
  · cases h
  · rename_i h1
    cases hn : nodeOK n with
    | true => rfl
    | false => exact absurd (.inl hn) h1
theorem cut_good {n : Nd} {size : Int} (h : (cutN n size).2 = 0) : nodeOK n = true := by
  unfold cutN at h
  split at h
  · cases h
  · rename_i h1
    cases hn : nodeOK n with
    | true => rfl
    | false => exact absurd (.inl hn) h1
/-- What a short call writes. -/
def shortS (m : FsM) (s : Str) : Str := if (begM m).1 = 2 then s.take (s.length / 2) else s
def writeE (m : FsM) (t : Tre) (p : Str) (pos : Int) (s : Str) : Int :=
  if (begM m).1 ≠ 2 ∧ (begM m).2.1 ≠ 0 then (begM m).2.1 else if changeE (begM m).2.2 t p (fun n => writeN n pos (shortS m s)) ≠ 0 then changeE (begM m).2.2 t p (fun n => writeN n pos (shortS m s)) else (begM m).2.1
def writeT (m : FsM) (t : Tre) (p : Str) (pos : Int) (s : Str) : Tre := if (begM m).1 ≠ 2 ∧ (begM m).2.1 ≠ 0 then t else changeT (begM m).2.2 t p (fun n => writeN n pos (shortS m s))
def sizeE (m : FsM) (t : Tre) (p : Str) (size : Int) : Int := if (begM m).2.1 ≠ 0 then (begM m).2.1 else changeE (begM m).2.2 t p (fun n => cutN n size)
def sizeT (m : FsM) (t : Tre) (p : Str) (size : Int) : Tre := if (begM m).2.1 ≠ 0 then t else changeT (begM m).2.2 t p (fun n => cutN n size)
/-- A store into a block made on the way. -/
theorem FsS.off {w w1 w2 : World} {B g k : Nat} {vf ve vn ve1 vn1 : Value} {nvs nvs1 : List NdV} {m : FsM} {t : Tre} (h : FsS w B g vf ve vn nvs w1 m t ve1 vn1 nvs1) (hF : Fr (· = k) w1 w2) (hk : w.heap.size ≤ k) (hn : ∀ b, b = g ∨ vf.ownBlock = some b ∨ TrK ve1 vn1 nvs1 b → b ≠ k) : FsS w B g vf ve vn nvs w2 m t ve1 vn1 nvs1 :=
  ⟨h.o.fr hF fun b hb e => hn b hb e, h.f.trans hF fun j hj e => by have : j = k := e; omega, h.k, h.n⟩
attribute [local irreducible] xs T
set_option maxRecDepth 20000 in
set_option maxHeartbeats 8000000 in
theorem write_does (w : World) (B g : Nat) (m : FsM) (vf ve vn : Value) (nvs : List NdV) (t : Tre) (p : Str) (pos : Int) (s : Str) (h : FsO w B g m vf ve vn nvs t) (hc : 0 ≤ m.calls ∧ m.calls ≤ 4000000000000000000) (hsl : s.length ≤ 1000000) (hp : pos ≤ 4000000000000000000) :
    Does Tryz.prog 35 #[.pointer (some ⟨g, 0, none⟩), .string (su p), .int .i64 pos, .string (su s)] w fun r w' => r = .int .i64 (writeE m t p pos s) ∧ ∃ nvs', FsS w B g vf ve vn nvs w' (begM m).2.2 (writeT m t p pos s) ve vn nvs' := by
  refine does4 Tryz.func35 rfl (by kernel_rfl) ?_
  have hg := h.i.k.lt
  obtain ⟨A, c, rfl, hc1, hc2, _⟩ := h.i.tr.e.op enC_len
  refine goL ?_
  refine xbox rfl (fun w1 hB1 hE1 hs1 => ?_)
  refine goL ?_
  refine xbox rfl (fun w2 hB2 hE2 hs2 => ?_)
  have hE02 : Ext w w2 := hE1.t hE2
  have h2 := h.ext hE02
  have z1 := hE1.size
  refine goL ?_
  refine xcall rfl rfl (begin_does w2 g m vf _ A _ c h2.i.k h2.i.h h2.i.f hc h2.i.af) ?_
  rintro r w3 ⟨rfl, hB3, hF3⟩
  have hi3 := h2.i.put hF3 hB3 (begM_flts m)
  have hS3 := (FsS.ext h hE02).t (FsS.put h2 hF3 hi3 (begM_flts m))
  have k6 : Blk w3 w.heap.size 2 #[.int .i64 pos] := (Blk.ext hB1 hE2).fr hF3 (show ¬ w.heap.size = g by omega)
  have k7 : Blk w3 w1.heap.size 9 #[.string (su s)] := Blk.fr hB2 hF3 (show ¬ w1.heap.size = g by omega)
  have hlt : ∀ b, b = g ∨ vf.ownBlock = some b ∨ TrK (.slice A t.es.length c) vn nvs b → b < w.heap.size := fun b hb => (h.blk hb).2
  unfold writeE writeT shortS
  by_cases hk : (begM m).1 = 2
  · have hng : ¬ ((begM m).1 ≠ 2 ∧ (begM m).2.1 ≠ 0) := fun h => h.1 hk
    rw [if_neg hng, if_neg hng, if_pos hk]
    have q7 : w3.cell? ⟨w1.heap.size, 0, none⟩ = some (.string (su s)) := k7.cell 0
    repeat' (first | refine xusl0 (s.length / 2) rfl rfl rfl (by omega) (by omega) ?_ | refine xuln rfl rfl ?_ | refine go1L ?_ | fail)
    refine xstb k7 rfl rfl (by kernel_rfl) rfl rfl (fun w4 hB4 hF4 => ?_)
    have hS4 := hS3.off hF4 z1 fun b hb => by have := hlt b hb; omega
    have k64 := Blk.fr k6 hF4 (show ¬ w.heap.size = w1.heap.size by omega)
    have hst : (s.take (s.length / 2)).length ≤ 1000000 := by rw [List.length_take]; omega
    repeat' (first | refine xmkf rfl ?_ | refine go1L ?_ | fail)
    refine xcall rfl rfl (change_does w4 B g _ vf _ vn nvs t p 81 #[.pointer (some ⟨w.heap.size, 0, none⟩), .pointer (some ⟨w1.heap.size, 0, none⟩)] (fun n => writeN n pos (s.take (s.length / 2))) hS4.o (by kernel_rfl)
      (write1_does w4 g w.heap.size w1.heap.size pos (s.take (s.length / 2)) (k64.cell 0) (Blk.cell hB4 0) (by omega) (by omega) hst hp)
      (fun n _ e => node_new (writeN_ok (write_good e) _ _))) ?_
    rintro r w5 ⟨rfl, nvs5, hS5⟩
    by_cases e5 : changeE (begM m).2.2 t p (fun n => writeN n pos (s.take (s.length / 2))) = 0
    · rw [if_neg (fun h => h e5)]
      rw [e5]
      refine goL ?_
      exact tret1 rfl rfl ⟨rfl, _, hS4.t hS5⟩
    · rw [if_pos e5]
      refine goL ?_
      exact tret1 rfl rfl ⟨rfl, _, hS4.t hS5⟩
  · by_cases e : (begM m).2.1 = 0
    · have hng : ¬ ((begM m).1 ≠ 2 ∧ (begM m).2.1 ≠ 0) := fun h => h.2 e
      rw [if_neg hng, if_neg hng, if_neg hk]
      repeat' (first | refine xmkf rfl ?_ | refine go1L ?_ | fail)
      refine xcall rfl rfl (change_does w3 B g _ vf _ vn nvs t p 81 #[.pointer (some ⟨w.heap.size, 0, none⟩), .pointer (some ⟨w1.heap.size, 0, none⟩)] (fun n => writeN n pos s) hS3.o (by kernel_rfl)
        (write1_does w3 g w.heap.size w1.heap.size pos s (k6.cell 0) (k7.cell 0) (by omega) (by omega) hsl hp)
        (fun n _ e => node_new (writeN_ok (write_good e) _ _))) ?_
      rintro r w5 ⟨rfl, nvs5, hS5⟩
      by_cases e5 : changeE (begM m).2.2 t p (fun n => writeN n pos s) = 0
      · rw [if_neg (fun h => h e5)]
        rw [e5]
        refine goL ?_
        exact tret1 rfl rfl ⟨rfl, _, hS3.t hS5⟩
      · rw [if_pos e5]
        refine goL ?_
        exact tret1 rfl rfl ⟨rfl, _, hS3.t hS5⟩
    · have hpg : (begM m).1 ≠ 2 ∧ (begM m).2.1 ≠ 0 := ⟨hk, e⟩
      rw [if_pos hpg, if_pos hpg]
      refine goL ?_
      exact tret1 rfl rfl ⟨rfl, _, hS3⟩
set_option maxRecDepth 20000 in
set_option maxHeartbeats 8000000 in
theorem size_does (w : World) (B g : Nat) (m : FsM) (vf ve vn : Value) (nvs : List NdV) (t : Tre) (p : Str) (size : Int) (h : FsO w B g m vf ve vn nvs t) (hc : 0 ≤ m.calls ∧ m.calls ≤ 4000000000000000000) :
    Does Tryz.prog 41 #[.pointer (some ⟨g, 0, none⟩), .string (su p), .int .i64 size] w fun r w' => r = .int .i64 (sizeE m t p size) ∧ ∃ nvs', FsS w B g vf ve vn nvs w' (begM m).2.2 (sizeT m t p size) ve vn nvs' := by
  refine does3 Tryz.func41 rfl (by kernel_rfl) ?_
  have hg := h.i.k.lt
  obtain ⟨A, c, rfl, hc1, hc2, _⟩ := h.i.tr.e.op enC_len
  refine goL ?_
  refine xbox rfl (fun w1 hB1 hE1 hs1 => ?_)
  have h1 := h.ext hE1
  refine goL ?_
  refine xcall rfl rfl (begin_does w1 g m vf _ A _ c h1.i.k h1.i.h h1.i.f hc h1.i.af) ?_
  rintro r w3 ⟨rfl, hB3, hF3⟩
  have hi3 := h1.i.put hF3 hB3 (begM_flts m)
  have hS3 := (FsS.ext h hE1).t (FsS.put h1 hF3 hi3 (begM_flts m))
  have k6 : Blk w3 w.heap.size 2 #[.int .i64 size] := Blk.fr hB1 hF3 (show ¬ w.heap.size = g by omega)
  unfold sizeE sizeT
  by_cases e : (begM m).2.1 = 0
  · rw [if_neg (fun h => h e), if_neg (fun h => h e), e]
    repeat' (first | refine xmkf rfl ?_ | refine go1L ?_ | fail)
    refine xcall rfl rfl (change_does w3 B g _ vf _ vn nvs t p 87 #[.pointer (some ⟨w.heap.size, 0, none⟩)] (fun n => cutN n size) hS3.o (by kernel_rfl)
      (size1_does w3 g w.heap.size size (k6.cell 0) (by omega))
      (fun n _ e => node_new (cutN_ok (cut_good e) _))) ?_
    rintro r w5 ⟨rfl, nvs5, hS5⟩
    refine goL ?_
    exact tret1 rfl rfl ⟨rfl, _, hS3.t hS5⟩
  · rw [if_pos e, if_pos e]
    refine goL ?_
    exact tret1 rfl rfl ⟨rfl, _, hS3⟩
set_option maxRecDepth 20000 in
set_option maxHeartbeats 4000000 in
theorem nonenil_does (w : World) : Does Tryz.prog 62 #[.pointer none] w fun r w' => r = .bool true ∧ w = w' := by
  refine does1 Tryz.func62 rfl (by kernel_rfl) ?_
  refine goL ?_
  exact tret1 rfl rfl ⟨rfl, rfl⟩
set_option maxRecDepth 20000 in
set_option maxHeartbeats 4000000 in
theorem beginnil_does (w : World) : Does Tryz.prog 64 #[.pointer none] w fun r w' => r = .tuple #[.int .i64 0, .int .i64 1] ∧ w = w' := by
  refine does1 Tryz.func64 rfl (by kernel_rfl) ?_
  refine goL ?_
  refine tscope0 ?_
  refine goL ?_
  refine xcall rfl rfl (nonenil_does w) ?_
  rintro r w1 ⟨rfl, rfl⟩
  refine goL ?_
  exact tret2 rfl rfl rfl ⟨rfl, rfl⟩
set_option maxRecDepth 20000 in
set_option maxHeartbeats 4000000 in
theorem gonenil_does (w : World) (p : Str) : Does Tryz.prog 27 #[.pointer none, .string (su p)] w fun r w' => r = .int .i64 1 ∧ Ext w w' := by
  refine does2 Tryz.func27 rfl (by kernel_rfl) ?_
  refine goL ?_
  refine xbox rfl (fun w1 hB1 hE1 hs1 => ?_)
  refine goL ?_
  refine xcall rfl rfl (beginnil_does w1) ?_
  rintro r w2 ⟨rfl, rfl⟩
  refine goL ?_
  exact tret1 rfl rfl ⟨rfl, hE1⟩
set_option maxRecDepth 20000 in
set_option maxHeartbeats 4000000 in
theorem callsnil_does (w : World) : Does Tryz.prog 21 #[.pointer none] w fun r w' => r = .int .i64 0 ∧ w = w' := by
  refine does1 Tryz.func21 rfl (by kernel_rfl) ?_
  refine goL ?_
  exact tret1 rfl rfl ⟨rfl, rfl⟩
end Eng
end Go.Proofs.YtiebbecknfpdeaaGreatDoor
namespace Go.Proofs.YtiebbecknfpdeaaGreatDoor
open Go.RowKit
namespace Eng
section
variable {hs : List Nat} {H : World → Prop} {full : Array Oper} {K : Env → World → Prop} {rest : List Oper} {env : Env} {w : World} {d : Tmp} {ty : TypeId} {pos : String} {af : Array Edge}
/-- The entries of a tree that is a value. -/
theorem xflde {x : Operand} {ve vn : Value} (hx : evo env x = some (.agg #[ve, vn]))
    (h : xs Tryz.prog isI isS hs H full K rest ((d, ve) :: env) w) : xs Tryz.prog isI isS hs H full K (⟨some d, .field 29 x 0, ty, pos, af, none⟩ :: rest) env w := by
  refine x_gen rfl (by simp [opsOK, Op.operands, hx]) ⟨ve, fun w' => ?_, h⟩
  have hag : (isAgg 26).run Tryz.prog w' = .ok false w' := by
    unfold isAgg
    simp only [Sem.run_bind, run_underlying Tryz.underlying26, Result.andThen_ok]
    simp
  simp [execOp, ev_of hx, Instr.field, run_underlying Tryz.underlying29, asAgg, part, hag]
/-- The nodes of a tree that is a value. -/
theorem xfldn {x : Operand} {ve vn : Value} (hx : evo env x = some (.agg #[ve, vn]))
    (h : xs Tryz.prog isI isS hs H full K rest ((d, vn) :: env) w) : xs Tryz.prog isI isS hs H full K (⟨some d, .field 29 x 1, ty, pos, af, none⟩ :: rest) env w := by
  refine x_gen rfl (by simp [opsOK, Op.operands, hx]) ⟨vn, fun w' => ?_, h⟩
  have hag : (isAgg 27).run Tryz.prog w' = .ok false w' := by
    unfold isAgg
    simp only [Sem.run_bind, run_underlying Tryz.underlying27, Result.andThen_ok]
    simp
  simp [execOp, ev_of hx, Instr.field, run_underlying Tryz.underlying29, asAgg, part, hag]
end
theorem FsO.ltK {w : World} {B g : Nat} {m : FsM} {vf ve vn : Value} {nvs : List NdV} {t : Tre} (h : FsO w B g m vf ve vn nvs t) {b : Nat} (hb : FsK g ve vn b) : B ≤ b ∧ b < w.heap.size := h.blk (by
  rcases hb with hb | hb | hb
  · exact .inl hb
  · exact .inr (.inr (.inl hb))
  · exact .inr (.inr (.inr (.inl hb))))
theorem FsS.extB {w0 w w' : World} {B g : Nat} {m m' : FsM} {vf ve vn ve' vn' : Value} {nvs nvs' : List NdV} {t t' : Tre} (hS : FsS w B g vf ve vn nvs w' m' t' ve' vn' nvs') (hO : FsO w B g m vf ve vn nvs t) (hE : Ext w0 w) (hB : w0.heap.size ≤ B) : Ext w0 w' :=
  hE.trans hS.f fun j hj hb => by have := (hO.ltK hb).1; omega
theorem FsS.keep {w w' : World} {B g : Nat} {m' : FsM} {vf ve vn ve' vn' : Value} {nvs nvs' : List NdV} {t' : Tre} (hS : FsS w B g vf ve vn nvs w' m' t' ve' vn' nvs') {b : Nat} (hb : b < w.heap.size) (hn : ¬ FsK g ve vn b) : ¬ FsK g ve' vn' b := fun h => (hS.k b h).elim hn (by omega)
theorem callsC (w : World) (g : Nat) (m : FsM) (vf ve vn : Value) (h : Blk w g 109 (fsC m vf ve vn)) (c : Int) (hc : m.calls = c) : Does Tryz.prog 21 #[.pointer (some ⟨g, 0, none⟩)] w fun r w' => r = .int .i64 c ∧ w = w' := by
  subst hc
  exact calls_does w g m vf ve vn h
def sfl : List (Int × Int) := [(5, 2), (8, 3)]
def smM (c : Int) : FsM := ⟨4, sfl, c, false⟩
def smD : FsM := ⟨4, sfl, 9, true⟩
def sfN : Nd := ⟨2, 2541, 0, 0, 0, [], [], 0, [], [], 0, 0⟩
def sfV : NdV := ⟨sfN, .slice none 0 0, .slice none 0 0, .slice none 0 0⟩
theorem sfV_in (w : World) : NdIn w sfV := ⟨Rw.nil _ _ (by decide), Rw.nil _ _ (by decide), Rw.nil _ _ (by decide)⟩
theorem sfV_no (b : Nat) : ¬ NdN sfV b := fun h => by rcases h with h | h | h <;> exact absurd h.1 (by show ¬ 0 < 0; decide)
def sn4 : Nd := ⟨2, 493, 1, 2, 3, [], [], 0, [], [], 0, 0⟩
def sn6 : Nd := ⟨2, 493, 1, 2, 6, [], [], 2, [⟨0, [97, 98]⟩], [], 0, 0⟩
def st1 : Tre := ⟨[⟨[], 0⟩, ⟨[97], 1⟩], [timeN rootN 1, madeN (kN 1) 1]⟩
def st3 : Tre := ⟨[⟨[], 0⟩, ⟨[97], 1⟩, ⟨[97, 47, 102], 2⟩], [timeN rootN 1, timeN (madeN (kN 1) 1) 3, madeN sfN 3]⟩
def stL (c : Int) (n : Nd) : Tre := ⟨[⟨[], 0⟩, ⟨[97], 1⟩, ⟨[97, 47, 102], 2⟩, ⟨[103], 2⟩], [timeN rootN c, timeN (madeN (kN 1) 1) 3, n]⟩
theorem sE0 : makeE (smM 0) rootT [97] (kV 1).n = 0 ∧ makeT (smM 0) rootT [97] (kV 1).n = st1 ∧ (begM (smM 0)).2.2 = smM 1 := ⟨by kernel_rfl, by kernel_rfl, by kernel_rfl⟩
theorem sE1 : makeE (smM 1) st1 [120, 47, 121] (kV 2).n = 7 ∧ makeT (smM 1) st1 [120, 47, 121] (kV 2).n = st1 ∧ (begM (smM 1)).2.2 = smM 2 := ⟨by kernel_rfl, by kernel_rfl, by kernel_rfl⟩
theorem sE2 : makeE (smM 2) st1 [97, 47, 102] sfV.n = 0 ∧ makeT (smM 2) st1 [97, 47, 102] sfV.n = st3 ∧ (begM (smM 2)).2.2 = smM 3 := ⟨by kernel_rfl, by kernel_rfl, by kernel_rfl⟩
theorem sE3 : linkE (smM 3) st3 [103] [97, 47, 102] = 0 ∧ linkT (smM 3) st3 [103] [97, 47, 102] = stL 4 (madeN sfN 3) ∧ (begM (smM 3)).2.2 = smM 4 := ⟨by kernel_rfl, by kernel_rfl, by kernel_rfl⟩
theorem sE4 : setE (smM 4) (stL 4 (madeN sfN 3)) [103] (fun _ => 0) (ownN 1 2) = 0 ∧ setT (smM 4) (stL 4 (madeN sfN 3)) [103] (fun _ => 0) (ownN 1 2) = stL 4 sn4 ∧ (begM (smM 4)).2.2 = smM 5 := ⟨by kernel_rfl, by kernel_rfl, by kernel_rfl⟩
theorem sE5 : writeE (smM 5) (stL 4 sn4) [103] 0 [97, 98, 99, 100] = 11 ∧ writeT (smM 5) (stL 4 sn4) [103] 0 [97, 98, 99, 100] = stL 4 sn6 ∧ (begM (smM 5)).2.2 = smM 6 := ⟨by kernel_rfl, by kernel_rfl, by kernel_rfl⟩
theorem sE6 : writeE (smM 6) (stL 4 sn6) [103] 2 [120, 121, 122] = 10 ∧ writeT (smM 6) (stL 4 sn6) [103] 2 [120, 121, 122] = stL 4 sn6 ∧ (begM (smM 6)).2.2 = smM 7 := ⟨by kernel_rfl, by kernel_rfl, by kernel_rfl⟩
theorem sE7 : getE (smM 7) (stL 4 sn6) [97, 47, 102] = 0 ∧ nodeAt (stL 4 sn6) (findM (stL 4 sn6) [97, 47, 102]).1 = sn6 ∧ (begM (smM 7)).2.2 = smM 8 := ⟨by kernel_rfl, by kernel_rfl, by kernel_rfl⟩
theorem sE8 : goneE (smM 8) (stL 4 sn6) [97] = 12 ∧ goneT (smM 8) (stL 4 sn6) [97] = stL 4 sn6 ∧ (begM (smM 8)).2.2 = smD := ⟨by kernel_rfl, by kernel_rfl, by kernel_rfl⟩
theorem sE9 : goneE smD (stL 4 sn6) [97] = 12 ∧ goneT smD (stL 4 sn6) [97] = stL 4 sn6 ∧ (begM smD).2.2 = smD := ⟨by kernel_rfl, by kernel_rfl, by kernel_rfl⟩
theorem st_norm : normT (stL 4 sn6) = some (renT (stL 4 sn6).ns (sortE (stL 4 sn6).es)) := by unfold normT; rw [if_pos (by decide +kernel)]
theorem st_len : (renT (stL 4 sn6).ns (sortE (stL 4 sn6).es)).es.length = 4 := by decide +kernel
theorem st_total : totalT (stL 4 sn6).ns = 2 := by kernel_rfl
theorem stL_root (c : Int) (n : Nd) : ∃ e ∈ (stL c n).es, e.path = [] := ⟨⟨[], 0⟩, List.mem_cons_self, rfl⟩
attribute [local irreducible] xs T
set_option maxRecDepth 20000 in
set_option maxHeartbeats 16000000 in
theorem told7_does (w : World) : Does Tryz.prog 28 #[] w fun r w' => r = .bool true ∧ Ext w w' := by
  refine does0 Tryz.func28 rfl ?_
  refine goL ?_
  refine xbd (cells := (flC (5, 2)).toArray) rfl (by kernel_rfl) ?_
  refine xbd (cells := (flC (8, 3)).toArray) rfl (by kernel_rfl) ?_
  refine xbzn (css := sfl.map flC) sl_flts rfl (by intro cs hcs; obtain ⟨x, _, rfl⟩ := List.mem_map.1 hcs; rfl) rfl (by decide) (by decide) (by decide) (fun w0 hB0 hE0 hs0 => ?_)
  have hfl : Rw flC w0 (.slice (some ⟨w.heap.size, 0, none⟩) 2 2) sfl := blk_row hB0 (by decide) rfl
  refine goL ?_
  refine xcall rfl rfl (new_does w0 _ 4 sfl hfl (by decide)) ?_
  rintro r w1 ⟨hE1, hr⟩
  rcases hr with ⟨hr, _⟩ | ⟨_, g, vf, ve, vn, nvs, rfl, hO1⟩
  · exact absurd rfl hr
  have hO1 : FsO w1 w0.heap.size g (smM 0) vf ve vn nvs rootT := hO1
  have z0 := hE0.size
  refine goL ?_
  refine xbd (cells := (ndC (kV 1)).toArray) rfl (by kernel_rfl) ?_
  refine goL ?_
  refine xcall rfl rfl (make_does w1 w0.heap.size g (smM 0) vf ve vn nvs rootT [97] (kV 1) hO1 (kV_in _ _) (fun b hb => absurd hb (kV_no _ _)) (by decide) (by decide) (by decide) (by decide)) ?_
  rintro r w2 ⟨rfl, ve2, vn2, nvs2, hS2⟩
  rw [sE0.2.1, sE0.2.2] at hS2
  rw [sE0.1]
  refine goL ?_
  refine xbd (cells := (ndC (kV 2)).toArray) rfl (by kernel_rfl) ?_
  refine goL ?_
  refine xcall rfl rfl (make_does w2 w0.heap.size g (smM 1) vf ve2 vn2 nvs2 st1 [120, 47, 121] (kV 2) hS2.o (kV_in _ _) (fun b hb => absurd hb (kV_no _ _)) (by decide) (by decide) (by decide) (by decide)) ?_
  rintro r w3 ⟨rfl, ve3, vn3, nvs3, hS3⟩
  rw [sE1.2.1, sE1.2.2] at hS3
  rw [sE1.1]
  have hS3 := hS2.t hS3
  refine goL ?_
  refine xbd (cells := #[.int .i64 2541, .int .i64 0, .int .i64 0, .int .i64 0, .slice none 0 0, .slice none 0 0]) rfl (by kernel_rfl) ?_
  refine xbd (cells := (ndC sfV).toArray) rfl (by kernel_rfl) ?_
  refine goL ?_
  refine xcall rfl rfl (make_does w3 w0.heap.size g (smM 2) vf ve3 vn3 nvs3 st1 [97, 47, 102] sfV hS3.o (sfV_in _) (fun b hb => absurd hb (sfV_no _)) (by decide) (by decide) (by decide) (by decide)) ?_
  rintro r w4 ⟨rfl, ve4, vn4, nvs4, hS4⟩
  rw [sE2.2.1, sE2.2.2] at hS4
  rw [sE2.1]
  have hS4 := hS3.t hS4
  refine goL ?_
  refine xcall rfl rfl (link_does w4 w0.heap.size g (smM 3) vf ve4 vn4 nvs4 st3 [103] [97, 47, 102] hS4.o (by decide) (by decide)) ?_
  rintro r w5 ⟨rfl, ve5, nvs5, hS5⟩
  rw [sE3.2.1, sE3.2.2] at hS5
  rw [sE3.1]
  have hS5 := hS4.t hS5
  refine goL ?_
  refine xcall rfl rfl (own_does w5 w0.heap.size g (smM 4) vf ve5 vn4 nvs5 (stL 4 (madeN sfN 3)) [103] 1 2 hS5.o (by decide)) ?_
  rintro r w6 ⟨rfl, nvs6, hS6⟩
  rw [sE4.2.1, sE4.2.2] at hS6
  rw [sE4.1]
  have hS6 := hS5.t hS6
  refine goL ?_
  refine xcall rfl rfl (write_does w6 w0.heap.size g (smM 5) vf ve5 vn4 nvs6 (stL 4 sn4) [103] 0 [97, 98, 99, 100] hS6.o (by decide) (by decide) (by decide)) ?_
  rintro r w7 ⟨rfl, nvs7, hS7⟩
  rw [sE5.2.1, sE5.2.2] at hS7
  rw [sE5.1]
  have hS7 := hS6.t hS7
  refine goL ?_
  refine xcall rfl rfl (write_does w7 w0.heap.size g (smM 6) vf ve5 vn4 nvs7 (stL 4 sn6) [103] 2 [120, 121, 122] hS7.o (by decide) (by decide) (by decide)) ?_
  rintro r w8 ⟨rfl, nvs8, hS8⟩
  rw [sE6.2.1, sE6.2.2] at hS8
  rw [sE6.1]
  have hS8 := hS7.t hS8
  refine goL ?_
  refine xcall rfl rfl (get_does w8 g (smM 7) vf ve5 vn4 nvs8 (stL 4 sn6) [97, 47, 102] hS8.o.i (by decide)) ?_
  rintro r w9 ⟨x9, rfl, hO9, hx9, hI9, hF9⟩
  rw [sE7.1, if_pos rfl, sE7.2.1] at hx9
  rw [sE7.2.2] at hI9
  rw [sE7.1]
  have hS9 := hS8.t (FsS.put hS8.o hF9 hI9 rfl)
  refine goL ?_
  refine xalloc (z := .agg nd0) (by kernel_rfl) (fun w10 hB10 hE10 hs10 => ?_)
  refine xsta hB10 rfl rfl (by kernel_rfl) rfl (one_cells (l := ndC x9) (List.all_eq_true.2 (ndC_one hO9.in))) (fun w11 hB11 hF11 => ?_)
  have hE911 : Ext w9 w11 := hE10.trans hF11 fun j hj e => by have : j = w9.heap.size := e; omega
  have hS11 := hS9.t (FsS.ext hS9.o hE911)
  refine goL ?_
  refine xcall rfl rfl (gone_does w11 w0.heap.size g (smM 8) vf ve5 vn4 nvs8 (stL 4 sn6) [97] hS11.o (by decide) (stL_root _ _)) ?_
  rintro r w12 ⟨rfl, ve12, vn12, nvs12, hS12⟩
  rw [sE8.2.1, sE8.2.2] at hS12
  rw [sE8.1]
  have hn11 : ¬ FsK g ve5 vn4 w9.heap.size := fun hb => by have := (hS9.o.ltK hb).2; omega
  have hB12 := Blk.fr hB11 hS12.f hn11
  have hn12 : ¬ FsK g ve12 vn12 w9.heap.size := hS12.keep hB11.lt hn11
  have hS12 := hS11.t hS12
  refine goL ?_
  refine xcall rfl rfl (gone_does w12 w0.heap.size g smD vf ve12 vn12 nvs12 (stL 4 sn6) [97] hS12.o (by decide) (stL_root _ _)) ?_
  rintro r w13 ⟨rfl, ve13, vn13, nvs13, hS13⟩
  rw [sE9.2.1, sE9.2.2] at hS13
  rw [sE9.1]
  have hB13 := Blk.fr hB12 hS13.f hn12
  have hS13 := hS12.t hS13
  have k1 : w13.cell? ⟨w9.heap.size, 1, none⟩ = some (.int .i64 x9.n.mode) := hB13.cell 1
  have k2 : w13.cell? ⟨w9.heap.size, 2, none⟩ = some (.int .i64 x9.n.uid) := hB13.cell 2
  have k4 : w13.cell? ⟨w9.heap.size, 4, none⟩ = some (.int .i64 x9.n.time) := hB13.cell 4
  have k7 : w13.cell? ⟨w9.heap.size, 7, none⟩ = some (.int .i64 x9.n.size) := hB13.cell 7
  rw [hx9] at k1 k2 k4 k7
  have k1 : w13.cell? ⟨w9.heap.size, 1, none⟩ = some (.int .i64 493) := k1
  have k2 : w13.cell? ⟨w9.heap.size, 2, none⟩ = some (.int .i64 1) := k2
  have k4 : w13.cell? ⟨w9.heap.size, 4, none⟩ = some (.int .i64 6) := k4
  have k7 : w13.cell? ⟨w9.heap.size, 7, none⟩ = some (.int .i64 2) := k7
  have hE13 : Ext w w13 := hS13.extB hO1 (hE0.t hE1) z0
  refine goL ?_
  refine xcall rfl rfl (callsC w13 g _ vf _ _ hS13.o.i.k 9 rfl) ?_
  rintro r w14 ⟨rfl, rfl⟩
  refine goL ?_
  refine xcall rfl rfl (clock_does w13 g _ vf _ _ hS13.o.i.k) ?_
  rintro r w14 ⟨rfl, rfl⟩
  rw [show smD.calls = 9 from rfl]
  refine goL ?_
  refine xcall rfl rfl (used_does w13 g _ vf _ _ nvs13 _ hS13.o.i) ?_
  rintro r w14 ⟨rfl, hE14⟩
  rw [st_total]
  refine goL ?_
  refine xcall rfl rfl (tree_does w14 g _ vf _ _ nvs13 _ _ (hS13.o.i.ext hE14) st_norm) ?_
  rintro r w15 ⟨ve15, vn15, nvs15, rfl, hT15, hE15⟩
  obtain ⟨A15, c15, rfl, _, _⟩ := hT15.e.form
  rw [st_len]
  repeat' (first | refine xflde rfl ?_ | refine go1L ?_ | fail)
  refine xcall rfl rfl (new_does w15 (.slice none 0 0) (-1) [] (Rw.nil _ _ (by decide)) (by decide)) ?_
  rintro r w16 ⟨hE16, hr⟩
  rcases hr with ⟨_, rfl⟩ | ⟨hr, _⟩
  · refine goL ?_
    refine xcall rfl rfl (gonenil_does w16 [97]) ?_
    rintro r w17 ⟨rfl, hE17⟩
    refine goL ?_
    refine xcall rfl rfl (callsnil_does w17) ?_
    rintro r w18 ⟨rfl, rfl⟩
    refine goL ?_
    exact tret1 rfl rfl ⟨rfl, (((hE13.t hE14).t hE15).t hE16).t hE17⟩
  · exact absurd hr (by decide)
end Eng
end Go.Proofs.YtiebbecknfpdeaaGreatDoor
namespace Go.Proofs.YtiebbecknfpdeaaGreatDoor
open Go.RowKit
namespace Eng
def qM (q c : Int) : FsM := ⟨q, [], c, false⟩
theorem qM_beg (q c : Int) : (begM (qM q c)).2.1 = 0 ∧ (begM (qM q c)).2.2 = qM q (c + 1) := ⟨rfl, rfl⟩
theorem FsS.frB {w w' : World} {B g : Nat} {m m' : FsM} {vf ve vn ve' vn' : Value} {nvs nvs' : List NdV} {t t' : Tre} (hS : FsS w B g vf ve vn nvs w' m' t' ve' vn' nvs') (hO : FsO w B g m vf ve vn nvs t) : Fr (B ≤ ·) w w' := hS.f.mono fun _ _ hb => (hO.ltK hb).1
/-- Paths that are left before round i. -/
structure GnI (w4 : World) (q : Int) (B g : Nat) (vf : Value) (t : Tre) (i : Nat) (w' : World) : Prop where
  il : i < t.es.length
  xl : ∃ t' ve vn nvs, FsO w' B g (qM q (3 * ((t.es.length - 1 - i : Nat) : Int))) vf ve vn nvs t' ∧ FsG t' ∧ t'.es.map (·.path) = (t.es.map (·.path)).take (i + 1)
  fl : Fr (B ≤ ·) w4 w'
theorem root_of {t : Tre} (h : FsT t) : ∃ x r, t.es = x :: r ∧ x.path = [] := by
  obtain ⟨e, he, hp, _⟩ := h.g.root
  cases hes : t.es with
  | nil => rw [hes] at he; cases he
  | cons x r =>
    have ha := h.a
    rw [hes] at ha he
    exact ⟨x, r, rfl, by rw [root_first ha he hp]; exact hp⟩
theorem path_ne {t : Tre} (h : FsT t) {i : Nat} {e : En} (he : t.es[i + 1]? = some e) : e.path ≠ [] := fun hp => by
  obtain ⟨x, r, hes, hx⟩ := root_of h
  have ha := h.a
  rw [hes, List.pairwise_cons] at ha
  rw [hes, List.getElem?_cons_succ] at he
  have := ha.1 e (List.mem_of_getElem? he)
  unfold ltE at this
  rw [hp, less_nil] at this
  cases this
theorem from_of {t : Tre} (h : mayT t = true) {q : Int} (hq : 0 ≤ q ∧ q ≤ 1048576) (hl : (totalT t.ns : Int) ≤ q) : fromE q t = 0 := by
  unfold fromE
  rw [h, if_neg (fun hh => by
    rcases hh with hh | hh | hh
    · omega
    · omega
    · cases hh), if_neg (by omega)]
theorem fs_root {t : Tre} (h : FsT t) : ∃ e ∈ t.es, e.path = [] := by
  obtain ⟨e, he, h1, _⟩ := h.g.root
  exact ⟨e, he, h1⟩
attribute [local irreducible] xs T
set_option maxRecDepth 20000 in
set_option maxHeartbeats 16000000 in
theorem fsGone_core (hmk : MkD) (w : World) (v : Value) (zs : List Int) (hv : IRow w v zs) : Does Tryz.prog 6 #[v] w fun r w' => r = .bool true ∧ Ext w w' := by
  refine does1 Tryz.func6 rfl (by kernel_rfl) ?_
  have hN : ∀ {a b c : World} {g : Nat}, Ext a b → Fr (· = g) b c → a.heap.size ≤ g → Ext a c := fun h1 h2 hg => h1.trans h2 fun j hj e => absurd hj (by omega)
  refine goL ?_
  refine xcall rfl rfl (hmk w v zs hv) (fun r w1 h1 => ?_)
  obtain ⟨ve, vn, nvs, rfl, hT1, hE1⟩ := h1
  have hmay := mkT_may (zs.map uN)
  have htot := Sz.mkT_total (zs.map uN)
  obtain ⟨t, ht⟩ : ∃ t, t = mkT (zs.map uN) := ⟨_, rfl⟩
  rw [← ht] at hT1 hmay htot
  have hft := may_fst hmay
  have hns := may_ns hmay
  have hlen := hft.g.len
  have hfr : fromE 200000 t = 0 := from_of hmay (by decide) (by omega)
  obtain ⟨ok1, ok2, ok3⟩ := may_ok hmay
  obtain ⟨x0, r0, hes0, hx0⟩ := root_of hft
  have hpos : 0 < t.es.length := by rw [hes0]; exact Nat.succ_pos _
  obtain ⟨A, c, rfl, hc1, hc2, hA⟩ := hT1.e.op enC_len
  obtain ⟨N, d, rfl, hd1, hd2, hAN⟩ := hT1.n.op ndC_len
  refine goL ?_
  refine xalloc (z := .agg #[.slice none 0 0, .slice none 0 0]) (by kernel_rfl) (fun w2 hB2 hE2 hs2 => ?_)
  refine goL ?_
  refine xsta hB2 rfl rfl (by kernel_rfl) rfl (one_cells (l := [.slice A t.es.length c, .slice N nvs.length d]) rfl) (fun w3 hB3 hF3 => ?_)
  have hE13 : Ext w1 w3 := hN hE2 hF3 (Nat.le_refl _)
  have hE03 := hE1.t hE13
  have hT3 := hT1.ext hE13
  refine goL ?_
  refine xlda (t := 29) hB3 rfl rfl ?_
  refine goL ?_
  refine xcall rfl rfl (from_does w3 _ _ (.slice none 0 0) nvs t 200000 [] hT3 (Rw.nil _ _ (by decide)) ok2 ok1 (by omega) (by omega) (by decide)) ?_
  rintro r w4 ⟨p, rfl, hE4, hr⟩
  rw [hfr] at hr ⊢
  rcases hr with ⟨hr, _⟩ | ⟨_, g, vf, ve4, vn4, nvs4, rfl, hO4⟩
  · exact absurd rfl hr
  have hO4 : FsO w4 w3.heap.size g (qM 200000 0) vf ve4 vn4 nvs4 t := hO4
  have z1 := hE1.size
  have z13 := hE13.size
  have zg3 : w1.heap.size < w3.heap.size := hB3.lt
  have m4 : w4.cell? ⟨w1.heap.size, 0, none⟩ = some (.slice A t.es.length c) := (Blk.ext hB3 hE4).cell 0
  refine goL ?_
  refine tloop (α := Nat) (fun i => [(3, .pointer (some ⟨w1.heap.size, 0, none⟩)), (4, .pointer (some ⟨g, 0, none⟩)), (6, .int .i64 (i : Int))]) (GnI w4 200000 w3.heap.size g vf t) (fun i => i) (t.es.length - 1) (sub ⟨rfl, rfl, ieq (by omega)⟩) ⟨by omega, ⟨t, ve4, vn4, nvs4, by rw [Nat.sub_self]; exact hO4, may_fsg hmay, by rw [List.take_of_length_le (by rw [List.length_map]; omega)]⟩, Fr.refl _ _⟩ ?_
  rintro i w5 ⟨hi, ⟨t', ve5, vn5, nvs5, hO5, hG5, hP5⟩, hF5⟩
  have m0 : w5.cell? ⟨w1.heap.size, 0, none⟩ = some (.slice A t.es.length c) := hF5.cell m4 (show ¬ w3.heap.size ≤ w1.heap.size by omega)
  cases i with
  | succ k =>
    obtain ⟨b, o, e, rfl, hb, he, _, hcell⟩ := hA.at_ hi
    have hem := List.mem_of_getElem? he
    have ep : w5.cell? ⟨b, o + (k + 1) * 2 + 0, none⟩ = some (.string (su e.path)) := hF5.cell (hE4.cell (hE13.cell (hcell 0 _ rfl))) (show ¬ w3.heap.size ≤ b by omega)
    have hpl := mayP_len (hft.g.path e hem)
    have hne := path_ne hft he
    have hPl : t'.es.map (·.path) = (t.es.map (·.path)).take (k + 1) ++ [e.path] := by rw [hP5, List.take_add_one, List.getElem?_map, he]; rfl
    obtain ⟨e', he', hep⟩ : ∃ e' ∈ t'.es, e'.path = e.path := List.mem_map.1 (by rw [hPl]; simp)
    have hup : parS e.path = upP e'.path := by
      rw [hep]
      unfold parS parP
      rw [if_neg (fun h0 => by
        rcases parts_eq_nil.1 h0 with h3 | h3
        · exact hne h3
        · rw [hft.g.path e hem] at h3; cases h3)]
      rfl
    obtain ⟨j, hj⟩ : ∃ j : Nat, j = t.es.length - 1 - (k + 1) := ⟨_, rfl⟩
    have hj2 : t.es.length - 1 - k = j + 1 := by omega
    rw [← hj] at hO5
    have hg1 : goneE (qM 200000 (3 * (j : Int))) t' (upP e'.path) ≠ 0 := gone_up hG5.f he' (by rw [hep]; exact hne) rfl
    repeat' (first | refine xizq (k + 1) (o + (k + 1) * 2) rfl rfl rfl rfl rfl hi ?_ | refine go1L ?_ | fail)
    refine xcall rfl rfl (rparent_does w5 e.path (by omega)) ?_
    rintro r w6 ⟨rfl, hE6⟩
    rw [hup]
    have hO6 := hO5.ext hE6
    refine goL ?_
    refine xcall rfl rfl (gone_does w6 w3.heap.size g (qM 200000 (3 * (j : Int))) vf ve5 vn5 nvs5 t' (upP e'.path) hO6 (by show 0 ≤ 3 * (j : Int) ∧ 3 * (j : Int) ≤ _; omega) (fs_root hG5.f)) ?_
    rintro r w7 ⟨rfl, ve7, vn7, nvs7, hS7⟩
    rw [gone_same hg1, (qM_beg _ _).2] at hS7
    have hO7 := hS7.o
    have hg2 : goneE (qM 200000 (3 * (j : Int) + 1)) t' e.path = 0 := gone_last hG5.f hPl hne rfl
    refine goL ?_
    refine xcall rfl rfl (gone_does w7 w3.heap.size g (qM 200000 (3 * (j : Int) + 1)) vf ve7 vn7 nvs7 t' e.path hO7 (by show 0 ≤ 3 * (j : Int) + 1 ∧ 3 * (j : Int) + 1 ≤ _; omega) (fs_root hG5.f)) ?_
    rintro r w8 ⟨rfl, ve8, vn8, nvs8, hS8⟩
    rw [(qM_beg _ _).2] at hS8
    have hO8 := hS8.o
    have hP8 := gone_paths hG5.f hPl hg2
    have hG8 : FsG (goneT (qM 200000 (3 * (j : Int) + 1)) t' e.path) := gone_fsg hG5 (by show 0 ≤ 3 * (j : Int) + 1 + 1; omega)
    rw [hg2]
    obtain ⟨t8, ht8⟩ : ∃ t8, t8 = goneT (qM 200000 (3 * (j : Int) + 1)) t' e.path := ⟨_, rfl⟩
    rw [← ht8] at hS8 hO8 hP8 hG8
    have hg3 : goneE (qM 200000 (3 * (j : Int) + 1 + 1)) t8 e.path ≠ 0 := gone_no fun x hx hxp => by
      have hm : x.path ∈ (t.es.map (·.path)).take (k + 1) := by rw [← hP8]; exact List.mem_map_of_mem hx
      have hnd := hG5.f.g.nd
      rw [hPl] at hnd
      exact (List.nodup_append.1 hnd).2.2 _ hm e.path (by simp) hxp
    refine goL ?_
    refine xcall rfl rfl (gone_does w8 w3.heap.size g (qM 200000 (3 * (j : Int) + 1 + 1)) vf ve8 vn8 nvs8 t8 e.path hO8 (by show 0 ≤ 3 * (j : Int) + 1 + 1 ∧ 3 * (j : Int) + 1 + 1 ≤ _; omega) (fs_root hG8.f)) ?_
    rintro r w9 ⟨rfl, ve9, vn9, nvs9, hS9⟩
    rw [gone_same hg3, (qM_beg _ _).2] at hS9
    have hO9 := hS9.o
    have hF9 : Fr (w3.heap.size ≤ ·) w4 w9 := (((hF5.te hE6).t (hS7.frB hO6)).t (hS8.frB hO7)).t (hS9.frB hO8)
    have hO9' : FsO w9 w3.heap.size g (qM 200000 (3 * ((t.es.length - 1 - k : Nat) : Int))) vf ve9 vn9 nvs9 t8 := by
      rw [hj2, show 3 * ((j + 1 : Nat) : Int) = 3 * (j : Int) + 1 + 1 + 1 by omega]
      exact hO9
    refine goL ?_
    exact tfin ⟨k, sub ⟨rfl, rfl, ieq (by omega)⟩, ⟨by omega, ⟨t8, ve9, vn9, nvs9, hO9', hG8, hP8⟩, hF9⟩, Nat.lt_succ_self _⟩
  | zero =>
    have hP0 : t'.es.map (·.path) = [[]] := by rw [hP5, hes0]; simp [hx0]
    have hl5 : t'.es.length = 1 := by have := congrArg List.length hP0; rwa [List.length_map] at this
    have htt := gone_end hG5 hP0
    have hn5 := good_norm hG5.f.g
    have hl6 : (renT t'.ns (sortE t'.es)).es.length = 1 := by
      show (renG [] (sortE t'.es)).1.length = 1
      rw [renG_len, (sortE_perm t'.es).length_eq, hl5]
    rw [show t.es.length - 1 - 0 = t.es.length - 1 by omega] at hO5
    have hd := Fr.drew noneB w5
    have hEd : Ext w5 w5.drew := hd
    have m0d : w5.drew.cell? ⟨w1.heap.size, 0, none⟩ = some (.slice A t.es.length c) := m0
    have hO5d := hO5.ext hEd
    refine goL ?_
    refine tdrawH [80] (fun w' => w'.cell? ⟨w1.heap.size, 0, none⟩ = some (.slice A t.es.length c)) (by kernel_rfl) (by decide +kernel) m0d ?_
    refine goL ?_
    refine xcall rfl rfl (told7_does w5.drew) ?_ (fun r w' h => h.2.cell m0d)
    rintro r w6 ⟨rfl, hE6⟩
    have m6 := hE6.cell m0d
    have hO6 := hO5d.ext hE6
    refine goL ?_
    refine xcall rfl rfl (used_does w6 g _ vf _ _ nvs5 t' hO6.i) ?_ (fun r w' h => h.2.cell m6)
    rintro r w7 ⟨rfl, hE7⟩
    rw [htt]
    have m7 := hE7.cell m6
    have hO7 := hO6.ext hE7
    refine goL ?_
    refine xcall rfl rfl (tree_does w7 g _ vf _ _ nvs5 t' _ hO7.i hn5) ?_ (fun r w' h => by obtain ⟨_, _, _, _, _, h⟩ := h; exact h.cell m7)
    rintro r w8 ⟨ve8, vn8, nvs8, rfl, hT8, hE8⟩
    obtain ⟨A8, c8, rfl, _, _⟩ := hT8.e.form
    rw [hl6]
    have m8 := hE8.cell m7
    have hO8 := hO7.ext hE8
    have hg0 : goneE (qM 200000 (3 * ((t.es.length - 1 : Nat) : Int))) t' [] ≠ 0 := gone_root
    repeat' (first | refine xflde rfl ?_ | refine go1L ?_ | fail)
    refine xcall rfl rfl (gone_does w8 w3.heap.size g (qM 200000 (3 * ((t.es.length - 1 : Nat) : Int))) vf ve5 vn5 nvs5 t' [] hO8 (by show 0 ≤ 3 * ((t.es.length - 1 : Nat) : Int) ∧ 3 * ((t.es.length - 1 : Nat) : Int) ≤ _; omega) (fs_root hG5.f)) ?_ (fun r w' h => by
      obtain ⟨_, _, _, _, h⟩ := h
      exact (h.frB hO8).cell m8 (show ¬ w3.heap.size ≤ w1.heap.size by omega))
    rintro r w9 ⟨rfl, ve9, vn9, nvs9, hS9⟩
    rw [gone_same hg0, (qM_beg _ _).2] at hS9
    have m9 := (hS9.frB hO8).cell m8 (show ¬ w3.heap.size ≤ w1.heap.size by omega)
    refine goL ?_
    refine xcall rfl rfl (callsC w9 g _ vf _ _ hS9.o.i.k (3 * ((t.es.length - 1 : Nat) : Int) + 1) rfl) ?_ (fun r w' h => by rw [← h.2]; exact m9)
    rintro r w10 ⟨rfl, rfl⟩
    have hF9 : Fr (w3.heap.size ≤ ·) w4 w9 := ((((hF5.te hEd).te hE6).te hE7).te hE8).t (hS9.frB hO8)
    have hEE : Ext w w9 := (hE03.t hE4).trans hF9 fun j hj hb => by have : w3.heap.size ≤ j := hb; have := hE03.size; omega
    repeat' (first | refine xldh rfl rfl (fun _ h => h) ?_ | refine go1L ?_ | fail)
    exact tret1 rfl rfl ⟨rfl, hEE⟩
end Eng
end Go.Proofs.YtiebbecknfpdeaaGreatDoor
