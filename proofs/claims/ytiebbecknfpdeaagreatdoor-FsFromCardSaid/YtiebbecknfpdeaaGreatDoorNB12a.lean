/-
  Parts of the proof: Vl, Vm, Fa, Fb, Fc, Vn, Vo, Fg, Ff, Ja, Jb, Jc, Jd, Je, Jf, Jg, Jh, Ji.
-/
import Derived.Test.YtiebbecknfpdeaaGreatDoorNB0a
import Derived.Test.YtiebbecknfpdeaaGreatDoorNB0b
import Derived.Test.YtiebbecknfpdeaaGreatDoorNB10
import Derived.Test.YtiebbecknfpdeaaGreatDoorNB11
import Derived.Test.YtiebbecknfpdeaaGreatDoorNB2
import Derived.Test.YtiebbecknfpdeaaGreatDoorNB9
import Derived.Test.YtiebbecknfpdeaaGreatDoorNVj
import Derived.Test.YtiebbecknfpdeaaGreatDoorNWc
import Derived.Test.YtiebbecknfpdeaaGreatDoorNWh
import Derived.Test.YtiebbecknfpdeaaGreatDoorNWv
import Derived.Test.YtiebbecknfpdeaaGreatDoorNWy
import Derived.Test.YtiebbecknfpdeaaGreatDoorNYa
import Derived.Test.YtiebbecknfpdeaaGreatDoorNZr
set_option maxRecDepth 100000
set_option maxHeartbeats 64000000
namespace Go.Proofs.YtiebbecknfpdeaaGreatDoor.Eng
open Go.RowKit
section
open Wr
attribute [local irreducible] xs T
def ChC (w : World) (g : Nat) (fid : FuncId) (cap : Array Value) (f : Nd → Nd × Int) : Prop :=
 ∀ w' (x : NdV), Fr (· = g) w w' → NdIn w' x → NdL x.n → bytesP x.n.data ≤ 1000000 → Does Tryz.prog fid (#[.agg (ndC x).toArray] ++ cap) w' fun r w'' => ∃ x', r = .tuple #[.agg (ndC x').toArray, .int .i64 (f x.n).2] ∧ x'.n = (f x.n).1 ∧ (∀ u ∈ ndC x', u.oneCell' = true) ∧ ((f x.n).2 = 0 → NdO w'' w'.heap.size x') ∧ Ext w' w''
theorem write1_does (w : World) (g b1 b2 : Nat) (pos : Int) (s : Str) (h1 : w.cell? ⟨b1, 0, none⟩ = some (.int .i64 pos)) (h2 : w.cell? ⟨b2, 0, none⟩ = some (.string (su s))) (n1 : b1 ≠ g) (n2 : b2 ≠ g) (hsl : s.length ≤ 1000000) (hp : pos ≤ 4000000000000000000) :
  ChC w g 81 #[.pointer (some ⟨b1, 0, none⟩), .pointer (some ⟨b2, 0, none⟩)] (fun n => writeN n pos s) := by
 intro w0 x hF hx hL hb
 refine does3 Tryz.func81 rfl (by kernel_rfl) ?_
 have k1 := hF.cell h1 n1
 have k2 := hF.cell h2 n2
 refine goL ?_
 refine xbox rfl (fun w1 hB1 hE1 hs1 => ?_)
 refine goL ?_
 refine xalloc (z := .agg nd0) (by kernel_rfl) (fun w2 hB2 hE2 hs2 => ?_)
 have hE02 : Ext w0 w2 := hE1.t hE2
 have hB : Blk w2 w0.heap.size 67 (ndC x).toArray := Blk.ext hB1 hE2
 have q1 := hE02.cell k1
 have q2 := hE02.cell k2
 have z1 := hE1.size
 refine goL ?_
 refine xlda (t := 67) hB rfl rfl ?_
 refine goL ?_
 refine xcallE rfl rfl (nwrite_does w2 x pos s (hx.ext hE02) hL hb hsl hp) (fun r w3 h3 => ?_)
 exact y2
theorem size1_does (w : World) (g b1 : Nat) (size : Int) (h1 : w.cell? ⟨b1, 0, none⟩ = some (.int .i64 size)) (n1 : b1 ≠ g) :
  ChC w g 87 #[.pointer (some ⟨b1, 0, none⟩)] (fun n => cutN n size) := by
 intro w0 x hF hx hL hb
 refine does2 Tryz.func87 rfl (by kernel_rfl) ?_
 have k1 := hF.cell h1 n1
 refine goL ?_
 refine xbox rfl (fun w1 hB1 hE1 hs1 => ?_)
 refine goL ?_
 refine xalloc (z := .agg nd0) (by kernel_rfl) (fun w2 hB2 hE2 hs2 => ?_)
 have hE02 : Ext w0 w2 := hE1.t hE2
 have hB : Blk w2 w0.heap.size 67 (ndC x).toArray := Blk.ext hB1 hE2
 have q1 := hE02.cell k1
 have z1 := hE1.size
 refine goL ?_
 refine xlda (t := 67) hB rfl rfl ?_
 refine goL ?_
 refine xcallE rfl rfl (ncut_does w2 x size (hx.ext hE02) hL hb) (fun r w3 h3 => ?_)
 exact y2
end
section
open Wr
def changeE (m : FsM) (t : Tre) (p : Str) (f : Nd → Nd × Int) : Int :=
 if (findM t p).2 ≠ 0 then (findM t p).2 else if (nodeAt t (findM t p).1).kind = 1 then 8 else if (nodeAt t (findM t p).1).kind ≠ 2 then 9
 else if (f (nodeAt t (findM t p).1)).2 ≠ 0 then (f (nodeAt t (findM t p).1)).2
 else if m.quota < (totalT t.ns : Int) - bytesP (nodeAt t (findM t p).1).data + bytesP (f (nodeAt t (findM t p).1)).1.data then 10 else 0
def changeT (m : FsM) (t : Tre) (p : Str) (f : Nd → Nd × Int) : Tre := if changeE m t p f = 0 then ⟨t.es, t.ns.set (findM t p).1.toNat { (f (nodeAt t (findM t p).1)).1 with time := m.calls }⟩ else t
attribute [local irreducible] xs T
theorem change_does (w : World) (B g : Nat) (m : FsM) (vf ve vn : Value) (nvs : List NdV) (t : Tre) (p : Str) (fid : FuncId) (cap : Array Value) (f : Nd → Nd × Int) (h : FsO w B g m vf ve vn nvs t) (hfid : bit m_cal fid = true) (hed : ChC w g fid cap f)
  (hL : ∀ n ∈ t.ns, (f n).2 = 0 → NdL (f n).1 ∧ bytesP (f n).1.data ≤ 1000000) :
  Does Tryz.prog 80 #[.pointer (some ⟨g, 0, none⟩), .string (su p), .func (.func fid) #[] cap] w fun r w' => r = .int .i64 (changeE m t p f) ∧ ∃ nvs', FsS w B g vf ve vn nvs w' m (changeT m t p f) ve vn nvs' := by
 refine does3 Tryz.func80 rfl (by kernel_rfl) ?_
 have hlen := h.i.tr.len
 have hg := h.i.k.lt
 obtain ⟨A, c, rfl, hc1, hc2, _⟩ := h.i.tr.e.op enC_len
 refine goL ?_
 refine xcall rfl rfl (fsfind_does w g _ vf _ _ nvs t p h.i) ?_
 rintro r w3 ⟨rfl, hE3⟩
 have hS3 := FsS.ext h hE3
 unfold changeT changeE
 by_cases e1 : (findM t p).2 = 0
 ·rw [if_neg (fun h => h e1), e1]
  obtain ⟨i, hi, hil⟩ := find_range h.i.r e1
  rw [hi, Int.toNat_natCast]
  obtain ⟨gN, cN, rfl, hgN, hgN2, hcN, _, hcell⟩ := OwnZ.go h.o.n (by omega)
  obtain ⟨y, hy⟩ : ∃ y, nvs[i]? = some y := ⟨_, List.getElem?_eq_getElem (by omega)⟩
  have hyn : nodeAt t (i : Int) = y.n := by unfold nodeAt; rw [Int.toNat_natCast]; exact h.i.tr.getD hy
  rw [hyn]
  have hgg : gN ≠ g := h.i.a gN (.inr (.inl rfl))
  have k5 : w3.cell? ⟨g, 5, none⟩ = some (.slice (some ⟨gN, 0, none⟩) nvs.length cN) := hS3.o.i.k.cell 5
  have hyO := hS3.o.o.i y (List.mem_of_getElem? hy)
  have hyt := List.mem_of_getElem? (h.i.tr.get hy)
  refine gz22 ?_
  refine xldz (cs := ndC y) rfl (by kernel_rfl) (fun j u hu => hE3.cell (hcell _ u (flat_get ndC_len hy hu))) ?_
  refine goL ?_
  refine xalloc (z := .agg nd0) (by kernel_rfl) (fun w4 hB4 hE4 hs4 => ?_)
  refine goL ?_
  refine xsta hB4 rfl rfl (by kernel_rfl) rfl (one_cells (l := ndC y) (List.all_eq_true.2 (ndC_one hyO.in))) (fun w5 hB5 hF5 => ?_)
  have hE35 : Ext w3 w5 := hE4.trans hF5 fun j hj e => by have : j = w3.heap.size := e; omega
  have hS5 := hS3.t (FsS.ext hS3.o hE35)
  have z3 := hE3.size
  have q0 : w5.cell? ⟨w3.heap.size, 0, none⟩ = some (.int .i64 y.n.kind) := hB5.cell 0
  by_cases k1 : y.n.kind = 1
  ·rw [if_pos k1]
   refine goL ?_
   exact tret1 rfl rfl ⟨rfl, _, hS5⟩
  rw [if_neg k1]
  by_cases k2 : y.n.kind = 2
  ·rw [if_neg (fun h => h k2)]
   refine goL ?_
   refine xlda (t := 67) hB5 rfl rfl ?_
   refine goL ?_
   refine xcallv (vs := [.agg (ndC y).toArray]) rfl rfl hfid (hed w5 y (show Ext w w5 from hE3.t hE35).fr (hyO.in.ext hE35) (h.i.l y.n hyt) (h.i.s y.n hyt)) ?_
   rintro r w6 ⟨y', rfl, hyn', hone', hO6, hE6⟩
   have hS6 := hS5.t (FsS.ext hS5.o hE6)
   refine goL ?_
   refine xalloc (z := .agg nd0) (by kernel_rfl) (fun w7 hB7 hE7 hs7 => ?_)
   refine xsta hB7 rfl rfl (by kernel_rfl) rfl (one_cells (l := ndC y') (List.all_eq_true.2 hone')) (fun w8 hB8 hF8 => ?_)
   have hE68 : Ext w6 w8 := hE7.trans hF8 fun j hj e => by have : j = w6.heap.size := e; omega
   have hS8 := hS6.t (FsS.ext hS6.o hE68)
   by_cases e6 : (f y.n).2 = 0
   ·rw [if_neg (fun h => h e6)]
    have hB5' := (hB5.ext hE6).ext hE68
    have hq : Blk w8.drew w3.heap.size 67 (ndC y).toArray ∧ Blk w8.drew w6.heap.size 67 (ndC y').toArray ∧ w8.drew.cell? ⟨g, 0, none⟩ = some (.int .i64 m.quota) := ⟨hB5'.drew, hB8.drew, hS8.o.i.k.cell 0⟩
    refine goL ?_
    refine tdrawH [45, 48, 54] (fun w' => Blk w' w3.heap.size 67 (ndC y).toArray ∧ Blk w' w6.heap.size 67 (ndC y').toArray ∧ w'.cell? ⟨g, 0, none⟩ = some (.int .i64 m.quota)) (by kernel_rfl) (by decide +kernel) hq ?_
    refine goL ?_
    have hS8d := hS8.t (FsS.ext hS8.o (Fr.drew noneB w8))
    refine xcall rfl rfl (used_does w8.drew g _ vf _ _ nvs t hS8d.o.i) ?_ (fun r w' h => ⟨hq.1.ext h.2, hq.2.1.ext h.2, h.2.cell hq.2.2⟩)
    rintro r w9 ⟨rfl, hE9⟩
    have hq9 := And.intro (hq.1.ext hE9) (And.intro (hq.2.1.ext hE9) (hE9.cell hq.2.2))
    have hS9 := hS8d.t (FsS.ext hS8d.o hE9)
    have hE59 : Ext w5 w9 := ((hE6.t hE68).t (Fr.drew noneB w8)).t hE9
    have hyI := (hyO.in.ext hE35).ext hE59
    have hO9 := (((hO6 e6).ext hE68).ext (Fr.drew noneB w8)).ext hE9
    obtain ⟨hL1, hL2⟩ := hL y.n hyt e6
    have htot := totalT_le h.i.s
    have hln := h.i.ln
    have hby := h.i.s y.n hyt
    refine goL ?_
    refine xldzh (cs := ndC y) rfl (by kernel_rfl) (fun w' h j u hu => by rw [Nat.zero_add, h.1.cell, List.getElem?_toArray]; exact hu) ?_
    refine xcall rfl rfl (bytes_does w9 y hyI (h.i.s y.n hyt)) ?_ (fun r w' h => ⟨hq9.1.ext h.2, hq9.2.1.ext h.2, h.2.cell hq9.2.2⟩)
    rintro r w10 ⟨rfl, hE10⟩
    have hq10 := And.intro (hq9.1.ext hE10) (And.intro (hq9.2.1.ext hE10) (hE10.cell hq9.2.2))
    have hS10 := hS9.t (FsS.ext hS9.o hE10)
    refine goL ?_
    refine xldzh (cs := ndC y') rfl (by kernel_rfl) (fun w' h j u hu => by rw [Nat.zero_add, h.2.1.cell, List.getElem?_toArray]; exact hu) ?_
    refine xcall rfl rfl (bytes_does w10 y' (hO9.in.ext hE10) (by rw [hyn']; exact hL2)) ?_ (fun r w' h => ⟨hq10.1.ext h.2, hq10.2.1.ext h.2, h.2.cell hq10.2.2⟩)
    rintro r w11 ⟨rfl, hE11⟩
    have hq11 := And.intro (hq10.1.ext hE11) (And.intro (hq10.2.1.ext hE11) (hE11.cell hq10.2.2))
    have hS11 := hS10.t (FsS.ext hS10.o hE11)
    have hO11 := (hO9.ext hE10).ext hE11
    have hB11 := hq11.2.1
    have hbq : bytesP y'.n.data = bytesP (f y.n).1.data := by rw [hyn']
    rw [hbq]
    have hE611 : Ext w6 w11 := (((hE68.t (Fr.drew noneB w8)).t hE9).t hE10).t hE11
    have z6 := hE6.size
    by_cases hqq : m.quota < (totalT t.ns : Int) - bytesP y.n.data + bytesP (f y.n).1.data
    ·rw [if_pos hqq, if_neg (by decide)]
     repeat' (first | refine xldh rfl rfl (fun _ h => h.2.2) ?_ | refine go1L ?_ | fail)
     exact tret1 rfl rfl ⟨rfl, _, hS11⟩
    ·rw [if_neg hqq, if_pos rfl]
     repeat' (first | refine xldh rfl rfl (fun _ h => h.2.2) ?_ | refine go1L ?_ | fail)
     refine xcall rfl rfl (clock_does w11 g _ vf _ _ hS11.o.i.k) ?_
     rintro r w12 ⟨rfl, rfl⟩
     refine goL ?_
     refine xstb hB11 rfl rfl (by kernel_rfl) rfl rfl (fun w12 hB12 hF12 => ?_)
     have hB12' : Blk w12 w6.heap.size 67 (ndC ⟨timeN y'.n m.calls, y'.va, y'.vc, y'.vd⟩).toArray := hB12
     have hd := Fr.drew noneB w12
     have hE12d : Ext w12 w12.drew := hd
     have hE612 : Ext w6 w12.drew := (hE611.trans hF12 fun j hj e => by have : j = w6.heap.size := e; omega).t hE12d
     have hS12 := hS6.t (FsS.ext hS6.o hE612)
     have hO12 := (hO11.fr hF12 fun b hb => hO11.ne hB11 (by decide) (by decide) (by decide) hb).ext hE12d
     have hO12' : NdO w12.drew w5.heap.size ⟨timeN y'.n m.calls, y'.va, y'.vc, y'.vd⟩ := ⟨hO12.a, hO12.c, hO12.d⟩
     have hB12d := hB12'.ext hE12d
     have k5d : w12.drew.cell? ⟨g, 5, none⟩ = some (.slice (some ⟨gN, 0, none⟩) nvs.length cN) := hS12.o.i.k.cell 5
     have hB5g : B ≤ w5.heap.size := by have h1 := h.b; have := hE35.size; omega
     refine goL ?_
     refine xlda (t := 67) hB12d rfl rfl ?_
     refine gz22 ?_
     refine xstow ndC_len i hS12.o.o.n rfl rfl rfl (by kernel_rfl) (ndC_one hO12'.in) (by omega) (fun w13 hO13 hF13 => ?_)
     have hF13' : Fr (FsK g (.slice A t.es.length c) (.slice (some ⟨gN, 0, none⟩) nvs.length cN)) w12.drew w13 := hF13.mono fun b _ hb => .inr (.inr (by have : b = gN := hb; rw [this]; rfl))
     have hnn : timeN y'.n m.calls = timeN (f y.n).1 m.calls := by rw [hyn']
     have hxl : ∀ n ∈ t.ns.set i (timeN (f y.n).1 m.calls), n ∈ t.ns ∨ n = timeN (f y.n).1 m.calls := fun n hn => List.mem_or_eq_of_mem_set hn
     have hE312 : Ext w3 w12.drew := (hE35.t hE6).t hE612
     have hS13 : FsS w3 B g vf (.slice A t.es.length c) (.slice (some ⟨gN, 0, none⟩) nvs.length cN) nvs w13 m ⟨t.es, t.ns.set i (timeN (f y.n).1 m.calls)⟩ (.slice A t.es.length c) (.slice (some ⟨gN, 0, none⟩) nvs.length cN) (nvs.set i ⟨timeN y'.n m.calls, y'.va, y'.vc, y'.vd⟩) :=
      ⟨hS12.o.step hF13' rfl (hS12.o.i.k.fr hF13 (fun e => hgg e.symm)) (hS12.o.o.e.fr hF13 fun b hb e => hS12.o.o.e.apart hS12.o.o.n (by decide) hb (by have : b = gN := e; rw [this]; rfl)) hO13
       (fun x hx => (List.mem_or_eq_of_mem_set hx).elim (hS12.o.o.i x) fun e => by rw [e]; exact hO12'.mono hB5g) (by rw [List.map_set, h.o.m, hnn]) (by rw [List.length_set]; exact h.i.r) h.i.h
       (fun n hn => (hxl n hn).elim (h.i.l n) fun e => by rw [e]; exact ⟨hL1.a, hL1.c, hL1.d⟩) (fun n hn => (hxl n hn).elim (h.i.s n) fun e => by rw [e]; exact hL2) h.i.le (by rw [List.length_set]; exact h.i.ln), hE312.fr.t hF13', fun _ hb => .inl hb, fun x hx b hb => ?_⟩
     ·refine goL ?_
      exact tret1 rfl rfl ⟨rfl, _, hS3.t hS13⟩
     ·rcases List.mem_or_eq_of_mem_set hx with hx | rfl
      ·exact .inl ⟨x, hx, hb⟩
      ·refine .inr ?_
       have z5 := hE35.size
       rcases hb with hb | hb | hb
       ·have := (hO12'.a.blk hb).1; omega
       ·have := (hO12'.c.blk hb).1; omega
       ·have := (hO12'.d.blk hb).1; omega
   ·rw [if_pos e6, if_neg e6]
    refine goL ?_
    exact tret1 rfl rfl ⟨rfl, _, hS8⟩
  ·rw [if_pos k2]
   refine goL ?_
   exact tret1 rfl rfl ⟨rfl, _, hS5⟩
 ·rw [if_pos e1, if_neg e1]
  exact y63
end
section
structure FsG (t : Tre) : Prop where
 f : FsT t
 u : ∀ i : Nat, i < t.ns.length → ∃ e ∈ t.es, e.node = (i : Int)
theorem set_kind {ns : List Nd} {i : Nat} {n' : Nd} (hk : n'.kind = (ns.getD i default).kind) (k : Int) : kindAt (ns.set i n') k = kindAt ns k := by
 unfold kindAt
 rw [List.getD_eq_getElem?_getD, List.getElem?_set]
 by_cases h : i = k.toNat
 ·subst h
  rw [if_pos rfl]
  split
  ·exact hk
  ·rename_i hl
   rw [List.getD_eq_getElem?_getD, List.getElem?_eq_none (by omega)]
 ·rw [if_neg h, List.getD_eq_getElem?_getD]
theorem FsG.set {t : Tre} (h : FsG t) {i : Nat} {n' : Nd} (hk : n'.kind = (t.ns.getD i default).kind) (hn : nodeOK n' = true) : FsG ⟨t.es, t.ns.set i n'⟩ := by
 refine ⟨⟨⟨fun e he => by dsimp only; rw [List.length_set]; exact h.f.g.inr e he, h.f.g.len, h.f.g.path, h.f.g.nd, ?_, fun e he hne => ?_, fun e he => ?_, fun e he hk1 => h.f.g.dir e he ((set_kind hk _).symm.trans hk1)⟩, h.f.a⟩, fun j hj => h.u j (by dsimp only at hj; rwa [List.length_set] at hj)⟩
 ·obtain ⟨e, he, hp, hk1⟩ := h.f.g.root
  exact ⟨e, he, hp, (set_kind hk _).trans hk1⟩
 ·obtain ⟨d, hd, hp, hk1⟩ := h.f.g.par e he hne
  exact ⟨d, hd, hp, (set_kind hk _).trans hk1⟩
 ·have h1 := h.f.g.inr e he
  show nodeOK ((t.ns.set i n').getD e.node.toNat default) = true
  rw [List.getD_eq_getElem?_getD, List.getElem?_set]
  split
  ·rename_i e1
   split
   ·exact hn
   ·omega
  ·rw [← List.getD_eq_getElem?_getD]; exact h.f.g.node e he
theorem metaOK_time {n : Nd} {c : Int} (h : metaOK n = true) (hc : 0 ≤ c) : metaOK (timeN n c) = true := by
 unfold metaOK at h ⊢
 unfold timeN
 simp only [Bool.and_eq_true, decide_eq_true_eq] at h ⊢
 obtain ⟨⟨⟨⟨⟨⟨⟨⟨h1, h2⟩, h3⟩, h4⟩, _⟩, h6⟩, h7⟩, h8⟩, h9⟩ := h
 exact ⟨⟨⟨⟨⟨⟨⟨⟨h1, h2⟩, h3⟩, h4⟩, hc⟩, h6⟩, h7⟩, h8⟩, h9⟩
theorem nodeOK_meta {n n' : Nd} (h : nodeOK n = true) (hm : metaOK n' = true) (e : n'.kind = n.kind ∧ n'.size = n.size ∧ n'.data = n.data ∧ n'.target = n.target ∧ n'.major = n.major ∧ n'.minor = n.minor) : nodeOK n' = true := by
 obtain ⟨e1, e2, e3, e4, e5, e6⟩ := e
 unfold nodeOK at h ⊢
 rw [Bool.and_eq_true] at h ⊢
 refine ⟨hm, ?_⟩
 have h2 := h.2
 unfold noData noText noDev fileOK at h2 ⊢
 rw [e1, e2, e3, e4, e5, e6]
 exact h2
theorem nodeOK_time {n : Nd} {c : Int} (h : nodeOK n = true) (hc : 0 ≤ c) : nodeOK (timeN n c) = true :=
 nodeOK_meta h (metaOK_time (by unfold nodeOK at h; rw [Bool.and_eq_true] at h; exact h.1) hc) ⟨rfl, rfl, rfl, rfl, rfl, rfl⟩
theorem FsG.stamp {t : Tre} (h : FsG t) (p : Str) {c : Int} (hc : 0 ≤ c) : FsG (stampT t p c) := by
 unfold stampT stampN
 cases parP p with
 | none => exact h
 | some q =>
  dsimp only
  cases hf : findT t.es q with
  | none => exact h
  | some k =>
   obtain ⟨e, he, _, h2⟩ := findT_mem hf
   have h3 := h.f.g.node e he
   rw [h2] at h3
   exact h.set rfl (nodeOK_time h3 hc)
theorem insP_cons (e : En) (r : List En) (p : Str) (k : Int) : insP (e :: r) p k = if lessP e.path p = true then e :: insP r p k else ⟨p, k⟩ :: e :: r := by
 unfold insP
 rw [atP]
 split <;> rfl
theorem insP_perm (es : List En) (p : Str) (k : Int) : (insP es p k).Perm (⟨p, k⟩ :: es) := by
 unfold insP
 exact List.perm_middle.trans (by rw [List.take_append_drop])
theorem insP_asc {p : Str} {k : Int} (hp : mayP p = true) : ∀ {es : List En}, es.Pairwise ltE → (∀ e ∈ es, mayP e.path = true) → (∀ e ∈ es, e.path ≠ p) → (insP es p k).Pairwise ltE
 | [], _, _, _ => List.pairwise_singleton _ _
 | e :: r, h, hm, hn => by
  rw [List.pairwise_cons] at h
  rw [insP_cons]
  split
  ·rename_i hl
   rw [List.pairwise_cons]
   refine ⟨fun y hy => ?_, insP_asc hp h.2 (fun x hx => hm x (by simp [hx])) fun x hx => hn x (by simp [hx])⟩
   rcases List.mem_cons.1 ((insP_perm r p k).mem_iff.1 hy) with rfl | hy
   ·exact hl
   ·exact h.1 y hy
  ·rename_i hl
   have hlt : ltE ⟨p, k⟩ e := le_lt (a := ⟨p, k⟩) hp (hm e (by simp)) (fun e' => hn e (by simp) e'.symm) (by unfold leE; simpa using hl)
   rw [List.pairwise_cons, List.pairwise_cons]
   exact ⟨fun y hy => (List.mem_cons.1 hy).elim (fun e' => e' ▸ hlt) fun hy => lessL_trans _ _ _ hlt (h.1 y hy), h⟩
theorem FsT.app {t : Tre} (h : FsT t) (n : Nd) : FsT ⟨t.es, t.ns ++ [n]⟩ := by
 have hg : ∀ e ∈ t.es, (t.ns ++ [n]).getD e.node.toNat default = t.ns.getD e.node.toNat default := fun e he => by
  have := h.g.inr e he
  rw [List.getD_eq_getElem?_getD, List.getElem?_append_left (by omega), List.getD_eq_getElem?_getD]
 have hk : ∀ e ∈ t.es, kindAt (t.ns ++ [n]) e.node = kindAt t.ns e.node := fun e he => by unfold kindAt; rw [hg e he]
 refine ⟨⟨fun e he => ?_, h.g.len, h.g.path, h.g.nd, ?_, fun e he hne => ?_, fun e he => ?_, fun e he hk1 => h.g.dir e he ((hk e he).symm.trans hk1)⟩, h.a⟩
 ·have := h.g.inr e he
  dsimp only
  rw [List.length_append]
  simp only [List.length_cons, List.length_nil]
  omega
 ·obtain ⟨e, he, hp, hk1⟩ := h.g.root
  exact ⟨e, he, hp, (hk e he).trans hk1⟩
 ·obtain ⟨d, hd, hp, hk1⟩ := h.g.par e he hne
  exact ⟨d, hd, hp, (hk d hd).trans hk1⟩
 ·dsimp only; rw [hg e he]; exact h.g.node e he
theorem FsT.ins {t : Tre} (h : FsT t) {p : Str} {k : Int} (hl : t.es.length < 100) (hp : mayP p = true) (hnew : ∀ e ∈ t.es, e.path ≠ p) (hpar : p ≠ [] → ∃ d ∈ t.es, d.path = upP p ∧ kindAt t.ns d.node = 1) (hk : 0 ≤ k ∧ k < t.ns.length) (hn : nodeOK (t.ns.getD k.toNat default) = true) (hd : kindAt t.ns k ≠ 1 ∨ ∀ e ∈ t.es, e.node ≠ k) : FsT ⟨insP t.es p k, t.ns⟩ := by
 have hpm := insP_perm t.es p k
 have hmem : ∀ e, e ∈ insP t.es p k ↔ e = ⟨p, k⟩ ∨ e ∈ t.es := fun e => by rw [hpm.mem_iff, List.mem_cons]
 refine ⟨⟨fun e he => ?_, ?_, fun e he => ?_, ?_, ?_, fun e he hne => ?_, fun e he => ?_, fun e he hk1 e' he' hee => ?_⟩, insP_asc hp h.a h.g.path hnew⟩
 ·rcases (hmem e).1 he with rfl | he
  ·exact hk
  ·exact h.g.inr e he
 ·dsimp only; rw [hpm.length_eq, List.length_cons]; omega
 ·rcases (hmem e).1 he with rfl | he
  ·exact hp
  ·exact h.g.path e he
 ·rw [(hpm.map (·.path)).nodup_iff, List.map_cons, List.nodup_cons]
  exact ⟨fun hm => by obtain ⟨e, he, h1⟩ := List.mem_map.1 hm; exact hnew e he h1, h.g.nd⟩
 ·obtain ⟨e, he, h1, h2⟩ := h.g.root
  exact ⟨e, (hmem e).2 (.inr he), h1, h2⟩
 ·rcases (hmem e).1 he with rfl | he
  ·obtain ⟨d, hd, h1, h2⟩ := hpar hne
   exact ⟨d, (hmem d).2 (.inr hd), h1, h2⟩
  ·obtain ⟨d, hd, h1, h2⟩ := h.g.par e he hne
   exact ⟨d, (hmem d).2 (.inr hd), h1, h2⟩
 ·rcases (hmem e).1 he with rfl | he
  ·exact hn
  ·exact h.g.node e he
 ·rcases (hmem e).1 he with rfl | he
  ·rcases (hmem e').1 he' with rfl | he'
   ·rfl
   ·rcases hd with hd | hd
    ·exact absurd hk1 hd
    ·exact absurd hee (hd e' he')
  ·rcases (hmem e').1 he' with rfl | he'
   ·have hee : k = e.node := hee
    rcases hd with hd | hd
    ·rw [hee] at hd; exact absurd hk1 hd
    ·exact absurd hee.symm (hd e he)
   ·exact h.g.dir e he hk1 e' he' hee
theorem wrongU_miss (t : Tre) : ∀ (f : Nat) (o : Option Str), wrongU t f o 7 ≠ 0
 | 0, _ => by rw [wrongU]; decide
 | _ + 1, none => by rw [wrongU]; decide
 | f + 1, some q => by
  rw [wrongU]
  split
  ·split
   ·exact wrongU_miss t f _
   ·decide
  ·exact wrongU_miss t f _
theorem wrong_ok {t : Tre} {p : Str} (h : wrongM t p = 0) : mayP p = true ∧ (p ≠ [] → parP p = some (upP p) ∧ ∃ d ∈ t.es, d.path = upP p ∧ kindAt t.ns d.node = 1) := by
 unfold wrongM at h
 split at h
 ·rename_i hm
  refine ⟨hm, fun hp0 => ?_⟩
  have hpp : parP p = some (upP p) := by
   unfold parP
   rw [if_neg (fun h0 => by
    rcases parts_eq_nil.1 h0 with h1 | h1
    ·exact hp0 h1
    ·rw [hm] at h1; cases h1)]
  refine ⟨hpp, ?_⟩
  rw [hpp, wrongU] at h
  cases hf : findT t.es (upP p) with
  | none => rw [hf] at h; exact absurd h (wrongU_miss t _ _)
  | some k =>
   rw [hf] at h
   dsimp only at h
   split at h
   ·rename_i hk
    obtain ⟨d, hd, h1, h2⟩ := findT_mem hf
    exact ⟨d, hd, h1, by rw [h2]; exact hk⟩
   ·cases h
 ·cases h
theorem room_ok {t : Tre} {p : Str} (h : roomM t p = 0) : (∀ e ∈ t.es, e.path ≠ p) ∧ t.es.length < 100 := by
 unfold roomM at h
 split at h
 ·cases h
 ·rename_i hf
  split at h
  ·cases h
  ·refine ⟨findT_none (by cases hx : findT t.es p with | none => rfl | some k => rw [hx] at hf; exact absurd rfl hf), by omega⟩
theorem nodeOK_made {n : Nd} {c : Int} (h : nodeOK n = true) (hc : 0 ≤ c) : nodeOK (madeN n c) = true := by
 unfold nodeOK at h ⊢
 rw [Bool.and_eq_true] at h ⊢
 obtain ⟨h1, h2⟩ := h
 constructor
 ·unfold metaOK at h1 ⊢
  unfold madeN
  simp only [Bool.and_eq_true, decide_eq_true_eq] at h1
  obtain ⟨⟨⟨⟨⟨⟨⟨⟨h1, h2⟩, h3⟩, h4⟩, _⟩, h6⟩, h7⟩, h8⟩, h9⟩ := h1
  rw [decide_eq_true h1, decide_eq_true h2, decide_eq_true hc]
  rfl
 ·have e1 : noData (madeN n c) = true := rfl
  have e2 : noText (madeN n c) = noText n := rfl
  have e3 : noDev (madeN n c) = noDev n := rfl
  have e4 : fileOK (madeN n c) = true := rfl
  rw [e1, e2, e3, e4]
  show (if n.kind = 1 ∨ n.kind = 6 then _ else if n.kind = 2 then _ else if n.kind = 3 then true && noDev n && decide (1 ≤ n.target.length) && decide (n.target.length ≤ 200) && n.target.all _ else if n.kind = 4 ∨ n.kind = 5 then true && noText n && decide (0 ≤ n.major) && decide (n.major ≤ 65535) && decide (0 ≤ n.minor) && decide (n.minor ≤ 65535) else false) = true
  split at h2
  ·rename_i hk
   rw [if_pos hk]
   simp only [Bool.and_eq_true] at h2 ⊢
   exact ⟨⟨trivial, h2.1.2⟩, h2.2⟩
  ·rename_i hk
   rw [if_neg hk]
   split at h2
   ·rename_i hk
    rw [if_pos hk]
    simp only [Bool.and_eq_true] at h2 ⊢
    exact ⟨⟨trivial, h2.1.2⟩, h2.2⟩
   ·rename_i hk
    rw [if_neg hk]
    split at h2
    ·rename_i hk
     rw [if_pos hk]
     simp only [Bool.and_eq_true] at h2 ⊢
     exact ⟨⟨⟨⟨trivial, h2.1.1.1.2⟩, h2.1.1.2⟩, h2.1.2⟩, h2.2⟩
    ·rename_i hk
     rw [if_neg hk]
     split at h2
     ·rename_i hk
      rw [if_pos hk]
      simp only [Bool.and_eq_true] at h2 ⊢
      exact ⟨⟨⟨⟨⟨trivial, h2.1.1.1.1.2⟩, h2.1.1.1.2⟩, h2.1.1.2⟩, h2.1.2⟩, h2.2⟩
     ·cases h2
theorem make_fsg {m : FsM} {t : Tre} {p : Str} {n : Nd} (h : FsG t) (hc : 0 ≤ (begM m).2.2.calls) : FsG (makeT m t p n) := by
 unfold makeT
 split
 ·rename_i he
  unfold makeE at he
  split at he
  ·rename_i h1; exact absurd he h1
  split at he
  ·rename_i h1; exact absurd he h1
  split at he
  ·cases he
  rename_i _ hw hn
  obtain ⟨hw1, hw2⟩ := wrong_ok (by rw [Decidable.not_not] at hw; exact hw)
  obtain ⟨hr1, hr2⟩ := room_ok he
  have hnk : nodeOK n = true := by simpa using hn
  have hfa := h.f.app (madeN n (begM m).2.2.calls)
  have hka : ∀ e ∈ t.es, kindAt (t.ns ++ [madeN n (begM m).2.2.calls]) e.node = kindAt t.ns e.node := fun e he => by
   have := h.f.g.inr e he
   unfold kindAt
   rw [List.getD_eq_getElem?_getD, List.getElem?_append_left (by omega), List.getD_eq_getElem?_getD]
  unfold enterT
  refine FsG.stamp ⟨hfa.ins (k := (t.ns.length : Int)) hr2 hw1 hr1 (fun h0 => ?_) ?_ ?_ (.inr fun e he => ?_), fun i hi => ?_⟩ p hc
  ·obtain ⟨d, hd, h1, h2⟩ := (hw2 h0).2
   exact ⟨d, hd, h1, (hka d hd).trans h2⟩
  ·dsimp only; rw [List.length_append]; simp only [List.length_cons, List.length_nil]; omega
  ·exact y87
  ·have := h.f.g.inr e he
   omega
  ·dsimp only at hi ⊢
   rw [List.length_append] at hi
   simp only [List.length_cons, List.length_nil] at hi
   by_cases hlt : i < t.ns.length
   ·obtain ⟨e, he, h1⟩ := h.u i hlt
    exact y95
   ·exact ⟨⟨p, t.ns.length⟩, (insP_perm _ _ _).mem_iff.2 List.mem_cons_self, by dsimp only; omega⟩
 ·exact h
theorem find_ok {t : Tre} {p : Str} (h : (findM t p).2 = 0) : wrongM t p = 0 ∧ findT t.es p = some (findM t p).1 := by
 unfold findM at h ⊢
 split at h
 ·rename_i hw; exact absurd h hw
 ·rename_i hw
  refine ⟨by rw [Decidable.not_not] at hw; exact hw, ?_⟩
  rw [if_neg hw]
  cases hf : findT t.es p with
  | none => rw [hf] at h; cases h
  | some k => rfl
theorem link_fsg {m : FsM} {t : Tre} {p q : Str} (h : FsG t) (hc : 0 ≤ (begM m).2.2.calls) : FsG (linkT m t p q) := by
 unfold linkT
 split
 ·rename_i he
  unfold linkE at he
  split at he
  ·rename_i h1; exact absurd he h1
  split at he
  ·rename_i h1; exact absurd he h1
  split at he
  ·cases he
  split at he
  ·rename_i h1; exact absurd he h1
  rename_i _ hf hk hw
  obtain ⟨hw1, hw2⟩ := wrong_ok (by rw [Decidable.not_not] at hw; exact hw)
  obtain ⟨hr1, hr2⟩ := room_ok he
  obtain ⟨_, hf2⟩ := find_ok (by rw [Decidable.not_not] at hf; exact hf)
  obtain ⟨d, hd, hdp, hdk⟩ := findT_mem hf2
  have hdr := h.f.g.inr d hd
  have hdn := h.f.g.node d hd
  rw [hdk] at hdr hdn
  unfold enterT
  refine FsG.stamp ⟨h.f.ins hr2 hw1 hr1 (fun h0 => (hw2 h0).2) hdr hdn (.inl hk), fun i hi => ?_⟩ p hc
  obtain ⟨e, he, h1⟩ := h.u i hi
  exact y95
 ·exact h
theorem set_fsg {m : FsM} {t : Tre} {p : Str} {e : Nd → Int} {d : Nd → Nd} (h : FsG t) (hd : ∀ n, nodeOK n = true → e n = 0 → metaOK (d n) = true → nodeOK (d n) = true ∧ (d n).kind = n.kind) : FsG (setT m t p e d) := by
 unfold setT
 split
 ·rename_i he
  unfold setE at he
  split at he
  ·rename_i h1; exact absurd he h1
  split at he
  ·rename_i h1; exact absurd he h1
  split at he
  ·rename_i h1; exact absurd he h1
  split at he
  ·cases he
  rename_i _ hf h3 hm
  obtain ⟨_, hf2⟩ := find_ok (by rw [Decidable.not_not] at hf; exact hf)
  obtain ⟨x, hx, hxp, hxk⟩ := findT_mem hf2
  have hxn := h.f.g.node x hx
  rw [hxk] at hxn
  obtain ⟨g1, g2⟩ := hd (nodeAt t (findM t p).1) hxn (by rw [Decidable.not_not] at h3; exact h3) (by cases h9 : metaOK (d (nodeAt t (findM t p).1)) with | true => rfl | false => exact absurd h9 hm)
  exact h.set g2 g1
 ·exact h
theorem change_fsg {m : FsM} {t : Tre} {p : Str} {f : Nd → Nd × Int} (h : FsG t) (hc : 0 ≤ m.calls) (hd : ∀ n, nodeOK n = true → (f n).2 = 0 → nodeOK (f n).1 = true ∧ (f n).1.kind = n.kind) : FsG (changeT m t p f) := by
 unfold changeT
 split
 ·rename_i he
  unfold changeE at he
  split at he
  ·rename_i h1; exact absurd he h1
  split at he
  ·cases he
  split at he
  ·cases he
  split at he
  ·rename_i h1; exact absurd he h1
  rename_i hf _ _ h3
  obtain ⟨_, hf2⟩ := find_ok (by rw [Decidable.not_not] at hf; exact hf)
  obtain ⟨x, hx, hxp, hxk⟩ := findT_mem hf2
  have hxn := h.f.g.node x hx
  rw [hxk] at hxn
  obtain ⟨g1, g2⟩ := hd _ hxn (by rw [Decidable.not_not] at h3; exact h3)
  exact h.set (n' := timeN _ _) g2 (nodeOK_time g1 hc)
 ·exact h
theorem own_node {n : Nd} {a b : Int} (h : nodeOK n = true) (hm : metaOK (ownN a b n) = true) : nodeOK (ownN a b n) = true ∧ (ownN a b n).kind = n.kind := ⟨nodeOK_meta h hm ⟨rfl, rfl, rfl, rfl, rfl, rfl⟩, rfl⟩
theorem mode_node {n : Nd} {a : Int} (h : nodeOK n = true) (hm : metaOK (modeN a n) = true) : nodeOK (modeN a n) = true ∧ (modeN a n).kind = n.kind := ⟨nodeOK_meta h hm ⟨rfl, rfl, rfl, rfl, rfl, rfl⟩, rfl⟩
theorem time_node {n : Nd} {a : Int} (h : nodeOK n = true) (hm : metaOK (timeN n a) = true) : nodeOK (timeN n a) = true ∧ (timeN n a).kind = n.kind := ⟨nodeOK_meta h hm ⟨rfl, rfl, rfl, rfl, rfl, rfl⟩, rfl⟩
theorem erase_get {ns : List Nd} {k : Int} (hk0 : 0 ≤ k) {e : En} (he : 0 ≤ e.node) (hne : e.node ≠ k) : (ns.eraseIdx k.toNat).getD (decE k e).node.toNat default = ns.getD e.node.toNat default := by
 rw [List.getD_eq_getElem?_getD, List.getElem?_eraseIdx, List.getD_eq_getElem?_getD]
 unfold decE
 split
 ·rename_i h
  show (if (e.node - 1).toNat < k.toNat then _ else ns[(e.node - 1).toNat + 1]?).getD default = _
  rw [if_neg (by omega), show (e.node - 1).toNat + 1 = e.node.toNat by omega]
 ·rename_i h
  rw [if_pos (by omega)]
theorem FsT.drop {t : Tre} (h : FsT t) {k : Int} (hk : 0 ≤ k ∧ k < t.ns.length) (hno : ∀ e ∈ t.es, e.node ≠ k) : FsT ⟨t.es.map (decE k), t.ns.eraseIdx k.toNat⟩ := by
 have hg : ∀ e ∈ t.es, (t.ns.eraseIdx k.toNat).getD (decE k e).node.toNat default = t.ns.getD e.node.toNat default := fun e he => erase_get hk.1 (h.g.inr e he).1 (hno e he)
 have hkd : ∀ e ∈ t.es, kindAt (t.ns.eraseIdx k.toNat) (decE k e).node = kindAt t.ns e.node := fun e he => by unfold kindAt; rw [hg e he]
 have hpm : (t.es.map (decE k)).map (·.path) = t.es.map (·.path) := by rw [List.map_map]; exact List.map_congr_left fun e _ => decE_path k e
 refine ⟨⟨fun e he => ?_, ?_, fun e he => ?_, ?_, ?_, fun e he hne => ?_, fun e he => ?_, fun e he hk1 e' he' hee => ?_⟩, ltE_map hpm.symm h.a⟩
 ·obtain ⟨x, hx, rfl⟩ := List.mem_map.1 he
  have h1 := h.g.inr x hx
  have h2 := hno x hx
  dsimp only
  rw [List.length_eraseIdx, if_pos (by omega)]
  unfold decE
  split
  ·dsimp only; omega
  ·omega
 ·dsimp only; rw [List.length_map]; exact h.g.len
 ·obtain ⟨x, hx, rfl⟩ := List.mem_map.1 he
  rw [decE_path]
  exact h.g.path x hx
 ·dsimp only; rw [hpm]; exact h.g.nd
 ·obtain ⟨e, he, h1, h2⟩ := h.g.root
  exact ⟨_, List.mem_map_of_mem he, (decE_path k e).trans h1, (hkd e he).trans h2⟩
 ·obtain ⟨x, hx, rfl⟩ := List.mem_map.1 he
  rw [decE_path] at hne ⊢
  obtain ⟨d, hd, h1, h2⟩ := h.g.par x hx hne
  exact ⟨_, List.mem_map_of_mem hd, (decE_path k d).trans h1, (hkd d hd).trans h2⟩
 ·obtain ⟨x, hx, rfl⟩ := List.mem_map.1 he
  dsimp only
  rw [hg x hx]
  exact h.g.node x hx
 ·obtain ⟨x, hx, rfl⟩ := List.mem_map.1 he
  obtain ⟨y, hy, rfl⟩ := List.mem_map.1 he'
  have h1 := hno x hx
  have h2 := hno y hy
  have hxy : y.node = x.node := by
   unfold decE at hee
   split at hee <;> split at hee <;> (try dsimp only at hee) <;> omega
  rw [h.g.dir x hx ((hkd x hx).symm.trans hk1) y hy hxy]
theorem FsT.less {t : Tre} (h : FsT t) {p : Str} (hp : p ≠ []) (hk : kidsT t p = []) : FsT ⟨t.es.filter (nB (isP p)), t.ns⟩ := by
 have hmem : ∀ e, e ∈ t.es.filter (nB (isP p)) ↔ e ∈ t.es ∧ e.path ≠ p := fun e => by
  rw [List.mem_filter]
  unfold nB isP
  simp
 refine ⟨⟨fun e he => h.g.inr e ((hmem e).1 he).1, Nat.le_trans (List.length_filter_le _ _) h.g.len, fun e he => h.g.path e ((hmem e).1 he).1, h.g.nd.sublist (List.Sublist.map _ List.filter_sublist), ?_, fun e he hne => ?_, fun e he => h.g.node e ((hmem e).1 he).1, fun e he hk1 e' he' hee => h.g.dir e ((hmem e).1 he).1 hk1 e' ((hmem e').1 he').1 hee⟩, h.a.sublist List.filter_sublist⟩
 ·obtain ⟨e, he, h1, h2⟩ := h.g.root
  exact ⟨e, (hmem e).2 ⟨he, by rw [h1]; exact fun e' => hp e'.symm⟩, h1, h2⟩
 ·obtain ⟨he1, he2⟩ := (hmem e).1 he
  obtain ⟨d, hd, h1, h2⟩ := h.g.par e he1 hne
  refine ⟨d, (hmem d).2 ⟨hd, fun hdp => ?_⟩, h1, h2⟩
  have hpe : partsP e.path ≠ [] := fun h0 => by
   rcases parts_eq_nil.1 h0 with h3 | h3
   ·exact hne h3
   ·rw [h.g.path e he1] at h3; cases h3
  have hkm : lastP e.path ∈ kidsT t p := by
   unfold kidsT
   refine List.mem_map.2 ⟨e, List.mem_filter.2 ⟨he1, ?_⟩, rfl⟩
   unfold parP
   rw [if_neg hpe, ← h1, hdp]
   exact decide_eq_true rfl
  rw [hk] at hkm
  cases hkm
theorem off_fsg {t : Tre} (h : FsG t) {p : Str} {k : Int} (hf : findT t.es p = some k) (hp : p ≠ []) (hk : kidsT t p = []) : FsG (offT t p k) := by
 obtain ⟨d, hd, hdp, hdk⟩ := findT_mem hf
 have hdr := h.f.g.inr d hd
 rw [hdk] at hdr
 have hl := h.f.less hp hk
 have hmem : ∀ e, e ∈ t.es.filter (nB (isP p)) ↔ e ∈ t.es ∧ e.path ≠ p := fun e => by
  rw [List.mem_filter]
  unfold nB isP
  simp
 have hcl : (classT t p).length = (t.es.filter fun e => decide (e.node = k)).length := by unfold classT; rw [hf]; dsimp only; rw [List.length_map]
 have hdm : d ∈ t.es.filter fun e => decide (e.node = k) := List.mem_filter.2 ⟨hd, decide_eq_true hdk⟩
 unfold offT
 rw [hcl]
 split
 ·rename_i h1
  obtain ⟨z, hz⟩ := List.length_eq_one_iff.1 h1
  have hno : ∀ e ∈ t.es.filter (nB (isP p)), e.node ≠ k := fun e he hek => by
   obtain ⟨he1, he2⟩ := (hmem e).1 he
   have m1 : e ∈ t.es.filter fun e => decide (e.node = k) := List.mem_filter.2 ⟨he1, decide_eq_true hek⟩
   rw [hz, List.mem_singleton] at m1 hdm
   exact he2 (by rw [m1, ← hdm, hdp])
  refine ⟨hl.drop hdr hno, fun i hi => ?_⟩
  dsimp only at hi ⊢
  rw [List.length_eraseIdx, if_pos (by omega)] at hi
  have key : ∀ j : Nat, j < t.ns.length → (j : Int) ≠ k → ∃ e ∈ t.es.filter (nB (isP p)), e.node = (j : Int) := fun j hj hjk => by
   obtain ⟨e, he, h2⟩ := h.u j hj
   refine ⟨e, (hmem e).2 ⟨he, fun hep => hjk ?_⟩, h2⟩
   rw [← h2, nodup_path h.f.g.nd he hd (hep.trans hdp.symm), hdk]
  by_cases hik : (i : Int) < k
  ·obtain ⟨e, he, h2⟩ := key i (by omega) (by omega)
   exact ⟨decE k e, List.mem_map_of_mem he, by unfold decE; rw [if_neg (by omega), h2]⟩
  ·obtain ⟨e, he, h2⟩ := key (i + 1) (by omega) (by omega)
   exact ⟨decE k e, List.mem_map_of_mem he, by unfold decE; rw [if_pos (by omega)]; dsimp only; omega⟩
 ·rename_i h1
  refine ⟨hl, fun i hi => ?_⟩
  obtain ⟨e, he, h2⟩ := h.u i hi
  by_cases hep : e.path = p
  ·by_cases hex : ∃ x ∈ t.es, x.node = k ∧ x ≠ d
   ·obtain ⟨x, hx, hxk, hxd⟩ := hex
    have hed : e = d := nodup_path h.f.g.nd he hd (hep.trans hdp.symm)
    exact ⟨x, (hmem x).2 ⟨hx, fun hxp => hxd (nodup_path h.f.g.nd hx hd (hxp.trans hdp.symm))⟩, by rw [hxk, ← hdk, ← hed, h2]⟩
   ·refine absurd (congrArg List.length (one_of ((nodup_of_paths h.f.g.nd).filter _) hdm fun y hy => ?_)) h1
    obtain ⟨hy1, hy2⟩ := List.mem_filter.1 hy
    by_cases hyd : y = d
    ·exact hyd
    ·exact absurd ⟨y, hy1, of_decide_eq_true hy2, hyd⟩ hex
  ·exact ⟨e, (hmem e).2 ⟨he, hep⟩, h2⟩
theorem gone_ok {m : FsM} {t : Tre} {p : Str} (h : goneE m t p = 0) : (begM m).2.1 = 0 ∧ (findM t p).2 = 0 ∧ p ≠ [] ∧ kidsT t p = [] := by
 unfold goneE at h
 split at h
 ·rename_i h1; exact absurd h h1
 split at h
 ·rename_i h1; exact absurd h h1
 split at h
 ·cases h
 split at h
 ·cases h
 rename_i h1 h2 h3 h4
 exact ⟨Decidable.not_not.1 h1, Decidable.not_not.1 h2, h3, List.eq_nil_of_length_eq_zero (by omega)⟩
theorem gone_fsg {m : FsM} {t : Tre} {p : Str} (h : FsG t) (hc : 0 ≤ (begM m).2.2.calls) : FsG (goneT m t p) := by
 unfold goneT
 split
 ·rename_i he
  obtain ⟨_, h2, h3, h4⟩ := gone_ok he
  exact (off_fsg h (find_ok h2).2 h3 h4).stamp p hc
 ·exact h
theorem off_paths (t : Tre) (p : Str) (k c : Int) : (stampT (offT t p k) p c).es.map (·.path) = (t.es.map (·.path)).filter fun q => decide (q ≠ p) := by
 show (offT t p k).es.map (·.path) = _
 have h1 : (t.es.filter (nB (isP p))).map (·.path) = (t.es.map (·.path)).filter fun q => decide (q ≠ p) := by
  rw [List.filter_map]
  congr 1
  refine List.filter_congr fun e _ => ?_
  unfold nB isP
  simp
 unfold offT
 split
 ·dsimp only
  rw [List.map_map, ← h1]
  exact List.map_congr_left fun e _ => decE_path k e
 ·exact h1
theorem may_used {t : Tre} (h : mayT t = true) {i : Nat} (hi : i < t.ns.length) : ∃ e ∈ t.es, e.node = (i : Int) := by
 have h' := h
 unfold mayT at h'
 simp only [Bool.and_eq_true, decide_eq_true_eq] at h'
 obtain ⟨⟨⟨⟨_, _⟩, h3⟩, _⟩, _⟩ := h'
 obtain ⟨_, g2, g3, _, _⟩ := (ordB_iff t.ns t.es none 0 (Nat.zero_le _)).1 h3
 have := (cnt_pos t.es 0 i g2 (Nat.zero_le _)).2 (by rw [g3]; exact hi)
 unfold cntN at this
 obtain ⟨e, he, h1⟩ := List.countP_pos_iff.1 this
 exact ⟨e, he, of_decide_eq_true h1⟩
theorem may_fsg {t : Tre} (h : mayT t = true) : FsG t := ⟨may_fst h, fun _ hi => may_used h hi⟩
end
section
theorem gone_same {m : FsM} {t : Tre} {p : Str} (h : goneE m t p ≠ 0) : goneT m t p = t := by unfold goneT; rw [if_neg h]
end
section
theorem make_same {m : FsM} {t : Tre} {p : Str} {n : Nd} (h : makeE m t p n ≠ 0) : makeT m t p n = t := by unfold makeT; rw [if_neg h]
theorem make_flt {m : FsM} {t : Tre} {p : Str} {n : Nd} (h : (begM m).2.1 ≠ 0) : makeE m t p n = (begM m).2.1 := by unfold makeE; rw [if_pos h]
end
section
theorem node_new {n : Nd} (h : nodeOK n = true) : NdL n ∧ bytesP n.data ≤ 1000000 := ⟨node_rows h, by have := (node_small h).1; omega⟩
theorem write_good {n : Nd} {pos : Int} {s : Str} (h : (writeN n pos s).2 = 0) : nodeOK n = true := by
 unfold writeN at h
 split at h
 ·cases h
 ·rename_i h1
  cases hn : nodeOK n with
  | true => rfl
  | false => exact absurd (.inl hn) h1
theorem cut_good {n : Nd} {size : Int} (h : (cutN n size).2 = 0) : nodeOK n = true := by
 unfold cutN at h
 split at h
 ·cases h
 ·rename_i h1
  cases hn : nodeOK n with
  | true => rfl
  | false => exact absurd (.inl hn) h1
def shortS (m : FsM) (s : Str) : Str := if (begM m).1 = 2 then s.take (s.length / 2) else s
def writeE (m : FsM) (t : Tre) (p : Str) (pos : Int) (s : Str) : Int :=
 if (begM m).1 ≠ 2 ∧ (begM m).2.1 ≠ 0 then (begM m).2.1 else if changeE (begM m).2.2 t p (fun n => writeN n pos (shortS m s)) ≠ 0 then changeE (begM m).2.2 t p (fun n => writeN n pos (shortS m s)) else (begM m).2.1
def writeT (m : FsM) (t : Tre) (p : Str) (pos : Int) (s : Str) : Tre := if (begM m).1 ≠ 2 ∧ (begM m).2.1 ≠ 0 then t else changeT (begM m).2.2 t p (fun n => writeN n pos (shortS m s))
def sizeE (m : FsM) (t : Tre) (p : Str) (size : Int) : Int := if (begM m).2.1 ≠ 0 then (begM m).2.1 else changeE (begM m).2.2 t p (fun n => cutN n size)
def sizeT (m : FsM) (t : Tre) (p : Str) (size : Int) : Tre := if (begM m).2.1 ≠ 0 then t else changeT (begM m).2.2 t p (fun n => cutN n size)
theorem FsS.off {w w1 w2 : World} {B g k : Nat} {vf ve vn ve1 vn1 : Value} {nvs nvs1 : List NdV} {m : FsM} {t : Tre} (h : FsS w B g vf ve vn nvs w1 m t ve1 vn1 nvs1) (hF : Fr (· = k) w1 w2) (hk : w.heap.size ≤ k) (hn : ∀ b, b = g ∨ vf.ownBlock = some b ∨ TrK ve1 vn1 nvs1 b → b ≠ k) : FsS w B g vf ve vn nvs w2 m t ve1 vn1 nvs1 :=
 ⟨h.o.fr hF fun b hb e => hn b hb e, h.f.trans hF fun j hj e => by have : j = k := e; omega, h.k, h.n⟩
attribute [local irreducible] xs T
theorem write_does (w : World) (B g : Nat) (m : FsM) (vf ve vn : Value) (nvs : List NdV) (t : Tre) (p : Str) (pos : Int) (s : Str) (h : FsO w B g m vf ve vn nvs t) (hc : 0 ≤ m.calls ∧ m.calls ≤ 4000000000000000000) (hsl : s.length ≤ 1000000) (hp : pos ≤ 4000000000000000000) :
  Does Tryz.prog 35 #[.pointer (some ⟨g, 0, none⟩), .string (su p), .int .i64 pos, .string (su s)] w fun r w' => r = .int .i64 (writeE m t p pos s) ∧ ∃ nvs', FsS w B g vf ve vn nvs w' (begM m).2.2 (writeT m t p pos s) ve vn nvs' := by
 refine does4 Tryz.func35 rfl (by kernel_rfl) ?_
 have hg := h.i.k.lt
 obtain ⟨A, c, rfl, hc1, hc2, _⟩ := h.i.tr.e.op enC_len
 refine goL ?_
 refine xbox rfl (fun w1 hB1 hE1 hs1 => ?_)
 refine goL ?_
 refine xbox rfl (fun w2 hB2 hE2 hs2 => ?_)
 have hE02 : Ext w w2 := hE1.t hE2
 have h2 := h.ext hE02
 have z1 := hE1.size
 refine goL ?_
 refine xcall rfl rfl (begin_does w2 g m vf _ A _ c h2.i.k h2.i.h h2.i.f hc h2.i.af) ?_
 rintro r w3 ⟨rfl, hB3, hF3⟩
 have hi3 := h2.i.put hF3 hB3 (begM_flts m)
 have hS3 := (FsS.ext h hE02).t (FsS.put h2 hF3 hi3 (begM_flts m))
 have k6 : Blk w3 w.heap.size 2 #[.int .i64 pos] := (Blk.ext hB1 hE2).fr hF3 (show ¬ w.heap.size = g by omega)
 have k7 : Blk w3 w1.heap.size 9 #[.string (su s)] := Blk.fr hB2 hF3 (show ¬ w1.heap.size = g by omega)
 have hlt : ∀ b, b = g ∨ vf.ownBlock = some b ∨ TrK (.slice A t.es.length c) vn nvs b → b < w.heap.size := fun b hb => (h.blk hb).2
 unfold writeE writeT shortS
 by_cases hk : (begM m).1 = 2
 ·have hng : ¬ ((begM m).1 ≠ 2 ∧ (begM m).2.1 ≠ 0) := fun h => h.1 hk
  rw [if_neg hng, if_neg hng, if_pos hk]
  have q7 : w3.cell? ⟨w1.heap.size, 0, none⟩ = some (.string (su s)) := k7.cell 0
  refine gz28 ?_
  refine xstb k7 rfl rfl (by kernel_rfl) rfl rfl (fun w4 hB4 hF4 => ?_)
  have hS4 := hS3.off hF4 z1 fun b hb => by have := hlt b hb; omega
  have k64 := Blk.fr k6 hF4 (show ¬ w.heap.size = w1.heap.size by omega)
  have hst : (s.take (s.length / 2)).length ≤ 1000000 := by rw [List.length_take]; omega
  refine gz16 ?_
  refine xcall rfl rfl (change_does w4 B g _ vf _ vn nvs t p 81 #[.pointer (some ⟨w.heap.size, 0, none⟩), .pointer (some ⟨w1.heap.size, 0, none⟩)] (fun n => writeN n pos (s.take (s.length / 2))) hS4.o (by kernel_rfl)
   (write1_does w4 g w.heap.size w1.heap.size pos (s.take (s.length / 2)) (k64.cell 0) (Blk.cell hB4 0) (by omega) (by omega) hst hp)
   (fun n _ e => node_new (writeN_ok (write_good e) _ _))) ?_
  rintro r w5 ⟨rfl, nvs5, hS5⟩
  by_cases e5 : changeE (begM m).2.2 t p (fun n => writeN n pos (s.take (s.length / 2))) = 0
  ·rw [if_neg (fun h => h e5)]
   rw [e5]
   exact y77
  ·rw [if_pos e5]
   exact y77
 ·by_cases e : (begM m).2.1 = 0
  ·have hng : ¬ ((begM m).1 ≠ 2 ∧ (begM m).2.1 ≠ 0) := fun h => h.2 e
   rw [if_neg hng, if_neg hng, if_neg hk]
   refine gz16 ?_
   refine xcall rfl rfl (change_does w3 B g _ vf _ vn nvs t p 81 #[.pointer (some ⟨w.heap.size, 0, none⟩), .pointer (some ⟨w1.heap.size, 0, none⟩)] (fun n => writeN n pos s) hS3.o (by kernel_rfl)
    (write1_does w3 g w.heap.size w1.heap.size pos s (k6.cell 0) (k7.cell 0) (by omega) (by omega) hsl hp)
    (fun n _ e => node_new (writeN_ok (write_good e) _ _))) ?_
   rintro r w5 ⟨rfl, nvs5, hS5⟩
   by_cases e5 : changeE (begM m).2.2 t p (fun n => writeN n pos s) = 0
   ·rw [if_neg (fun h => h e5)]
    rw [e5]
    exact y53
   ·rw [if_pos e5]
    exact y53
  ·have hpg : (begM m).1 ≠ 2 ∧ (begM m).2.1 ≠ 0 := ⟨hk, e⟩
   rw [if_pos hpg, if_pos hpg]
   exact y63
theorem size_does (w : World) (B g : Nat) (m : FsM) (vf ve vn : Value) (nvs : List NdV) (t : Tre) (p : Str) (size : Int) (h : FsO w B g m vf ve vn nvs t) (hc : 0 ≤ m.calls ∧ m.calls ≤ 4000000000000000000) :
  Does Tryz.prog 41 #[.pointer (some ⟨g, 0, none⟩), .string (su p), .int .i64 size] w fun r w' => r = .int .i64 (sizeE m t p size) ∧ ∃ nvs', FsS w B g vf ve vn nvs w' (begM m).2.2 (sizeT m t p size) ve vn nvs' := by
 refine does3 Tryz.func41 rfl (by kernel_rfl) ?_
 have hg := h.i.k.lt
 obtain ⟨A, c, rfl, hc1, hc2, _⟩ := h.i.tr.e.op enC_len
 refine goL ?_
 refine xbox rfl (fun w1 hB1 hE1 hs1 => ?_)
 have h1 := h.ext hE1
 refine goL ?_
 refine xcall rfl rfl (begin_does w1 g m vf _ A _ c h1.i.k h1.i.h h1.i.f hc h1.i.af) ?_
 rintro r w3 ⟨rfl, hB3, hF3⟩
 have hi3 := h1.i.put hF3 hB3 (begM_flts m)
 have hS3 := (FsS.ext h hE1).t (FsS.put h1 hF3 hi3 (begM_flts m))
 have k6 : Blk w3 w.heap.size 2 #[.int .i64 size] := Blk.fr hB1 hF3 (show ¬ w.heap.size = g by omega)
 unfold sizeE sizeT
 by_cases e : (begM m).2.1 = 0
 ·rw [if_neg (fun h => h e), if_neg (fun h => h e), e]
  refine gz16 ?_
  refine xcall rfl rfl (change_does w3 B g _ vf _ vn nvs t p 87 #[.pointer (some ⟨w.heap.size, 0, none⟩)] (fun n => cutN n size) hS3.o (by kernel_rfl)
   (size1_does w3 g w.heap.size size (k6.cell 0) (by omega))
   (fun n _ e => node_new (cutN_ok (cut_good e) _))) ?_
  rintro r w5 ⟨rfl, nvs5, hS5⟩
  exact y53
 ·rw [if_pos e, if_pos e]
  exact y63
theorem nonenil_does (w : World) : Does Tryz.prog 62 #[.pointer none] w fun r w' => r = .bool true ∧ w = w' := by
 refine does1 Tryz.func62 rfl (by kernel_rfl) ?_
 refine goL ?_
 exact y10
theorem beginnil_does (w : World) : Does Tryz.prog 64 #[.pointer none] w fun r w' => r = .tuple #[.int .i64 0, .int .i64 1] ∧ w = w' := by
 refine does1 Tryz.func64 rfl (by kernel_rfl) ?_
 refine goL ?_
 refine tscope0 ?_
 refine goL ?_
 refine xcall rfl rfl (nonenil_does w) ?_
 rintro r w1 ⟨rfl, rfl⟩
 refine goL ?_
 exact tret2 rfl rfl rfl ⟨rfl, rfl⟩
theorem gonenil_does (w : World) (p : Str) : Does Tryz.prog 27 #[.pointer none, .string (su p)] w fun r w' => r = .int .i64 1 ∧ Ext w w' := by
 refine does2 Tryz.func27 rfl (by kernel_rfl) ?_
 refine goL ?_
 refine xbox rfl (fun w1 hB1 hE1 hs1 => ?_)
 refine goL ?_
 refine xcall rfl rfl (beginnil_does w1) ?_
 rintro r w2 ⟨rfl, rfl⟩
 exact y44
theorem callsnil_does (w : World) : Does Tryz.prog 21 #[.pointer none] w fun r w' => r = .int .i64 0 ∧ w = w' := by
 refine does1 Tryz.func21 rfl (by kernel_rfl) ?_
 refine goL ?_
 exact y10
end
section
section
variable {hs : List Nat} {H : World → Prop} {full : Array Oper} {K : Env → World → Prop} {rest : List Oper} {env : Env} {w : World} {d : Tmp} {ty : TypeId} {pos : String} {af : Array Edge}
theorem xflde {x : Operand} {ve vn : Value} (hx : evo env x = some (.agg #[ve, vn]))
  (h : xs Tryz.prog isI isS hs H full K rest ((d, ve) :: env) w) : xs Tryz.prog isI isS hs H full K (⟨some d, .field 29 x 0, ty, pos, af, none⟩ :: rest) env w := by
 refine x_gen rfl (by simp [opsOK, Op.operands, hx]) ⟨ve, fun w' => ?_, h⟩
 have hag : (isAgg 26).run Tryz.prog w' = .ok false w' := by
  unfold isAgg
  simp only [Sem.run_bind, run_underlying Tryz.underlying26, Result.andThen_ok]
  simp
 simp [execOp, ev_of hx, Instr.field, run_underlying Tryz.underlying29, asAgg, part, hag]
end
theorem FsO.ltK {w : World} {B g : Nat} {m : FsM} {vf ve vn : Value} {nvs : List NdV} {t : Tre} (h : FsO w B g m vf ve vn nvs t) {b : Nat} (hb : FsK g ve vn b) : B ≤ b ∧ b < w.heap.size := h.blk (by
 rcases hb with hb | hb | hb
 ·exact .inl hb
 ·exact .inr (.inr (.inl hb))
 ·exact .inr (.inr (.inr (.inl hb))))
theorem FsS.extB {w0 w w' : World} {B g : Nat} {m m' : FsM} {vf ve vn ve' vn' : Value} {nvs nvs' : List NdV} {t t' : Tre} (hS : FsS w B g vf ve vn nvs w' m' t' ve' vn' nvs') (hO : FsO w B g m vf ve vn nvs t) (hE : Ext w0 w) (hB : w0.heap.size ≤ B) : Ext w0 w' :=
 hE.trans hS.f fun j hj hb => by have := (hO.ltK hb).1; omega
theorem FsS.keep {w w' : World} {B g : Nat} {m' : FsM} {vf ve vn ve' vn' : Value} {nvs nvs' : List NdV} {t' : Tre} (hS : FsS w B g vf ve vn nvs w' m' t' ve' vn' nvs') {b : Nat} (hb : b < w.heap.size) (hn : ¬ FsK g ve vn b) : ¬ FsK g ve' vn' b := fun h => (hS.k b h).elim hn (by omega)
theorem callsC (w : World) (g : Nat) (m : FsM) (vf ve vn : Value) (h : Blk w g 109 (fsC m vf ve vn)) (c : Int) (hc : m.calls = c) : Does Tryz.prog 21 #[.pointer (some ⟨g, 0, none⟩)] w fun r w' => r = .int .i64 c ∧ w = w' := by
 subst hc
 exact calls_does w g m vf ve vn h
def sfl : List (Int × Int) := [(5, 2), (8, 3)]
def smM (c : Int) : FsM := ⟨4, sfl, c, false⟩
def smD : FsM := ⟨4, sfl, 9, true⟩
def sfN : Nd := ⟨2, 2541, 0, 0, 0, [], [], 0, [], [], 0, 0⟩
def sfV : NdV := ⟨sfN, .slice none 0 0, .slice none 0 0, .slice none 0 0⟩
theorem sfV_in (w : World) : NdIn w sfV := ⟨Rw.nil _ _ (by decide), Rw.nil _ _ (by decide), Rw.nil _ _ (by decide)⟩
theorem sfV_no (b : Nat) : ¬ NdN sfV b := fun h => by rcases h with h | h | h <;> exact absurd h.1 (by show ¬ 0 < 0; decide)
def sn4 : Nd := ⟨2, 493, 1, 2, 3, [], [], 0, [], [], 0, 0⟩
def sn6 : Nd := ⟨2, 493, 1, 2, 6, [], [], 2, [⟨0, [97, 98]⟩], [], 0, 0⟩
def st1 : Tre := ⟨[⟨[], 0⟩, ⟨[97], 1⟩], [timeN rootN 1, madeN (kN 1) 1]⟩
def st3 : Tre := ⟨[⟨[], 0⟩, ⟨[97], 1⟩, ⟨[97, 47, 102], 2⟩], [timeN rootN 1, timeN (madeN (kN 1) 1) 3, madeN sfN 3]⟩
def stL (c : Int) (n : Nd) : Tre := ⟨[⟨[], 0⟩, ⟨[97], 1⟩, ⟨[97, 47, 102], 2⟩, ⟨[103], 2⟩], [timeN rootN c, timeN (madeN (kN 1) 1) 3, n]⟩
theorem sE0 : makeE (smM 0) rootT [97] (kV 1).n = 0 ∧ makeT (smM 0) rootT [97] (kV 1).n = st1 ∧ (begM (smM 0)).2.2 = smM 1 := ⟨by kernel_rfl, by kernel_rfl, by kernel_rfl⟩
theorem sE1 : makeE (smM 1) st1 [120, 47, 121] (kV 2).n = 7 ∧ makeT (smM 1) st1 [120, 47, 121] (kV 2).n = st1 ∧ (begM (smM 1)).2.2 = smM 2 := ⟨by kernel_rfl, by kernel_rfl, by kernel_rfl⟩
theorem sE2 : makeE (smM 2) st1 [97, 47, 102] sfV.n = 0 ∧ makeT (smM 2) st1 [97, 47, 102] sfV.n = st3 ∧ (begM (smM 2)).2.2 = smM 3 := ⟨by kernel_rfl, by kernel_rfl, by kernel_rfl⟩
theorem sE3 : linkE (smM 3) st3 [103] [97, 47, 102] = 0 ∧ linkT (smM 3) st3 [103] [97, 47, 102] = stL 4 (madeN sfN 3) ∧ (begM (smM 3)).2.2 = smM 4 := ⟨by kernel_rfl, by kernel_rfl, by kernel_rfl⟩
theorem sE4 : setE (smM 4) (stL 4 (madeN sfN 3)) [103] (fun _ => 0) (ownN 1 2) = 0 ∧ setT (smM 4) (stL 4 (madeN sfN 3)) [103] (fun _ => 0) (ownN 1 2) = stL 4 sn4 ∧ (begM (smM 4)).2.2 = smM 5 := ⟨by kernel_rfl, by kernel_rfl, by kernel_rfl⟩
theorem sE5 : writeE (smM 5) (stL 4 sn4) [103] 0 [97, 98, 99, 100] = 11 ∧ writeT (smM 5) (stL 4 sn4) [103] 0 [97, 98, 99, 100] = stL 4 sn6 ∧ (begM (smM 5)).2.2 = smM 6 := ⟨by kernel_rfl, by kernel_rfl, by kernel_rfl⟩
theorem sE6 : writeE (smM 6) (stL 4 sn6) [103] 2 [120, 121, 122] = 10 ∧ writeT (smM 6) (stL 4 sn6) [103] 2 [120, 121, 122] = stL 4 sn6 ∧ (begM (smM 6)).2.2 = smM 7 := ⟨by kernel_rfl, by kernel_rfl, by kernel_rfl⟩
theorem sE7 : getE (smM 7) (stL 4 sn6) [97, 47, 102] = 0 ∧ nodeAt (stL 4 sn6) (findM (stL 4 sn6) [97, 47, 102]).1 = sn6 ∧ (begM (smM 7)).2.2 = smM 8 := ⟨by kernel_rfl, by kernel_rfl, by kernel_rfl⟩
theorem sE8 : goneE (smM 8) (stL 4 sn6) [97] = 12 ∧ goneT (smM 8) (stL 4 sn6) [97] = stL 4 sn6 ∧ (begM (smM 8)).2.2 = smD := ⟨by kernel_rfl, by kernel_rfl, by kernel_rfl⟩
theorem sE9 : goneE smD (stL 4 sn6) [97] = 12 ∧ goneT smD (stL 4 sn6) [97] = stL 4 sn6 ∧ (begM smD).2.2 = smD := ⟨by kernel_rfl, by kernel_rfl, by kernel_rfl⟩
theorem st_norm : normT (stL 4 sn6) = some (renT (stL 4 sn6).ns (sortE (stL 4 sn6).es)) := by unfold normT; rw [if_pos (by decide +kernel)]
theorem st_len : (renT (stL 4 sn6).ns (sortE (stL 4 sn6).es)).es.length = 4 := by decide +kernel
theorem st_total : totalT (stL 4 sn6).ns = 2 := by kernel_rfl
theorem stL_root (c : Int) (n : Nd) : ∃ e ∈ (stL c n).es, e.path = [] := ⟨⟨[], 0⟩, List.mem_cons_self, rfl⟩
attribute [local irreducible] xs T
theorem told7_does (w : World) : Does Tryz.prog 28 #[] w fun r w' => r = .bool true ∧ Ext w w' := by
 refine does0 Tryz.func28 rfl ?_
 refine goL ?_
 refine xbd (cells := (flC (5, 2)).toArray) rfl (by kernel_rfl) ?_
 refine xbd (cells := (flC (8, 3)).toArray) rfl (by kernel_rfl) ?_
 refine xbzn (css := sfl.map flC) sl_flts rfl (by intro cs hcs; obtain ⟨x, _, rfl⟩ := List.mem_map.1 hcs; rfl) rfl (by decide) (by decide) (by decide) (fun w0 hB0 hE0 hs0 => ?_)
 have hfl : Rw flC w0 (.slice (some ⟨w.heap.size, 0, none⟩) 2 2) sfl := blk_row hB0 (by decide) rfl
 refine goL ?_
 refine xcall rfl rfl (new_does w0 _ 4 sfl hfl (by decide)) ?_
 rintro r w1 ⟨hE1, hr⟩
 rcases hr with ⟨hr, _⟩ | ⟨_, g, vf, ve, vn, nvs, rfl, hO1⟩
 ·exact absurd rfl hr
 have hO1 : FsO w1 w0.heap.size g (smM 0) vf ve vn nvs rootT := hO1
 have z0 := hE0.size
 refine goL ?_
 refine xbd (cells := (ndC (kV 1)).toArray) rfl (by kernel_rfl) ?_
 refine goL ?_
 refine xcall rfl rfl (make_does w1 w0.heap.size g (smM 0) vf ve vn nvs rootT [97] (kV 1) hO1 (kV_in _ _) (fun b hb => absurd hb (kV_no _ _)) (by decide) (by decide) (by decide) (by decide)) ?_
 rintro r w2 ⟨rfl, ve2, vn2, nvs2, hS2⟩
 rw [sE0.2.1, sE0.2.2] at hS2
 rw [sE0.1]
 refine goL ?_
 refine xbd (cells := (ndC (kV 2)).toArray) rfl (by kernel_rfl) ?_
 refine goL ?_
 refine xcall rfl rfl (make_does w2 w0.heap.size g (smM 1) vf ve2 vn2 nvs2 st1 [120, 47, 121] (kV 2) hS2.o (kV_in _ _) (fun b hb => absurd hb (kV_no _ _)) (by decide) (by decide) (by decide) (by decide)) ?_
 rintro r w3 ⟨rfl, ve3, vn3, nvs3, hS3⟩
 rw [sE1.2.1, sE1.2.2] at hS3
 rw [sE1.1]
 have hS3 := hS2.t hS3
 refine goL ?_
 refine xbd (cells := #[.int .i64 2541, .int .i64 0, .int .i64 0, .int .i64 0, .slice none 0 0, .slice none 0 0]) rfl (by kernel_rfl) ?_
 refine xbd (cells := (ndC sfV).toArray) rfl (by kernel_rfl) ?_
 refine goL ?_
 refine xcall rfl rfl (make_does w3 w0.heap.size g (smM 2) vf ve3 vn3 nvs3 st1 [97, 47, 102] sfV hS3.o (sfV_in _) (fun b hb => absurd hb (sfV_no _)) (by decide) (by decide) (by decide) (by decide)) ?_
 rintro r w4 ⟨rfl, ve4, vn4, nvs4, hS4⟩
 rw [sE2.2.1, sE2.2.2] at hS4
 rw [sE2.1]
 have hS4 := hS3.t hS4
 refine goL ?_
 refine xcall rfl rfl (link_does w4 w0.heap.size g (smM 3) vf ve4 vn4 nvs4 st3 [103] [97, 47, 102] hS4.o (by decide) (by decide)) ?_
 rintro r w5 ⟨rfl, ve5, nvs5, hS5⟩
 rw [sE3.2.1, sE3.2.2] at hS5
 rw [sE3.1]
 have hS5 := hS4.t hS5
 refine goL ?_
 refine xcall rfl rfl (own_does w5 w0.heap.size g (smM 4) vf ve5 vn4 nvs5 (stL 4 (madeN sfN 3)) [103] 1 2 hS5.o (by decide)) ?_
 rintro r w6 ⟨rfl, nvs6, hS6⟩
 rw [sE4.2.1, sE4.2.2] at hS6
 rw [sE4.1]
 have hS6 := hS5.t hS6
 refine goL ?_
 refine xcall rfl rfl (write_does w6 w0.heap.size g (smM 5) vf ve5 vn4 nvs6 (stL 4 sn4) [103] 0 [97, 98, 99, 100] hS6.o (by decide) (by decide) (by decide)) ?_
 rintro r w7 ⟨rfl, nvs7, hS7⟩
 rw [sE5.2.1, sE5.2.2] at hS7
 rw [sE5.1]
 have hS7 := hS6.t hS7
 refine goL ?_
 refine xcall rfl rfl (write_does w7 w0.heap.size g (smM 6) vf ve5 vn4 nvs7 (stL 4 sn6) [103] 2 [120, 121, 122] hS7.o (by decide) (by decide) (by decide)) ?_
 rintro r w8 ⟨rfl, nvs8, hS8⟩
 rw [sE6.2.1, sE6.2.2] at hS8
 rw [sE6.1]
 have hS8 := hS7.t hS8
 refine goL ?_
 refine xcall rfl rfl (get_does w8 g (smM 7) vf ve5 vn4 nvs8 (stL 4 sn6) [97, 47, 102] hS8.o.i (by decide)) ?_
 rintro r w9 ⟨x9, rfl, hO9, hx9, hI9, hF9⟩
 rw [sE7.1, if_pos rfl, sE7.2.1] at hx9
 rw [sE7.2.2] at hI9
 rw [sE7.1]
 have hS9 := hS8.t (FsS.put hS8.o hF9 hI9 rfl)
 refine goL ?_
 refine xalloc (z := .agg nd0) (by kernel_rfl) (fun w10 hB10 hE10 hs10 => ?_)
 refine xsta hB10 rfl rfl (by kernel_rfl) rfl (one_cells (l := ndC x9) (List.all_eq_true.2 (ndC_one hO9.in))) (fun w11 hB11 hF11 => ?_)
 have hE911 : Ext w9 w11 := hE10.trans hF11 fun j hj e => by have : j = w9.heap.size := e; omega
 have hS11 := hS9.t (FsS.ext hS9.o hE911)
 refine goL ?_
 refine xcall rfl rfl (gone_does w11 w0.heap.size g (smM 8) vf ve5 vn4 nvs8 (stL 4 sn6) [97] hS11.o (by decide) (stL_root _ _)) ?_
 rintro r w12 ⟨rfl, ve12, vn12, nvs12, hS12⟩
 rw [sE8.2.1, sE8.2.2] at hS12
 rw [sE8.1]
 have hn11 : ¬ FsK g ve5 vn4 w9.heap.size := fun hb => by have := (hS9.o.ltK hb).2; omega
 have hB12 := Blk.fr hB11 hS12.f hn11
 have hn12 : ¬ FsK g ve12 vn12 w9.heap.size := hS12.keep hB11.lt hn11
 have hS12 := hS11.t hS12
 refine goL ?_
 refine xcall rfl rfl (gone_does w12 w0.heap.size g smD vf ve12 vn12 nvs12 (stL 4 sn6) [97] hS12.o (by decide) (stL_root _ _)) ?_
 rintro r w13 ⟨rfl, ve13, vn13, nvs13, hS13⟩
 rw [sE9.2.1, sE9.2.2] at hS13
 rw [sE9.1]
 have hB13 := Blk.fr hB12 hS13.f hn12
 have hS13 := hS12.t hS13
 have k1 : w13.cell? ⟨w9.heap.size, 1, none⟩ = some (.int .i64 x9.n.mode) := hB13.cell 1
 have k2 : w13.cell? ⟨w9.heap.size, 2, none⟩ = some (.int .i64 x9.n.uid) := hB13.cell 2
 have k4 : w13.cell? ⟨w9.heap.size, 4, none⟩ = some (.int .i64 x9.n.time) := hB13.cell 4
 have k7 : w13.cell? ⟨w9.heap.size, 7, none⟩ = some (.int .i64 x9.n.size) := hB13.cell 7
 rw [hx9] at k1 k2 k4 k7
 have k1 : w13.cell? ⟨w9.heap.size, 1, none⟩ = some (.int .i64 493) := k1
 have k2 : w13.cell? ⟨w9.heap.size, 2, none⟩ = some (.int .i64 1) := k2
 have k4 : w13.cell? ⟨w9.heap.size, 4, none⟩ = some (.int .i64 6) := k4
 have k7 : w13.cell? ⟨w9.heap.size, 7, none⟩ = some (.int .i64 2) := k7
 have hE13 : Ext w w13 := hS13.extB hO1 (hE0.t hE1) z0
 refine goL ?_
 refine xcall rfl rfl (callsC w13 g _ vf _ _ hS13.o.i.k 9 rfl) ?_
 rintro r w14 ⟨rfl, rfl⟩
 refine goL ?_
 refine xcall rfl rfl (clock_does w13 g _ vf _ _ hS13.o.i.k) ?_
 rintro r w14 ⟨rfl, rfl⟩
 rw [show smD.calls = 9 from rfl]
 refine goL ?_
 refine xcall rfl rfl (used_does w13 g _ vf _ _ nvs13 _ hS13.o.i) ?_
 rintro r w14 ⟨rfl, hE14⟩
 rw [st_total]
 refine goL ?_
 refine xcall rfl rfl (tree_does w14 g _ vf _ _ nvs13 _ _ (hS13.o.i.ext hE14) st_norm) ?_
 rintro r w15 ⟨ve15, vn15, nvs15, rfl, hT15, hE15⟩
 obtain ⟨A15, c15, rfl, _, _⟩ := hT15.e.form
 rw [st_len]
 repeat' (first | refine xflde rfl ?_ | refine go1L ?_ | fail)
 refine xcall rfl rfl (new_does w15 (.slice none 0 0) (-1) [] (Rw.nil _ _ (by decide)) (by decide)) ?_
 rintro r w16 ⟨hE16, hr⟩
 rcases hr with ⟨_, rfl⟩ | ⟨hr, _⟩
 ·refine goL ?_
  refine xcall rfl rfl (gonenil_does w16 [97]) ?_
  rintro r w17 ⟨rfl, hE17⟩
  refine goL ?_
  refine xcall rfl rfl (callsnil_does w17) ?_
  rintro r w18 ⟨rfl, rfl⟩
  refine goL ?_
  exact tret1 rfl rfl ⟨rfl, (((hE13.t hE14).t hE15).t hE16).t hE17⟩
 ·exact absurd hr (by decide)
end
section
theorem FsS.frB {w w' : World} {B g : Nat} {m m' : FsM} {vf ve vn ve' vn' : Value} {nvs nvs' : List NdV} {t t' : Tre} (hS : FsS w B g vf ve vn nvs w' m' t' ve' vn' nvs') (hO : FsO w B g m vf ve vn nvs t) : Fr (B ≤ ·) w w' := hS.f.mono fun _ _ hb => (hO.ltK hb).1
attribute [local irreducible] xs T
end
section
def FsA (g : Nat) (vf ve vn : Value) (nvs : List NdV) (b : Nat) : Prop := b = g ∨ vf.ownBlock = some b ∨ TrK ve vn nvs b
theorem FsA.of {g : Nat} {vf ve vn : Value} {nvs : List NdV} {b : Nat} (h : FsK g ve vn b) : FsA g vf ve vn nvs b := by
 rcases h with h | h | h
 ·exact .inl h
 ·exact .inr (.inr (.inl h))
 ·exact .inr (.inr (.inr (.inl h)))
theorem FsS.all {w w' : World} {B g : Nat} {m' : FsM} {vf ve vn ve' vn' : Value} {nvs nvs' : List NdV} {t' : Tre} (hS : FsS w B g vf ve vn nvs w' m' t' ve' vn' nvs') {b : Nat} (h : FsA g vf ve' vn' nvs' b) : FsA g vf ve vn nvs b ∨ w.heap.size ≤ b := by
 rcases h with h | h | h | h | ⟨x, hx, h⟩
 ·exact .inl (.inl h)
 ·exact .inl (.inr (.inl h))
 ·exact (hS.k b (.inr (.inl h))).imp FsA.of id
 ·exact (hS.k b (.inr (.inr h))).imp FsA.of id
 ·exact (hS.n x hx b h).imp (fun ⟨y, hy, h⟩ => .inr (.inr (.inr (.inr ⟨y, hy, h⟩)))) id
attribute [local irreducible] xs T
end
section
theorem ren_map2 (f : Int → Int) : ∀ (l : List En) (s : List Int), (∀ a ∈ s ++ l.map (·.node), ∀ b ∈ s ++ l.map (·.node), f a = f b → a = b) → renG (s.map f) (l.map (mvE f)) = ((renG s l).1, (renG s l).2.map f)
 | [], _, _ => rfl
 | e :: r, s, hf => by
  have hfe : ∀ a ∈ s, f a = f e.node → a = e.node := fun a ha => hf a (by simp [ha]) e.node (by simp)
  have hm : f e.node ∈ s.map f ↔ e.node ∈ s := ⟨fun h => by
   obtain ⟨a, ha, he⟩ := List.mem_map.1 h
   rw [← hfe a ha he]; exact ha, fun h => List.mem_map_of_mem h⟩
  have hix : ∀ s' : List Int, (∀ a ∈ s', a ∈ s) → (s'.map f).idxOf (f e.node) = s'.idxOf e.node := fun s' hs => by
   induction s' with
   | nil => rfl
   | cons a s' ih =>
    rw [List.map_cons, List.idxOf_cons, List.idxOf_cons, ih fun b hb => hs b (by simp [hb])]
    have : (f a == f e.node) = (a == e.node) := by
     rw [Bool.eq_iff_iff, beq_iff_eq, beq_iff_eq]
     exact ⟨hfe a (hs a (by simp)), fun h => by rw [h]⟩
    rw [this]
  have h1 : ∀ a ∈ s ++ r.map (·.node), ∀ b ∈ s ++ r.map (·.node), f a = f b → a = b := fun a ha b hb => hf a (by
   rcases List.mem_append.1 ha with h | h
   ·simp [h]
   ·exact List.mem_append_right _ (List.mem_cons_of_mem _ h)) b (by
   rcases List.mem_append.1 hb with h | h
   ·simp [h]
   ·exact List.mem_append_right _ (List.mem_cons_of_mem _ h))
  have h2 : ∀ a ∈ (s ++ [e.node]) ++ r.map (·.node), ∀ b ∈ (s ++ [e.node]) ++ r.map (·.node), f a = f b → a = b := fun a ha b hb => hf a (by rwa [List.append_assoc] at ha) b (by rwa [List.append_assoc] at hb)
  rw [List.map_cons, renG, renG]
  show (if f e.node ∈ s.map f then _ else _) = _
  by_cases h : e.node ∈ s
  ·rw [if_pos (hm.2 h), if_pos h, ren_map2 f r s h1]
   show (_ :: _, _) = _
   unfold mvE
   dsimp only
   rw [hix s fun _ h => h]
  ·rw [if_neg (fun h' => h (hm.1 h')), if_neg h]
   have e1 : s.map f ++ [(mvE f e).node] = (s ++ [e.node]).map f := by rw [List.map_append]; rfl
   rw [e1, ren_map2 f r (s ++ [e.node]) h2, List.length_map]
   rfl
theorem norm_iso2 {t u x : Tre} (f : Int → Int) (hf : ∀ a ∈ t.es, ∀ b ∈ t.es, f a.node = f b.node → a.node = b.node) (hp : u.es.Perm (t.es.map (mvE f))) (hn : ∀ e ∈ t.es, 0 ≤ f e.node ∧ f e.node < u.ns.length ∧ u.ns.getD (f e.node).toNat default = t.ns.getD e.node.toNat default) (h : normT t = some x) : normT u = some x := by
 have hg := norm_good h
 obtain ⟨h1, h2, h3⟩ := norm_form h
 have hs := sortE_sorted t.es
 have hps := sortE_perm t.es
 obtain ⟨s, hse⟩ : ∃ s, s = sortE t.es := ⟨_, rfl⟩
 rw [← hse] at hs hps h2 h3
 have hmp : (s.map (mvE f)).map (·.path) = s.map (·.path) := by rw [List.map_map]; rfl
 have hst := sort_strict (fun e he => hg.path e (hps.mem_iff.1 he)) ((hps.map (·.path)).nodup_iff.2 hg.nd) hs
 have hst' : (s.map (mvE f)).Pairwise ltE := ltE_map hmp.symm hst
 have hsu : sortE u.es = s.map (mvE f) := sort_one _ _ hst' (sortE_sorted _) (((sortE_perm _).trans hp).trans (hps.map _).symm)
 have hfs : ∀ a ∈ ([] : List Int) ++ s.map (·.node), ∀ b ∈ ([] : List Int) ++ s.map (·.node), f a = f b → a = b := fun a ha b hb e => by
  rw [List.nil_append] at ha hb
  obtain ⟨x, hx, rfl⟩ := List.mem_map.1 ha
  obtain ⟨y, hy, rfl⟩ := List.mem_map.1 hb
  exact hf x (hps.mem_iff.1 hx) y (hps.mem_iff.1 hy) e
 have hre : renT u.ns (s.map (mvE f)) = renT t.ns s := by
  unfold renT
  rw [show ([] : List Int) = ([] : List Int).map f from rfl, ren_map2 f s [] hfs]
  dsimp only
  congr 1
  rw [List.map_map]
  refine List.map_congr_left fun k hk => ?_
  obtain ⟨e, he, rfl⟩ := ((renG_mem k s []).1 hk).resolve_left (by simp)
  exact (hn e (hps.mem_iff.1 he)).2.2
 unfold normT
 rw [hsu, hre, inR_all (fun e he => ?_), Bool.true_and, if_pos h2, h3]
 obtain ⟨e', he', rfl⟩ := List.mem_map.1 (hp.mem_iff.1 he)
 exact ⟨(hn e' he').1, (hn e' he').2.1⟩
def relF (t : Tre) : List Int := (renG [] t.es).2
def nfT (t : Tre) : Tre := ⟨t.es.map (renE (relF t)), (relF t).map fun k => t.ns.getD k.toNat default⟩
theorem sort_asc {es : List En} (h : es.Pairwise ltE) : sortE es = es := sort_one es (sortE es) h (sortE_sorted _) (sortE_perm _)
theorem nf_norm {t : Tre} (h : FsT t) : normT t = some (nfT t) := by
 rw [good_norm h.g, sort_asc h.a]
 unfold renT nfT relF
 rw [renG_fst]
theorem relF_nd (t : Tre) : (relF t).Nodup := renG_nodup _ _ List.nodup_nil
theorem relF_mem {t : Tre} {k : Int} : k ∈ relF t ↔ ∃ e ∈ t.es, e.node = k := by unfold relF; rw [renG_mem]; simp
theorem find_ren (F : List Int) (p : Str) : ∀ l : List En, findT (l.map (renE F)) p = (findT l p).map fun k => (F.idxOf k : Int)
 | [] => rfl
 | e :: r => by
  rw [List.map_cons, findT, findT]
  show (if e.path = p then _ else _) = _
  split
  ·rfl
  ·exact find_ren F p r
theorem nf_find (t : Tre) (p : Str) : findT (nfT t).es p = (findT t.es p).map fun k => ((relF t).idxOf k : Int) := find_ren _ p t.es
theorem nf_node {t : Tre} {e : En} (he : e ∈ t.es) : (nfT t).ns.getD ((relF t).idxOf e.node) default = t.ns.getD e.node.toNat default := renN_get (relF_mem.2 ⟨e, he, rfl⟩)
theorem nf_at {t : Tre} {p : Str} {k : Int} (h : findT t.es p = some k) : (nfT t).ns.getD ((relF t).idxOf k) default = t.ns.getD k.toNat default := by
 obtain ⟨e, he, _, h2⟩ := findT_mem h
 rw [← h2]
 exact nf_node he
theorem nf_file (t : Tre) (q : Str) : fileQ (nfT t) q = fileQ t q := by
 unfold fileQ
 rw [nf_find]
 cases hf : findT t.es q with
 | none => rfl
 | some k =>
  show decide (((nfT t).ns.getD (((relF t).idxOf k : Nat) : Int).toNat default).kind ≠ 1) = _
  rw [Int.toNat_natCast, nf_at hf]
theorem nf_miss (t : Tre) (q : Str) : missQ (nfT t) q = missQ t q := by
 unfold missQ
 rw [nf_find]
 cases findT t.es q <;> rfl
theorem nf_wrong (t : Tre) (p : Str) : wrongM (nfT t) p = wrongM t p := by
 rw [wrongM_eq, wrongM_eq, show fileQ (nfT t) = fileQ t from funext (nf_file t), show missQ (nfT t) = missQ t from funext (nf_miss t)]
theorem nf_findM (t : Tre) (p : Str) : (findM (nfT t) p).2 = (findM t p).2 ∧ ((findM t p).2 = 0 → (findM (nfT t) p).1 = ((relF t).idxOf (findM t p).1 : Int) ∧ nodeAt (nfT t) (findM (nfT t) p).1 = nodeAt t (findM t p).1) := by
 have hw := nf_wrong t p
 have hf := nf_find t p
 unfold findM
 rw [hw, hf]
 split
 ·rename_i h
  exact ⟨rfl, fun h0 => absurd h0 h⟩
 ·cases hk : findT t.es p with
  | none => exact ⟨rfl, fun h0 => by cases h0⟩
  | some k =>
   refine ⟨rfl, fun _ => ⟨rfl, ?_⟩⟩
   show (nfT t).ns.getD (((relF t).idxOf k : Nat) : Int).toNat default = t.ns.getD k.toNat default
   rw [Int.toNat_natCast, nf_at hk]
theorem nf_len (t : Tre) : (nfT t).es.length = t.es.length := List.length_map _
theorem nf_room (t : Tre) (p : Str) : roomM (nfT t) p = roomM t p := by
 unfold roomM
 rw [nf_len, nf_find]
 cases findT t.es p <;> rfl
theorem nf_kids (t : Tre) (p : Str) : kidsT (nfT t) p = kidsT t p := by
 unfold kidsT nfT
 dsimp only
 rw [List.filter_map, List.map_map]
 rfl
theorem total_perm {a b : List Nd} (h : a.Perm b) : totalT a = totalT b := by
 induction h with
 | nil => rfl
 | cons x _ ih => rw [totalT, totalT, ih]
 | swap x y l => rw [totalT, totalT, totalT, totalT]; omega
 | trans _ _ h1 h2 => rw [h1, h2]
theorem relF_perm {t : Tre} (h : FsG t) : (relF t).Perm ((List.range t.ns.length).map Int.ofNat) := by
 have hn : ((List.range t.ns.length).map Int.ofNat).Nodup := List.pairwise_map.2 (List.nodup_range.imp fun hne e => hne (Int.ofNat.inj e))
 refine (List.perm_ext_iff_of_nodup (relF_nd t) hn).2 fun k => ?_
 rw [relF_mem, List.mem_map]
 constructor
 ·rintro ⟨e, he, rfl⟩
  have := h.f.g.inr e he
  exact ⟨e.node.toNat, List.mem_range.2 (by omega), Int.toNat_of_nonneg this.1⟩
 ·rintro ⟨i, hi, rfl⟩
  exact h.u i (List.mem_range.1 hi)
theorem range_get (l : List Nd) : (List.range l.length).map (fun i => l.getD i default) = l := by
 apply List.ext_getElem?
 intro i
 rw [List.getElem?_map]
 by_cases h : i < l.length
 ·rw [List.getElem?_range h, List.getElem?_eq_getElem h]
  show some (l.getD i default) = _
  rw [List.getD_eq_getElem?_getD, List.getElem?_eq_getElem h]
  rfl
 ·rw [List.getElem?_eq_none (by rw [List.length_range]; omega), List.getElem?_eq_none (by omega)]
  rfl
theorem nf_nsl {t : Tre} (h : FsG t) : (nfT t).ns.length = t.ns.length := by
 have := (relF_perm h).length_eq
 rw [List.length_map, List.length_range] at this
 unfold nfT
 dsimp only
 rw [List.length_map, this]
theorem nf_total {t : Tre} (h : FsG t) : totalT (nfT t).ns = totalT t.ns := by
 have hp := (relF_perm h).map fun k => t.ns.getD k.toNat default
 rw [List.map_map] at hp
 rw [show (nfT t).ns = (relF t).map fun k => t.ns.getD k.toNat default from rfl, total_perm hp]
 congr 1
 exact range_get t.ns
theorem nf_set {t : Tre} (h : FsT t) {e : En} (he : e ∈ t.es) (n : Nd) : nfT ⟨t.es, t.ns.set e.node.toNat n⟩ = ⟨(nfT t).es, (nfT t).ns.set ((relF t).idxOf e.node) n⟩ := by
 have hF : relF ⟨t.es, t.ns.set e.node.toNat n⟩ = relF t := rfl
 have hm : e.node ∈ relF t := relF_mem.2 ⟨e, he, rfl⟩
 unfold nfT
 rw [hF]
 dsimp only
 congr 1
 apply List.ext_getElem?
 intro i
 rw [List.getElem?_set, List.getElem?_map, List.length_map]
 have hin := h.g.inr e he
 by_cases hi : (relF t).idxOf e.node = i
 ·subst hi
  rw [if_pos rfl, if_pos (List.idxOf_lt_length_iff.2 hm), idx_get hm]
  show some ((t.ns.set e.node.toNat n).getD e.node.toNat default) = _
  rw [List.getD_eq_getElem?_getD, List.getElem?_set_self (by omega)]
  rfl
 ·rw [if_neg hi, List.getElem?_map]
  cases hk : (relF t)[i]? with
  | none => rfl
  | some k =>
   have hkm := List.mem_of_getElem? hk
   obtain ⟨x, hx, hxk⟩ := relF_mem.1 hkm
   have hne : k ≠ e.node := fun e1 => hi (by
    have hlt := (List.getElem?_eq_some_iff.1 hk).1
    have := List.Nodup.idxOf_getElem (relF_nd t) i hlt
    rw [(List.getElem?_eq_some_iff.1 hk).2] at this
    rw [← e1]; exact this)
   have hxr := h.g.inr x hx
   show some ((t.ns.set e.node.toNat n).getD k.toNat default) = some (t.ns.getD k.toNat default)
   rw [List.getD_eq_getElem?_getD, List.getElem?_set, if_neg (by omega), List.getD_eq_getElem?_getD]
theorem nf_put {t : Tre} (h : FsT t) {p : Str} {k : Int} (hf : findT t.es p = some k) (n : Nd) : nfT ⟨t.es, t.ns.set k.toNat n⟩ = ⟨(nfT t).es, (nfT t).ns.set ((relF t).idxOf k) n⟩ := by
 obtain ⟨e, he, _, h2⟩ := findT_mem hf
 rw [← h2]
 exact nf_set h he n
theorem nf_stamp {t : Tre} (h : FsT t) (p : Str) (c : Int) : nfT (stampT t p c) = stampT (nfT t) p c := by
 unfold stampT stampN
 cases hp : parP p with
 | none => rfl
 | some q =>
  dsimp only
  rw [nf_find]
  cases hf : findT t.es q with
  | none => rfl
  | some k =>
   dsimp only [Option.map_some]
   rw [nf_put h hf, Int.toNat_natCast, nf_at hf]
theorem nf_iso {t T : Tre} {X : Tre} (f : Int → Int) (hX : FsT X) (hf : ∀ a ∈ X.es, ∀ b ∈ X.es, f a.node = f b.node → a.node = b.node) (hp : T.es.Perm (X.es.map (mvE f))) (hn : ∀ e ∈ X.es, 0 ≤ f e.node ∧ f e.node < T.ns.length ∧ T.ns.getD (f e.node).toNat default = X.ns.getD e.node.toNat default) : normT T = some (nfT X) := by
 have _ := t
 exact norm_iso2 f hf hp hn (nf_norm hX)
theorem idx_lt {t : Tre} {e : En} (he : e ∈ t.es) : (relF t).idxOf e.node < (nfT t).ns.length := by
 unfold nfT
 dsimp only
 rw [List.length_map]
 exact List.idxOf_lt_length_iff.2 (relF_mem.2 ⟨e, he, rfl⟩)
theorem nf_link {t : Tre} {p : Str} {k : Int} (hX : FsT ⟨insP t.es p k, t.ns⟩) (hk : ∃ e ∈ t.es, e.node = k) : normT ⟨(nfT t).es ++ [⟨p, ((relF t).idxOf k : Int)⟩], (nfT t).ns⟩ = some (nfT ⟨insP t.es p k, t.ns⟩) := by
 obtain ⟨d, hd, hdk⟩ := hk
 have hmem : ∀ e, e ∈ insP t.es p k → ∃ x ∈ t.es, x.node = e.node := fun e he => by
  rcases List.mem_cons.1 ((insP_perm t.es p k).mem_iff.1 he) with rfl | he
  ·exact ⟨d, hd, hdk⟩
  ·exact ⟨e, he, rfl⟩
 refine nf_iso (t := t) (fun j => ((relF t).idxOf j : Int)) hX (fun a ha b hb e => ?_) ?_ fun e he => ?_
 ·obtain ⟨x, hx, hxa⟩ := hmem a ha
  exact idx_inj (relF_mem.2 ⟨x, hx, hxa⟩) (by have e : ((relF t).idxOf a.node : Int) = (relF t).idxOf b.node := e; omega)
 ·refine (List.perm_append_comm.trans ?_).trans ((insP_perm t.es p k).map _).symm
  exact List.Perm.refl _
 ·obtain ⟨x, hx, hxe⟩ := hmem e he
  have h1 := idx_lt hx
  have h2 := nf_node hx
  rw [hxe] at h1 h2
  exact ⟨by omega, by dsimp only; omega, by rw [Int.toNat_natCast]; exact h2⟩
theorem nf_make {t : Tre} (h : FsG t) {p : Str} {n : Nd} (hX : FsT ⟨insP t.es p t.ns.length, t.ns ++ [n]⟩) : normT ⟨(nfT t).es ++ [⟨p, ((nfT t).ns.length : Int)⟩], (nfT t).ns ++ [n]⟩ = some (nfT ⟨insP t.es p t.ns.length, t.ns ++ [n]⟩) := by
 have hl := nf_nsl h
 have hFl : (relF t).length = t.ns.length := by have := (relF_perm h).length_eq; rwa [List.length_map, List.length_range] at this
 have hold : ∀ e ∈ t.es, (relF t).idxOf e.node < t.ns.length := fun e he => by have := idx_lt he; omega
 have hnew : (relF t).idxOf (t.ns.length : Int) = t.ns.length := by
  rw [← hFl]
  refine List.idxOf_eq_length fun hm => ?_
  obtain ⟨e, he, h1⟩ := relF_mem.1 hm
  have := h.f.g.inr e he
  omega
 have hmem : ∀ e ∈ insP t.es p t.ns.length, e.node = (t.ns.length : Int) ∨ e ∈ t.es := fun e he => by
  rcases List.mem_cons.1 ((insP_perm t.es p t.ns.length).mem_iff.1 he) with rfl | he
  ·exact .inl rfl
  ·exact .inr he
 refine nf_iso (t := t) (fun j => ((relF t).idxOf j : Int)) hX (fun a ha b hb e => ?_) ?_ fun e he => ?_
 ·have e : ((relF t).idxOf a.node : Int) = (relF t).idxOf b.node := e
  rcases hmem a ha with h1 | h1 <;> rcases hmem b hb with h2 | h2
  ·rw [h1, h2]
  ·rw [h1, hnew] at e; have := hold b h2; omega
  ·rw [h2, hnew] at e; have := hold a h1; omega
  ·exact idx_inj (relF_mem.2 ⟨a, h1, rfl⟩) (by omega)
 ·refine (List.perm_append_comm.trans ?_).trans ((insP_perm t.es p t.ns.length).map _).symm
  show (⟨p, ((nfT t).ns.length : Int)⟩ :: (nfT t).es).Perm (⟨p, ((relF t).idxOf (t.ns.length : Int) : Int)⟩ :: _)
  rw [hnew, hl]
  exact List.Perm.refl _
 ·rcases hmem e he with h1 | h1
  ·rw [h1, hnew, Int.toNat_natCast]
   refine ⟨by omega, by dsimp only; rw [List.length_append, hl]; simp only [List.length_cons, List.length_nil]; omega, ?_⟩
   dsimp only
   rw [List.getD_eq_getElem?_getD, List.getElem?_append_right (by omega), hl, Nat.sub_self, List.getD_eq_getElem?_getD, List.getElem?_append_right (Nat.le_refl _), Nat.sub_self]
  ·have h2 := hold e h1
   have h3 := nf_node h1
   have h4 := h.f.g.inr e h1
   refine ⟨by omega, by dsimp only; rw [List.length_append, hl]; omega, ?_⟩
   dsimp only
   rw [Int.toNat_natCast, List.getD_eq_getElem?_getD, List.getElem?_append_left (by omega), List.getD_eq_getElem?_getD, List.getElem?_append_left (by omega), ← List.getD_eq_getElem?_getD, ← List.getD_eq_getElem?_getD]
   exact h3
theorem filter_ren (F : List Int) (p : Str) (l : List En) : (l.map (renE F)).filter (fun e => decide (e.path ≠ p)) = (l.filter (nB (isP p))).map (renE F) := by
 rw [List.filter_map]
 congr 1
 refine List.filter_congr fun e _ => ?_
 unfold nB isP
 show decide (e.path ≠ p) = !decide (e.path = p)
 simp
theorem nf_off {t : Tre} (h : FsG t) {p : Str} {k : Int} (hf : findT t.es p = some k) (hp : p ≠ []) (hk : kidsT t p = []) : normT ⟨(nfT t).es.filter (fun e => decide (e.path ≠ p)), (nfT t).ns⟩ = some (nfT (offT t p k)) := by
 have hX := (off_fsg h hf hp hk).f
 obtain ⟨d, hd, hdp, hdk⟩ := findT_mem hf
 have hdr := h.f.g.inr d hd
 have hes : (nfT t).es.filter (fun e => decide (e.path ≠ p)) = (t.es.filter (nB (isP p))).map (renE (relF t)) := filter_ren _ p t.es
 rw [hes]
 have hmem : ∀ e, e ∈ t.es.filter (nB (isP p)) → e ∈ t.es ∧ e.path ≠ p := fun e he => by
  obtain ⟨h1, h2⟩ := List.mem_filter.1 he
  unfold nB isP at h2
  exact ⟨h1, by simpa using h2⟩
 unfold offT at hX ⊢
 by_cases h1 : (classT t p).length = 1
 ·rw [if_pos h1] at hX ⊢
  have hno : ∀ e ∈ t.es.filter (nB (isP p)), e.node ≠ k := fun e he hek => by
   obtain ⟨he1, he2⟩ := hmem e he
   unfold classT at h1
   rw [hf] at h1
   dsimp only at h1
   rw [List.length_map] at h1
   obtain ⟨z, hz⟩ := List.length_eq_one_iff.1 h1
   have m0 : d ∈ t.es.filter fun e => decide (e.node = k) := List.mem_filter.2 ⟨hd, decide_eq_true hdk⟩
   have m1 : e ∈ t.es.filter fun e => decide (e.node = k) := List.mem_filter.2 ⟨he1, decide_eq_true hek⟩
   rw [hz, List.mem_singleton] at m0 m1
   exact he2 (by rw [m1, ← m0, hdp])
  have hback : ∀ e ∈ t.es.filter (nB (isP p)), (if (decE k e).node < k then (decE k e).node else (decE k e).node + 1) = e.node := fun e he => by
   have := hno e he
   unfold decE
   split
   ·dsimp only; rw [if_neg (by omega)]; omega
   ·rw [if_pos (by omega)]
  refine nf_iso (t := t) (fun j => ((relF t).idxOf (if j < k then j else j + 1) : Int)) hX (fun a ha b hb e => ?_) ?_ fun e he => ?_
  ·obtain ⟨x, hx, rfl⟩ := List.mem_map.1 ha
   obtain ⟨y, hy, rfl⟩ := List.mem_map.1 hb
   rw [hback x hx, hback y hy] at e
   have hxy := idx_inj (relF_mem.2 ⟨x, (hmem x hx).1, rfl⟩) (show (relF t).idxOf x.node = (relF t).idxOf y.node by omega)
   unfold decE
   rw [hxy]
   split <;> first | rfl | exact hxy
  ·rw [List.map_map]
   have : (t.es.filter (nB (isP p))).map (renE (relF t)) = (t.es.filter (nB (isP p))).map (mvE (fun j => ((relF t).idxOf (if j < k then j else j + 1) : Int)) ∘ decE k) := List.map_congr_left fun e he => by
    show renE (relF t) e = ⟨(decE k e).path, ((relF t).idxOf (if (decE k e).node < k then (decE k e).node else (decE k e).node + 1) : Int)⟩
    rw [hback e he, decE_path]
    rfl
   rw [this]
  ·obtain ⟨x, hx, rfl⟩ := List.mem_map.1 he
   have hxt := (hmem x hx).1
   rw [hback x hx, Int.toNat_natCast, nf_node hxt]
   have := idx_lt hxt
   rw [hdk] at hdr
   exact ⟨by omega, by dsimp only; omega, (erase_get hdr.1 (h.f.g.inr x hxt).1 (hno x hx)).symm⟩
 ·rw [if_neg h1] at hX ⊢
  refine nf_iso (t := t) (fun j => ((relF t).idxOf j : Int)) hX (fun a ha b hb e => ?_) ?_ fun e he => ?_
  ·exact idx_inj (relF_mem.2 ⟨a, (hmem a ha).1, rfl⟩) (by have e : ((relF t).idxOf a.node : Int) = (relF t).idxOf b.node := e; omega)
  ·exact List.Perm.refl _
  ·have hxt := (hmem e he).1
   have := idx_lt hxt
   exact ⟨by omega, by dsimp only; omega, by rw [Int.toNat_natCast]; exact nf_node hxt⟩
end
section
variable {D : Nat → Prop}
theorem rsC_nodes (m : FsM) (vf ve vn vn' : Value) : (rsC m vf ve vn).setIfInBounds 1 vn' = rsC m vf ve vn' := rfl
theorem nd_row {w : World} {v : Value} {l : List NdV} (h : Rw ndC w v l) : ∃ A c, v = .slice A l.length c ∧ Row w (.slice A l.length c) l.length (l.flatMap ndC) ∧ l.length ≤ maxLen := by
 have h0 := h
 obtain ⟨A, c, rfl, h1, h2, _⟩ := h0
 exact ⟨A, c, rfl, h, Nat.le_trans h1 h2⟩
theorem en_row {w : World} {v : Value} {l : List En} (h : Rw enC w v l) : ∃ A c, v = .slice A l.length c ∧ Row w (.slice A l.length c) l.length (l.flatMap enC) ∧ l.length ≤ maxLen := by
 have h0 := h
 obtain ⟨A, c, rfl, h1, h2, _⟩ := h0
 exact ⟨A, c, rfl, h, Nat.le_trans h1 h2⟩
theorem ts_set {t : Tre} (h : TsOK t) {k : Nat} {n : Nd} (hb : bytesP n.data ≤ 1000000) (ht : n.target.length ≤ 1000000) : TsOK ⟨t.es, t.ns.set k n⟩ :=
 ⟨fun x hx => (List.mem_or_eq_of_mem_set hx).elim (h.b x) fun e => by rw [e]; exact hb, fun x hx => (List.mem_or_eq_of_mem_set hx).elim (h.g x) fun e => by rw [e]; exact ht, h.p⟩
structure RsD (D : Nat → Prop) (w : World) (g : Nat) (m : FsM) (vf ve vn : Value) (nvs : List NdV) (t : Tre) : Prop extends RsI w g m vf ve vn nvs t where
 dg : D g
 dl : ∀ b, D b → b < w.heap.size
 df : ∀ b, RwK vf m.flts b → ¬ D b
 da : ∀ b, TrN ve vn nvs t b → ¬ D b
theorem RsD.ext {w w' : World} {g : Nat} {m : FsM} {vf ve vn : Value} {nvs : List NdV} {t : Tre} (h : RsD D w g m vf ve vn nvs t) (hE : Ext w w') : RsD D w' g m vf ve vn nvs t := ⟨h.toRsI.ext hE, h.dg, fun b hb => Nat.lt_of_lt_of_le (h.dl b hb) hE.size, h.df, h.da⟩
theorem RsD.put {w w' : World} {g : Nat} {m m' : FsM} {vf ve vn : Value} {nvs : List NdV} {t : Tre} (h : RsD D w g m vf ve vn nvs t) (hF : Fr (· = g) w w') (hk : Blk w' g 43 (rsC m' vf ve vn)) (hf : m'.flts = m.flts) : RsD D w' g m' vf ve vn nvs t :=
 ⟨h.toRsI.put hF hk hf, h.dg, fun b hb => Nat.lt_of_lt_of_le (h.dl b hb) hF.size, by rw [hf]; exact h.df, h.da⟩
theorem RsD.nd {w : World} {g : Nat} {m : FsM} {vf ve vn : Value} {nvs : List NdV} {t : Tre} (h : RsD D w g m vf ve vn nvs t) {x y : NdV} (hy : y ∈ nvs) (hx : ∀ b, NdN x b → NdN y b ∨ w.heap.size ≤ b) : ∀ b, NdN x b → ¬ D b := fun b hb hD => (hx b hb).elim (fun hb => h.da b (.inr (.inr ⟨y, hy, hb⟩)) hD) fun hb => absurd (h.dl b hD) (Nat.not_lt.2 hb)
def RsS (D : Nat → Prop) (w : World) (g : Nat) (vf : Value) (w' : World) (m : FsM) (t : Tre) : Prop := ∃ ve vn nvs, RsD D w' g m vf ve vn nvs t ∧ Fr (· = g) w w'
attribute [local irreducible] xs T
theorem rset_does (w : World) (g : Nat) (m : FsM) (vf ve vn : Value) (nvs : List NdV) (t : Tre) (k : Nat) (x : NdV) (h : RsD D w g m vf ve vn nvs t) (hk : k < t.ns.length) (hx : NdIn w x) (hxg : ∀ b, NdN x b → ¬ D b) (hby : bytesP x.n.data ≤ 1000000) (ht : x.n.target.length ≤ 1000000) :
  Does Tryz.prog 179 #[.pointer (some ⟨g, 0, none⟩), .int .i64 (k : Int), .agg (ndC x).toArray] w fun r w' => r = .tuple #[] ∧ RsS D w g vf w' m ⟨t.es, t.ns.set k x.n⟩ := by
 refine does3 Tryz.func179 rfl (by kernel_rfl) ?_
 have hlen := h.tr.len
 have hg := h.k.lt
 obtain ⟨A, c, rfl, hR, hm⟩ := nd_row h.tr.n
 have hln := h.ln
 refine goL ?_
 refine xbox rfl (fun w1 hB1 hE1 hs1 => ?_)
 have hB1' : Blk w1 w.heap.size 67 (ndC x).toArray := hB1
 have z1 := hE1.size
 refine goL ?_
 refine xbz0 sl_nds (fun w2 hO2 hE2 hs2 => ?_)
 have hE02 : Ext w w2 := hE1.t hE2
 have h2 := h.ext hE02
 have k1 : w2.cell? ⟨g, 1, none⟩ = some (.slice A nvs.length c) := h2.k.cell 1
 refine goL ?_
 refine xapz (B := w1.heap.size) (news := nvs.flatMap ndC) sl_nds rfl (by decide) rfl hO2 rfl (hR.ext hE02) (by rw [flat_len ndC_len]) (fun u hu => by
  obtain ⟨y, hy, hu⟩ := List.mem_flatMap.1 hu
  exact ndC_one (h.tr.i y hy) u hu) (by unfold maxLen; omega) (by omega) (by omega) (fun v3 w3 hO3 hF3 _ => ?_)
 have hO3' : Ow ndC 12 w3 w1.heap.size 67 v3 nvs := by
  have := hO3
  rw [Nat.zero_add, List.nil_append] at this
  exact this
 obtain ⟨gN, cN, rfl, hgN, hgN2, hcN, hcN2, _⟩ := OwnZ.go hO3' (by omega)
 have hE13 : Ext w1 w3 := hE2.trans hF3 fun j hj e => by have : w1.heap.size = j := Option.some.inj e; omega
 have hE03 : Ext w w3 := hE1.t hE13
 have h3 := h.ext hE03
 refine goL ?_
 refine xstb h3.k rfl rfl (by kernel_rfl) rfl rfl (fun w4 hB4 hF4 => ?_)
 rw [rsC_nodes] at hB4
 have hO4 : Ow ndC 12 w4 w1.heap.size 67 (.slice (some ⟨gN, 0, none⟩) nvs.length cN) nvs := hO3'.fr hF4 fun b hb e => by have := (hO3'.blk hb).1; have : b = g := e; omega
 have z34 := hF4.size
 have hd := Fr.drew noneB w4
 have hE4d : Ext w4 w4.drew := hd
 have hB4d := hB4.ext hE4d
 have hX4 : Blk w4.drew w.heap.size 67 (ndC x).toArray := ((hB1'.ext hE13).fr hF4 (show ¬ w.heap.size = g by omega)).ext hE4d
 have k1d : w4.drew.cell? ⟨g, 1, none⟩ = some (.slice (some ⟨gN, 0, none⟩) nvs.length cN) := hB4d.cell 1
 have hF04 : Fr (· = g) w w4.drew := (hE03.fr.t hF4).te hE4d
 refine goL ?_
 refine xlda (t := 67) hX4 rfl rfl ?_
 repeat' (first | refine xizq k (k * 12) rfl rfl rfl rfl (by omega) (by omega) ?_ | refine go1L ?_ | fail)
 refine xstow ndC_len k (hO4.ext hE4d) rfl rfl rfl (by kernel_rfl) (ndC_one hx) (by omega) (fun w5 hO5 hF5 => ?_)
 have hne : ¬ g = gN := by omega
 have hF05 : Fr (· = g) w w5 := hF04.trans hF5 fun j hj e => by have : j = gN := e; omega
 have hB5 := hB4d.fr hF5 hne
 have hNI : ∀ y, NdIn w y → (∀ b, NdN y b → b ≠ g) → NdIn w5 y := fun y hy hyg =>
  ⟨hy.a.frN hF05 fun b hb e => hyg b (.inl hb) e, hy.c.frN hF05 fun b hb e => hyg b (.inr (.inl hb)) e, hy.d.frN hF05 fun b hb e => hyg b (.inr (.inr hb)) e⟩
 have hT5 : TrV w5 ve (.slice (some ⟨gN, 0, none⟩) nvs.length cN) (nvs.set k x) ⟨t.es, t.ns.set k x.n⟩ :=
  ⟨h.tr.e.frN hF05 fun b hb e => h.a b (.inl hb) e, by have := hO5.rw; rwa [show nvs.length = (nvs.set k x).length from List.length_set.symm] at this ⊢, fun y hy => by
   rcases List.mem_or_eq_of_mem_set hy with hy | rfl
   ·exact hNI y (h.tr.i y hy) fun b hb => h.a b (.inr (.inr ⟨y, hy, hb⟩))
   ·exact hNI y hx fun b hb e => hxg b hb (e ▸ h.dg), by rw [List.map_set, h.tr.m]⟩
 have ha5 : ∀ b, TrN ve (.slice (some ⟨gN, 0, none⟩) nvs.length cN) (nvs.set k x) ⟨t.es, t.ns.set k x.n⟩ b → ¬ D b := fun b hb hD => by
  rcases hb with hb | hb | ⟨y, hy, hb⟩
  ·exact h.da b (.inl hb) hD
  ·have : gN = b := Option.some.inj hb.2
   have := h.dl b hD
   omega
  ·rcases List.mem_or_eq_of_mem_set hy with hy | rfl
   ·exact h.da b (.inr (.inr ⟨y, hy, hb⟩)) hD
   ·exact hxg _ hb hD
 have hI5 : RsD D w5 g m vf ve (.slice (some ⟨gN, 0, none⟩) nvs.length cN) (nvs.set k x) ⟨t.es, t.ns.set k x.n⟩ :=
  ⟨⟨hB5, h.f.frN hF05 fun b hb e => h.af b hb e, hT5, h.af, fun b hb e => ha5 b hb (e ▸ h.dg), fun e he => by dsimp only; rw [List.length_set]; exact h.r e he, ts_set h.s hby ht, h.le, by dsimp only; rw [List.length_set]; exact h.ln⟩, h.dg, fun b hb => Nat.lt_of_lt_of_le (h.dl b hb) hF05.size, h.df, ha5⟩
 refine goL ?_
 exact tend0 rfl ⟨rfl, _, _, _, hI5, hF05⟩
theorem rtouch_does (w : World) (g : Nat) (m : FsM) (vf ve vn : Value) (nvs : List NdV) (t : Tre) (p q : Str) (j : Int) (h : RsD D w g m vf ve vn nvs t) (hp : p.length ≤ 1000000) (hq : parP p = some q) (hj : findT t.es q = some j) :
  Does Tryz.prog 152 #[.pointer (some ⟨g, 0, none⟩), .string (su p)] w fun r w' => r = .tuple #[] ∧ RsS D w g vf w' m (stampT t p m.calls) := by
 refine does2 Tryz.func152 rfl (by kernel_rfl) ?_
 have hg := h.k.lt
 have hlen := h.tr.len
 obtain ⟨A, c, rfl, hc1, hc2, hA⟩ := h.tr.e.op enC_len
 obtain ⟨A', c', rfl, hc1', hc2', hA'⟩ := h.tr.n.op ndC_len
 refine goL ?_
 refine xcall rfl rfl (rparent_does w p hp) ?_
 rintro r w1 ⟨rfl, hE1⟩
 have hps : parS p = q := by unfold parS; rw [hq]; rfl
 rw [hps]
 have h1 := h.ext hE1
 refine goL ?_
 refine xldz (cs := [.slice A t.es.length c, .slice A' nvs.length c']) rfl (by kernel_rfl) (rs_tree h1.k) ?_
 refine goL ?_
 refine xcall rfl rfl (rfind_does w1 _ _ t.es q h1.tr.e) ?_
 rintro r w2 ⟨rfl, hE2⟩
 rw [hj]
 obtain ⟨e, he, _, hek⟩ := findT_mem hj
 have her := h.r e he
 rw [hek] at her
 obtain ⟨i, rfl⟩ := Int.eq_ofNat_of_zero_le her.1
 have hil : i < t.ns.length := by omega
 obtain ⟨b, o, y, rfl, hb, hy, _, hcell⟩ := hA'.at_ (i := i) (by omega)
 have hym := List.mem_of_getElem? hy
 have hyI := h.tr.i y hym
 have hE02 : Ext w w2 := hE1.t hE2
 have h2 := h.ext hE02
 have hst : stampT t p m.calls = ⟨t.es, t.ns.set i (timeN y.n m.calls)⟩ := by
  unfold stampT stampN
  rw [hq]
  dsimp only
  rw [hj]
  dsimp only
  rw [Int.toNat_natCast, h.tr.getD hy]
 rw [hst]
 simp only [Option.getD_some, Option.isSome_some]
 have k1 : w2.cell? ⟨g, 1, none⟩ = some (.slice (some ⟨b, o, none⟩) nvs.length c') := h2.k.cell 1
 refine gz5 ?_
 refine xldz (cs := ndC y) rfl (by kernel_rfl) (fun j u hu => hE02.cell (hcell j u hu)) ?_
 refine goL ?_
 refine xalloc (z := .agg nd0) (by kernel_rfl) (fun w3 hB3 hE3 hs3 => ?_)
 refine xsta hB3 rfl rfl (by kernel_rfl) rfl (one_cells (l := ndC y) (List.all_eq_true.2 (ndC_one hyI))) (fun w4 hB4 hF4 => ?_)
 have hE24 : Ext w2 w4 := hE3.trans hF4 fun j hj e => by have : j = w2.heap.size := e; omega
 have h4 := h2.ext hE24
 have k4 : w4.cell? ⟨g, 4, none⟩ = some (.int .i64 m.calls) := h4.k.cell 4
 refine goL ?_
 refine xstb hB4 rfl rfl (by kernel_rfl) rfl rfl (fun w5 hB5 hF5 => ?_)
 have hB5' : Blk w5 w2.heap.size 67 (ndC ⟨timeN y.n m.calls, y.va, y.vc, y.vd⟩).toArray := hB5
 have hE25 : Ext w2 w5 := hE24.trans hF5 fun j hj e => by have : j = w2.heap.size := e; omega
 have h5 := h2.ext hE25
 have hyI5 := (hyI.ext hE02).ext hE25
 have hyN : NdIn w5 ⟨timeN y.n m.calls, y.va, y.vc, y.vd⟩ := ⟨hyI5.a, hyI5.c, hyI5.d⟩
 have hym' : y.n ∈ t.ns := List.mem_of_getElem? (h.tr.get hy)
 refine goL ?_
 refine xlda (t := 67) hB5' rfl rfl ?_
 refine goL ?_
 refine xcall rfl rfl (rset_does w5 g m vf _ _ nvs t i ⟨timeN y.n m.calls, y.va, y.vc, y.vd⟩ h5 hil hyN (fun b hb => h.da b (.inr (.inr ⟨y, hym, hb⟩))) (h.s.b y.n hym') (h.s.g y.n hym')) ?_
 rintro r w6 ⟨rfl, ve6, vn6, nvs6, hI6, hF6⟩
 refine goL ?_
 exact tend0 rfl ⟨rfl, ve6, vn6, nvs6, hI6, (show Ext w w5 from hE02.t hE25).fr.t hF6⟩
theorem rplace_does (w : World) (g : Nat) (m : FsM) (vf ve vn : Value) (nvs : List NdV) (t : Tre) (p : Str) (h : RsD D w g m vf ve vn nvs t) (hp : p.length ≤ 1000000) : Does Tryz.prog 142 #[.pointer (some ⟨g, 0, none⟩), .string (su p)] w fun r w' => r = .int .i64 (if wrongM t p ≠ 0 then wrongM t p else roomM t p) ∧ Ext w w' := by
 refine does2 Tryz.func142 rfl (by kernel_rfl) ?_
 obtain ⟨A, c, rfl, hc1, hc2, hA⟩ := h.tr.e.op enC_len
 refine goL ?_
 refine xcall rfl rfl (rup_does w g m vf _ _ nvs t p h.toRsI hp) ?_
 rintro r w1 ⟨rfl, hE1⟩
 have h1 := h.ext hE1
 by_cases h0 : wrongM t p = 0
 ·rw [if_neg (fun h => h h0), h0]
  refine goL ?_
  refine xldz (cs := [.slice A t.es.length c, vn]) rfl (by kernel_rfl) (rs_tree h1.k) ?_
  refine goL ?_
  refine xcall rfl rfl (rfind_does w1 _ _ t.es p h1.tr.e) ?_
  rintro r w2 ⟨rfl, hE2⟩
  have k0 : w2.cell? ⟨g, 0, none⟩ = some (.slice A t.es.length c) := (h1.k.ext hE2).cell 0
  unfold roomM
  cases hf : findT t.es p with
  | some k =>
   simp only [Option.getD_some, Option.isSome_some]
   refine goL ?_
   exact tret1 rfl rfl ⟨rfl, hE1.t hE2⟩
  | none =>
   simp only [Option.getD_none, Option.isSome_none]
   by_cases hl : 100 ≤ t.es.length
   ·rw [if_neg (by decide), if_pos hl]
    refine goL ?_
    exact tret1 rfl rfl ⟨rfl, hE1.t hE2⟩
   ·rw [if_neg (by decide), if_neg hl]
    refine goL ?_
    exact tret1 rfl rfl ⟨rfl, hE1.t hE2⟩
 ·rw [if_pos h0]
  exact y44
end
section
variable {D : Nat → Prop}
structure EnK (t : Tre) (p : Str) (k : Nat) (vN : Value) (w0 : World) (y : Value × Nat) (w : World) : Prop where
 ext : Ext w0 w
 blk : Blk w y.2 29 #[y.1, vN]
 e : Ow enC 2 w w0.heap.size 54 y.1 (t.es ++ [⟨p, (k : Int)⟩])
 g : w0.heap.size ≤ y.2
theorem RsD.tree {w0 w w' : World} {g : Nat} {m : FsM} {vf ve vn ve' vn' : Value} {nvs nvs' : List NdV} {t X : Tre} (h : RsD D w0 g m vf ve vn nvs t) (hE : Ext w0 w) (hX : mayT X = true) (hT : TrV w ve' vn' nvs' X) (hoe : Ow enC 2 w w0.heap.size 54 ve' X.es) (hon : Ow ndC 12 w w0.heap.size 67 vn' nvs') (hs : ∀ y ∈ nvs', y ∈ nvs) (hB : Blk w' g 43 (rsC m vf ve' vn')) (hF : Fr (· = g) w w') : RsD D w' g m vf ve' vn' nvs' X := by
 have hg := h.k.lt
 have hI := h.ext hE
 have hda : ∀ b, TrN ve' vn' nvs' X b → ¬ D b := fun b hb hD => by
  have hlt := h.dl b hD
  rcases hb with hb | hb | ⟨x, hx, hb⟩
  ·have := (hoe.blk hb.2).1; omega
  ·have := (hon.blk hb.2).1; omega
  ·exact h.da b (.inr (.inr ⟨x, hs x hx, hb⟩)) hD
 have ha : ∀ b, TrN ve' vn' nvs' X b → b ≠ g := fun b hb e => hda b hb (e ▸ h.dg)
 have hl := (may_good hX).len
 have hn := may_ns hX
 exact ⟨⟨hB, hI.f.frN hF fun b hb e => h.af b hb e, hT.frN hF fun b hb e => ha b hb e, h.af, ha, (may_good hX).inr, (may_ok hX).2.2, by omega, by omega⟩, h.dg, fun b hb => Nat.lt_of_lt_of_le (hI.dl b hb) hF.size, h.df, hda⟩
theorem jcG {p q : Prop} (k : q) (h : Hid q → p := by intro hq; (repeat' (first | refine xldh rfl rfl (fun _ h => h.1) ?_ | refine xldh rfl rfl (fun _ h => h.2) ?_ | refine go1L ?_ | fail)); exact hq.out) : p := h ⟨k⟩
theorem jc0 {p q : Prop} (k : q) (h : Hid q → p := by intro hq; (refine xbz0 sl_ents (fun b hO hE hs => ?_) (fun w' he => hH0 w' (fa.t he))); (obtain ⟨v, hx⟩ : ∃ x, x = Value.slice (some ⟨a.heap.size, 0, none⟩) 0 0 := ⟨_, rfl⟩); (rw [← hx]); (have f := fa.t hE); (have e : Ow enC 2 b w.heap.size 54 v [] := by rw [hx]; exact OwnZ.mono hO fa.size); (first | have o : Blk b O 54 (enC ⟨p, (k : Int)⟩).toArray ∧ ∀ j, v.ownBlock = some j → j ≠ O := ⟨Blk.ext oa.1 hE, fun j hj => by rw [hx] at hj; have := oa.1.lt; have hz : a.heap.size = j := Option.some.inj hj; omega⟩ | have o : b = b := rfl); (first | have c : Blk b C 29 #[.slice none 0 0, .slice none 0 0] ∧ w.heap.size ≤ C := ⟨Blk.ext ba.1 hE, ba.2⟩ | have c : b = b := rfl); (clear hx hO hE hs); (refine jcG ?_); (revert c o e f); (revert b); (revert v); exact hq.out) : p := h ⟨k⟩
theorem jc6 {p q : Prop} (k : q) (h : Hid q → p := by intro hq; (refine xapz (B := w.heap.size) (news := t.es.flatMap enC) sl_ents rfl (by decide) rfl ea rfl (hR.ext fa) (flat_len enC_len _) (enC_one _) (by simp only [List.length_nil]; unfold maxLen; omega) (by simp only [List.length_nil]; omega) fa.size (fun v b hO hF hn => ?_) (fun w' hF => hH0 w' (fa.trans hF fun j hj h => by have := (ea.blk h).1; omega))); (have f : Ext w b := fa.trans hF fun j hj h => by have := (ea.blk h).1; omega); (have e : Ow enC 2 b w.heap.size 54 v t.es := by have h := Ow.ext1 (cf := enC) (l := []) (l' := t.es) hO; rwa [List.nil_append] at h); (first | have o : Blk b O 54 (enC ⟨p, (k : Int)⟩).toArray ∧ ∀ j, v.ownBlock = some j → j ≠ O := ⟨Blk.fr oa.1 hF (fun e => oa.2 _ e rfl), fun j hj => hn.elim (fun hn => oa.2 j (hn.symm.trans hj)) fun hn => by have := oa.1.lt; rw [hn] at hj; have hz := Option.some.inj hj; omega⟩ | have o : b = b := rfl); (first | have c : Blk b C 29 #[.slice none 0 0, .slice none 0 0] ∧ w.heap.size ≤ C := ⟨Blk.fr ba.1 hF (fun e => by obtain ⟨cs, hc⟩ := ea.typ e; exact hc.ne_ ba.1 (by decide) rfl), ba.2⟩ | have c : b = b := rfl); (clear hO hF hn); (refine jcG ?_); (revert c o e f); (revert b); (revert v); exact hq.out) : p := h ⟨k⟩
theorem jc10 {p q : Prop} (k : q) (h : Hid q → p := by intro hq; (refine xbz1 sl_ents rfl rfl (by decide) (by decide) (fun b hB hE hs => ?_) (fun w' he => hH0 w' (fa.t he))); (obtain ⟨x, hx⟩ : ∃ x, x = a.heap.size := ⟨_, rfl⟩); (rw [← hx]); (have f := fa.t hE); (first | have e := Ow.ext ea hE | have e : b = b ∧ ve.ownBlock = none := ⟨rfl, ea.2⟩); (have o : Blk b x 54 (enC ⟨p, (k : Int)⟩).toArray ∧ ∀ j, ve.ownBlock = some j → j ≠ x := ⟨by rw [hx]; exact hB, by first | exact fun j hj => by have := (Ow.blk ea hj).2; omega | exact fun j hj => by rw [ea.2] at hj; cases hj⟩); (first | have c : Blk b C 29 #[.slice none 0 0, .slice none 0 0] ∧ w.heap.size ≤ C := ⟨Blk.ext ba.1 hE, ba.2⟩ | have c : b = b := rfl); (clear hB hE hs); (clear hx); (refine jcG ?_); (revert c o e f); (revert b); (revert x); exact hq.out) : p := h ⟨k⟩
theorem jc11 {p q : Prop} (k : q) (h : Hid q → p := by intro hq; (refine xapz (B := w.heap.size) (news := enC ⟨p, (k : Int)⟩) sl_ents rfl (by decide) rfl ea rfl (blk_row oa.1 (by decide) rfl) rfl (fun u hu => enC_one [_] u (by simpa using hu)) (by unfold maxLen; omega) (by omega) fa.size (fun v b hO hF hn => ?_) (fun w' hF => hH0 w' (fa.trans hF fun j hj h => by have := (ea.blk h).1; omega))); (have f : Ext w b := fa.trans hF fun j hj h => by have := (ea.blk h).1; omega); (have e : Ow enC 2 b w.heap.size 54 v (t.es ++ [⟨p, (k : Int)⟩]) := Ow.ext1 (l' := [(⟨p, (k : Int)⟩ : En)]) (by simpa using hO)); (have o : b = b := rfl); (first | have c : Blk b C 29 #[.slice none 0 0, .slice none 0 0] ∧ w.heap.size ≤ C := ⟨Blk.fr ba.1 hF (fun e => by obtain ⟨cs, hc⟩ := ea.typ e; exact hc.ne_ ba.1 (by decide) rfl), ba.2⟩ | have c : b = b := rfl); (clear hO hF hn); (refine jcG ?_); (revert c o e f); (revert b); (revert v); exact hq.out) : p := h ⟨k⟩
theorem jc17 {p q : Prop} (k : q) (h : Hid q → p := by intro hq; (obtain ⟨AF, cF, hv, h1, h2⟩ := ea.form); (have e := ea); (rw [hv] at e ⊢); (clear h1 h2); (refine xbd (cells := #[.slice AF (t.es ++ [(⟨p, (k : Int)⟩ : En)]).length cF, .slice N nvs.length d]) rfl (by kernel_rfl) ?_); (refine jcG ?_); (clear hv); (revert e); (revert AF cF); exact hq.out) : p := h ⟨k⟩
theorem jc18 {p q : Prop} (k : q) (h : Hid q → p := by intro hq; (refine xalloc (z := .agg #[.slice none 0 0, .slice none 0 0]) (by kernel_rfl) (fun b hB hE hs => ?_) (fun w' he => hH0 w' (fa.t he))); (obtain ⟨x, hx⟩ : ∃ x, x = a.heap.size := ⟨_, rfl⟩); (rw [← hx]); (have f := fa.t hE); (first | have e := Ow.ext ea hE | have e : b = b ∧ ve.ownBlock = none := ⟨rfl, ea.2⟩); (first | have o : Blk b O 54 (enC ⟨p, (k : Int)⟩).toArray ∧ ∀ j, ve.ownBlock = some j → j ≠ O := ⟨Blk.ext oa.1 hE, oa.2⟩ | have o : b = b := rfl); (have c : Blk b x 29 #[.slice none 0 0, .slice none 0 0] ∧ w.heap.size ≤ x := ⟨by rw [hx]; exact hB, by rw [hx]; exact fa.size⟩); (clear hB hE hs); (clear hx); (refine jcG ?_); (revert c o e f); (revert b); (revert x); exact hq.out) : p := h ⟨k⟩
theorem jc19 {p : Prop} (h : p := by (refine xsta ba.1 rfl rfl (by kernel_rfl) rfl (one_cells (l := [.slice AF (t.es ++ [(⟨p, (k : Int)⟩ : En)]).length cF, .slice N nvs.length d]) rfl) (fun b hB hF => ?_) (fun w' hF => hH0 w' (hN fa hF ba.2))); (have hfin : EnK t p k (.slice N nvs.length d) w (.slice AF (t.es ++ [(⟨p, (k : Int)⟩ : En)]).length cF, C) b := ⟨hN fa hF ba.2, hB, ea.fr hF (fun j hj e => by obtain ⟨cs, hc⟩ := ea.typ hj; exact hc.ne_ ba.1 (by decide) e), ba.2⟩); (refine jcG ?_); (refine xg_end ?_); (exact tfin ⟨(.slice AF (t.es ++ [(⟨p, (k : Int)⟩ : En)]).length cF, C), sub ⟨rfl, rfl, rfl⟩, hfin⟩)) : p := h
attribute [local irreducible] xs T
theorem renter_does (w : World) (g : Nat) (m : FsM) (vf ve vn : Value) (nvs : List NdV) (t : Tre) (p : Str) (k : Nat) (X : Tre) (q : Str) (j : Int) (h : RsD D w g m vf ve vn nvs t) (hp : p.length ≤ 1000000) (hX : normT ⟨t.es ++ [⟨p, (k : Int)⟩], t.ns⟩ = some X) (hq : parP p = some q) (hj : findT X.es q = some j) (hl : t.es.length ≤ 900000) :
  Does Tryz.prog 143 #[.pointer (some ⟨g, 0, none⟩), .string (su p), .int .i64 (k : Int)] w fun r w' => r = .tuple #[] ∧ RsS D w g vf w' m (stampT X p m.calls) := by
 refine does3 Tryz.func143 rfl (by kernel_rfl) ?_
 have hN : ∀ {a b c : World} {g : Nat}, Ext a b → Fr (· = g) b c → a.heap.size ≤ g → Ext a c := fun h1 h2 hg => h1.trans h2 fun j hj e => absurd hj (by omega)
 have hg := h.k.lt
 obtain ⟨A, c, rfl, hR, hm⟩ := en_row h.tr.e
 obtain ⟨N, d, rfl, hRn, hmn⟩ := nd_row h.tr.n
 refine goL ?_
 refine tcut (α := Value × Nat) (fun y => [(0, .pointer (some ⟨g, 0, none⟩)), (1, .string (su p)), (6, .pointer (some ⟨y.2, 0, none⟩))]) (EnK t p k (.slice N nvs.length d) w) ?_ ?_
 ·have hH0 : ∀ w', Ext w w' → w'.cell? ⟨g, 0, none⟩ = some (.slice A t.es.length c) ∧ w'.cell? ⟨g, 1, none⟩ = some (.slice N nvs.length d) := fun w' hE => ⟨(h.k.ext hE).cell 0, (h.k.ext hE).cell 1⟩
  refine tdrawQ 20 [12, 23] (fun w' => w'.cell? ⟨g, 0, none⟩ = some (.slice A t.es.length c) ∧ w'.cell? ⟨g, 1, none⟩ = some (.slice N nvs.length d)) rfl (by kernel_rfl) (by decide +kernel) (hH0 _ (Fr.drew _ _)) (fun hR' => ?_)
  have hRR := hR'
  clear hR'
  obtain ⟨a, ha0⟩ : ∃ a, a = w.drew := ⟨_, rfl⟩
  have fa : Ext w a := by rw [ha0]; exact Fr.drew _ _
  rw [← ha0]
  clear ha0
  obtain ⟨ve, O, C, ea, oa, ba⟩ : ∃ (v : Value) (_ _ : Nat), (a = a ∧ v.ownBlock = none) ∧ a = a ∧ a = a := ⟨.nilFunc, 0, 0, ⟨rfl, rfl⟩, rfl, rfl⟩
  refine grun [1, 2, 3, 4, 5, 7, 8, 9, 12, 13, 14, 15, 16] [0, 6, 10, 11, 17, 18, 19] hRR (by decide +kernel) (by decide +kernel) rfl ?_
  refine jcG ?_
  refine xbd (cells := (enC ⟨p, (k : Int)⟩).toArray) rfl (by kernel_rfl) ?_
  refine jcG ?_
  refine gb3 0 10 18 [6, 10, 11, 17, 18, 19] [0, 6, 11, 17, 18, 19] [0, 6, 10, 11, 17, 19] hRR ?_ ?_ ?_
  ·skip
   refine jcG ?_
   refine jc0 ?_
   intro ve a fa ea oa ba
   refine gb3 6 10 18 [10, 11, 17, 18, 19] [6, 11, 17, 18, 19] [6, 10, 11, 17, 19] hRR ?_ ?_ ?_
   ·skip
    refine jcG ?_
    refine jc6 ?_
    intro ve a fa ea oa ba
    refine gb2 10 18 [11, 17, 18, 19] [10, 11, 17, 19] hRR ?_ ?_
    ·skip
     refine jcG ?_
     refine jc10 ?_
     intro O a fa ea oa ba
     refine gb2 11 18 [17, 18, 19] [11, 17, 19] hRR ?_ ?_
     ·exact y13
     ·exact y22
    ·skip
     refine jcG ?_
     refine jc18 ?_
     intro C a fa ea oa ba
     exact y34
   ·skip
    refine jcG ?_
    refine jc10 ?_
    intro O a fa ea oa ba
    refine gb2 6 18 [11, 17, 18, 19] [6, 11, 17, 19] hRR ?_ ?_
    ·skip
     refine jcG ?_
     refine jc6 ?_
     intro ve a fa ea oa ba
     refine gb2 11 18 [17, 18, 19] [11, 17, 19] hRR ?_ ?_
     ·exact y13
     ·exact y22
    ·skip
     refine jcG ?_
     refine jc18 ?_
     intro C a fa ea oa ba
     exact y21
   ·skip
    refine jcG ?_
    refine jc18 ?_
    intro C a fa ea oa ba
    refine gb2 6 10 [10, 11, 17, 19] [6, 11, 17, 19] hRR ?_ ?_
    ·skip
     refine jcG ?_
     refine jc6 ?_
     intro ve a fa ea oa ba
     exact y34
    ·skip
     refine jcG ?_
     refine jc10 ?_
     intro O a fa ea oa ba
     exact y21
  ·skip
   refine jcG ?_
   refine jc10 ?_
   intro O a fa ea oa ba
   refine gb2 0 18 [6, 11, 17, 18, 19] [0, 6, 11, 17, 19] hRR ?_ ?_
   ·skip
    refine jcG ?_
    refine jc0 ?_
    intro ve a fa ea oa ba
    refine gb2 6 18 [11, 17, 18, 19] [6, 11, 17, 19] hRR ?_ ?_
    ·skip
     refine jcG ?_
     refine jc6 ?_
     intro ve a fa ea oa ba
     refine gb2 11 18 [17, 18, 19] [11, 17, 19] hRR ?_ ?_
     ·exact y13
     ·exact y22
    ·skip
     refine jcG ?_
     refine jc18 ?_
     intro C a fa ea oa ba
     exact y21
   ·skip
    refine jcG ?_
    refine jc18 ?_
    intro C a fa ea oa ba
    exact y56
  ·skip
   refine jcG ?_
   refine jc18 ?_
   intro C a fa ea oa ba
   refine gb2 0 10 [6, 10, 11, 17, 19] [0, 6, 11, 17, 19] hRR ?_ ?_
   ·skip
    refine jcG ?_
    refine jc0 ?_
    intro ve a fa ea oa ba
    refine gb2 6 10 [10, 11, 17, 19] [6, 11, 17, 19] hRR ?_ ?_
    ·skip
     refine jcG ?_
     refine jc6 ?_
     intro ve a fa ea oa ba
     exact y34
    ·skip
     refine jcG ?_
     refine jc10 ?_
     intro O a fa ea oa ba
     exact y21
   ·skip
    refine jcG ?_
    refine jc10 ?_
    intro O a fa ea oa ba
    exact y56
 ·rintro ⟨v, C⟩ w4 ⟨hE4, hB4, hO4, hC⟩
  dsimp only at hB4 hO4 hC ⊢
  obtain ⟨A4, c4, rfl, _, _⟩ := hO4.form
  have hT4 : TrV w4 (.slice A4 (t.es ++ [(⟨p, (k : Int)⟩ : En)]).length c4) (.slice N nvs.length d) nvs ⟨t.es ++ [⟨p, (k : Int)⟩], t.ns⟩ := ⟨hO4.rw, h.tr.n.ext hE4, fun y hy => (h.tr.i y hy).ext hE4, h.tr.m⟩
  refine goL ?_
  refine xlda (t := 29) hB4 rfl rfl ?_
  refine goL ?_
  refine xcall rfl rfl (rnorm_doesO w4 _ _ nvs _ hT4 ⟨h.s.b, h.s.g, fun e he => (List.mem_append.1 he).elim (h.s.p e) fun he => by rw [List.mem_singleton.1 he]; exact hp⟩ (by dsimp only; rw [List.length_append]; simp only [List.length_cons, List.length_nil]; omega) h.ln) ?_
  rintro r w5 ⟨hE5, hr⟩
  rw [hX] at hr
  obtain ⟨ve5, vn5, nvs5, rfl, hT5, hoe, hon, hys⟩ := hr
  have hE05 : Ext w w5 := hE4.t hE5
  have z4 := hE4.size
  obtain ⟨A5, c5, rfl, _, _⟩ := hoe.form
  obtain ⟨A6, c6, rfl, _, _⟩ := hon.form
  refine goL ?_
  refine xstk (q := 0) (vs := [.slice A5 X.es.length c5, .slice A6 nvs5.length c6]) (nw := rsC m vf (.slice A5 X.es.length c5) (.slice A6 nvs5.length c6)) (h.k.ext hE05) rfl rfl (by kernel_rfl) (by show 2 ≤ 6; omega) (fun u hu => by
   simp only [List.mem_cons, List.not_mem_nil, or_false] at hu
   rcases hu with rfl | rfl <;> rfl) rfl (fun w6 hB6 hF6 => ?_)
  have hI6 := h.tree hE05 (norm_may hX) hT5 (hoe.mono z4) (hon.mono z4) hys hB6 hF6
  refine goL ?_
  refine xcall rfl rfl (rtouch_does w6 g m vf _ _ nvs5 X p q j hI6 hp hq hj) ?_
  rintro r w7 ⟨rfl, ve7, vn7, nvs7, hI7, hF7⟩
  refine goL ?_
  exact tend0 rfl ⟨rfl, ve7, vn7, nvs7, hI7, (hE05.fr.t hF6).t hF7⟩
end
section
variable {D : Nat → Prop}
theorem par_there {Y : Tre} (h : FsT Y) {p : Str} (hp : parP p = some (upP p)) {d : En} (hd : d ∈ Y.es) (hdp : d.path = upP p) : ∃ j, findT (nfT Y).es (upP p) = some j := by
 have _ := hp
 rw [nf_find, ← hdp, findT_nodup h.g.nd hd]
 exact ⟨_, rfl⟩
theorem room_root {t : Tre} (h : FsT t) {p : Str} (hr : roomM t p = 0) : p ≠ [] := fun hp => by
 obtain ⟨e, he, h1, _⟩ := h.g.root
 exact (room_ok hr).1 e he (h1.trans hp.symm)
theorem link_mid {m : FsM} {t : Tre} {p q : Str} (h : FsG t) (he : linkE m t p q = 0) : (begM m).2.1 = 0 ∧ (findM t q).2 = 0 ∧ (nodeAt t (findM t q).1).kind ≠ 1 ∧ wrongM t p = 0 ∧ roomM t p = 0 ∧ FsG ⟨insP t.es p (findM t q).1, t.ns⟩ ∧ parP p = some (upP p) ∧ ∃ j, findT (nfT ⟨insP t.es p (findM t q).1, t.ns⟩).es (upP p) = some j := by
 unfold linkE at he
 split at he
 ·rename_i h1; exact absurd he h1
 split at he
 ·rename_i h1; exact absurd he h1
 split at he
 ·cases he
 split at he
 ·rename_i h1; exact absurd he h1
 rename_i hb hf hk hw
 have hw0 : wrongM t p = 0 := by rw [Decidable.not_not] at hw; exact hw
 obtain ⟨hw1, hw2⟩ := wrong_ok hw0
 obtain ⟨hr1, hr2⟩ := room_ok he
 have hf0 : (findM t q).2 = 0 := by rw [Decidable.not_not] at hf; exact hf
 obtain ⟨_, hf2⟩ := find_ok hf0
 obtain ⟨d, hd, hdp, hdk⟩ := findT_mem hf2
 have hdr := h.f.g.inr d hd
 have hdn := h.f.g.node d hd
 rw [hdk] at hdr hdn
 have hp0 := room_root h.f he
 obtain ⟨hpar, u, hu, hup, _⟩ := hw2 hp0
 have hG : FsG ⟨insP t.es p (findM t q).1, t.ns⟩ := ⟨h.f.ins hr2 hw1 hr1 (fun h0 => (hw2 h0).2) hdr hdn (.inl hk), fun i hi => by
  obtain ⟨e, he, h1⟩ := h.u i hi
  exact ⟨e, (insP_perm _ _ _).mem_iff.2 (List.mem_cons_of_mem _ he), h1⟩⟩
 exact ⟨by rw [Decidable.not_not] at hb; exact hb, hf0, hk, hw0, he, hG, hpar, par_there hG.f hpar (d := u) ((insP_perm _ _ _).mem_iff.2 (List.mem_cons_of_mem _ hu)) hup⟩
theorem gone_mid {m : FsM} {t : Tre} {p : Str} (h : FsG t) (he : goneE m t p = 0) : FsG (offT t p (findM t p).1) ∧ parP p = some (upP p) ∧ ∃ j, findT (nfT (offT t p (findM t p).1)).es (upP p) = some j := by
 obtain ⟨_, h2, h3, h4⟩ := gone_ok he
 obtain ⟨hw, hf⟩ := find_ok h2
 have hG := off_fsg h hf h3 h4
 obtain ⟨hpar, u, hu, hup, _⟩ := (wrong_ok hw).2 h3
 have hps := off_paths t p (findM t p).1 0
 have hm : upP p ∈ (offT t p (findM t p).1).es.map (·.path) := by
  rw [show (offT t p (findM t p).1).es = (stampT (offT t p (findM t p).1) p 0).es from rfl, hps, List.mem_filter]
  refine ⟨by rw [← hup]; exact List.mem_map_of_mem hu, decide_eq_true fun e => ?_⟩
  have := parP_len hpar
  rw [e] at this
  omega
 obtain ⟨d, hd, hdp⟩ := List.mem_map.1 hm
 exact ⟨hG, hpar, par_there hG.f hpar hd hdp⟩
theorem kids_none {t : Tre} (h : FsT t) {p : Str} {k : Int} (hf : findT t.es p = some k) (hk : kindAt t.ns k ≠ 1) : kidsT t p = [] := by
 obtain ⟨d, hd, hdp, hdk⟩ := findT_mem hf
 cases hx : kidsT t p with
 | nil => rfl
 | cons x r =>
  have := kids_dir h hd (k := x) (by rw [hdp, hx]; exact List.mem_cons_self)
  rw [hdk] at this
  exact absurd this hk
theorem nf_ts {t : Tre} (h : FsT t) : mayT (nfT t) = true := norm_may (nf_norm h)
attribute [local irreducible] xs T
theorem rlink_does (w : World) (g : Nat) (m : FsM) (vf ve vn : Value) (nvs : List NdV) (t : Tre) (p q : Str) (h : RsD D w g m vf ve vn nvs (nfT t)) (hG : FsG t) (hp : p.length ≤ 1000000) (hq : q.length ≤ 1000000) (hc : 0 ≤ m.calls ∧ m.calls ≤ 4000000000000000000) :
  Does Tryz.prog 91 #[.pointer (some ⟨g, 0, none⟩), .string (su p), .string (su q)] w fun r w' => r = .int .i64 (linkE m t p q) ∧ RsS D w g vf w' (begM m).2.2 (nfT (linkT m t p q)) := by
 refine does3 Tryz.func91 rfl (by kernel_rfl) ?_
 have hg := h.k.lt
 have hlen := h.tr.len
 have hl100 := hG.f.g.len
 have hnl := nf_len t
 refine goL ?_
 refine xcall rfl rfl (rfault_does w g m vf ve vn h.k h.f hc) ?_
 rintro r w1 ⟨rfl, hB1, hF1⟩
 have h1 := h.put hF1 hB1 (begM_flts m)
 by_cases e : (begM m).2.1 = 0
 ·rw [e]
  refine goL ?_
  refine xcall rfl rfl (rsfind_does w1 g _ vf ve vn nvs (nfT t) q h1.toRsI hq) ?_
  rintro r w2 ⟨rfl, hE2⟩
  have h2 := h1.ext hE2
  obtain ⟨f1, f2⟩ := nf_findM t q
  rw [f1]
  by_cases e1 : (findM t q).2 = 0
  ·obtain ⟨f3, f4⟩ := f2 e1
   obtain ⟨i, hi, hil⟩ := find_range h.r (by rw [f1]; exact e1)
   rw [hi] at f3 f4 ⊢
   rw [e1]
   obtain ⟨A', c', rfl, hc1', hc2', hA'⟩ := h.tr.n.op ndC_len
   obtain ⟨b, o, y, rfl, hb, hy, _, hcell⟩ := hA'.at_ (i := i) (by omega)
   have hyn : nodeAt (nfT t) (i : Int) = y.n := by unfold nodeAt; rw [Int.toNat_natCast]; exact h.tr.getD hy
   have hbg : b ≠ g := h.a b (.inr (.inl ⟨by omega, rfl⟩))
   have hF02 : Fr (· = g) w w2 := hF1.te hE2
   have k0 : w2.cell? ⟨b, o + i * 12 + 0, none⟩ = some (.int .i64 y.n.kind) := hF02.cell (hcell 0 _ rfl) hbg
   have k1 : w2.cell? ⟨g, 1, none⟩ = some (.slice (some ⟨b, o, none⟩) nvs.length c') := h2.k.cell 1
   have hkind : (nodeAt t (findM t q).1).kind = y.n.kind := by rw [← f4, hyn]
   by_cases hk : y.n.kind = 1
   ·have hle : linkE m t p q = 8 := by unfold linkE; rw [if_neg (fun h => h e), if_neg (fun h => h e1), if_pos (hkind.trans hk)]
    rw [hle, show linkT m t p q = t by unfold linkT; rw [hle, if_neg (by decide)]]
    refine gz5 ?_
    exact tret1 rfl rfl ⟨rfl, _, _, _, h2, hF02⟩
   ·refine gz5 ?_
    refine xcall rfl rfl (rplace_does w2 g _ vf ve _ nvs (nfT t) p h2 hp) ?_
    rintro r w3 ⟨rfl, hE3⟩
    have h3 := h2.ext hE3
    rw [nf_wrong, nf_room]
    have hk' : ¬ (nodeAt t (findM t q).1).kind = 1 := by rw [hkind]; exact hk
    have hle : linkE m t p q = if wrongM t p ≠ 0 then wrongM t p else roomM t p := by unfold linkE; rw [if_neg (fun h => h e), if_neg (fun h => h e1), if_neg hk']
    rw [← hle]
    by_cases e3 : linkE m t p q = 0
    ·obtain ⟨_, _, _, _, _, hGX, hpar, j, hj⟩ := link_mid hG e3
     have hX := nf_link (t := t) (p := p) (k := (findM t q).1) hGX.f (by
      obtain ⟨d, hd, _, hdk⟩ := findT_mem (find_ok e1).2
      exact ⟨d, hd, hdk⟩)
     rw [← f3] at hX
     have hfin : nfT (linkT m t p q) = stampT (nfT ⟨insP t.es p (findM t q).1, t.ns⟩) p (begM m).2.2.calls := by
      unfold linkT enterT
      rw [if_pos e3]
      exact nf_stamp hGX.f p _
     rw [e3, hfin]
     refine goL ?_
     refine xcall rfl rfl (renter_does w3 g _ vf ve _ nvs (nfT t) p i _ _ j h3 hp hX hpar hj (by omega)) ?_
     rintro r w4 ⟨rfl, ve4, vn4, nvs4, hI4, hF4⟩
     refine goL ?_
     exact tret1 rfl rfl ⟨rfl, ve4, vn4, nvs4, hI4, (hF02.te hE3).t hF4⟩
    ·rw [show linkT m t p q = t by unfold linkT; rw [if_neg e3]]
     refine goL ?_
     exact tret1 rfl rfl ⟨rfl, _, _, _, h3, hF02.te hE3⟩
  ·have hle : linkE m t p q = (findM t q).2 := by unfold linkE; rw [if_neg (fun h => h e), if_pos e1]
   rw [hle, show linkT m t p q = t by unfold linkT; rw [hle, if_neg e1]]
   refine goL ?_
   exact tret1 rfl rfl ⟨rfl, _, _, _, h2, hF1.te hE2⟩
 ·have hle : linkE m t p q = (begM m).2.1 := by unfold linkE; rw [if_pos e]
  rw [hle, show linkT m t p q = t by unfold linkT; rw [hle, if_neg e]]
  exact y20
structure GkI (t : Tre) (p : Str) (w0 : World) (x : Nat × Value) (w : World) : Prop where
 il : x.1 ≤ t.es.length
 ol : Ow enC 2 w w0.heap.size 54 x.2 ((t.es.take x.1).filter fun e => decide (e.path ≠ p))
 fl : Ext w0 w
theorem rgone_does (w : World) (g : Nat) (m : FsM) (vf ve vn : Value) (nvs : List NdV) (t : Tre) (p : Str) (h : RsD D w g m vf ve vn nvs (nfT t)) (hG : FsG t) (hp : p.length ≤ 1000000) (hc : 0 ≤ m.calls ∧ m.calls ≤ 4000000000000000000) :
  Does Tryz.prog 101 #[.pointer (some ⟨g, 0, none⟩), .string (su p)] w fun r w' => r = .int .i64 (goneE m t p) ∧ RsS D w g vf w' (begM m).2.2 (nfT (goneT m t p)) := by
 refine does2 Tryz.func101 rfl (by kernel_rfl) ?_
 have hg := h.k.lt
 have hlen := h.tr.len
 have hl100 := hG.f.g.len
 have hnl := nf_len t
 refine goL ?_
 refine xcall rfl rfl (rfault_does w g m vf ve vn h.k h.f hc) ?_
 rintro r w1 ⟨rfl, hB1, hF1⟩
 have h1 := h.put hF1 hB1 (begM_flts m)
 by_cases e : (begM m).2.1 = 0
 ·rw [e]
  refine goL ?_
  refine xcall rfl rfl (rsfind_does w1 g _ vf ve vn nvs (nfT t) p h1.toRsI hp) ?_
  rintro r w2 ⟨rfl, hE2⟩
  have h2 := h1.ext hE2
  obtain ⟨f1, f2⟩ := nf_findM t p
  rw [f1]
  have hF02 : Fr (· = g) w w2 := hF1.te hE2
  by_cases e1 : (findM t p).2 = 0
  ·obtain ⟨f3, f4⟩ := f2 e1
   obtain ⟨i, hi, hil⟩ := find_range h.r (by rw [f1]; exact e1)
   rw [hi] at f3 f4 ⊢
   rw [e1]
   obtain ⟨A', c', rfl, hc1', hc2', hA'⟩ := h.tr.n.op ndC_len
   obtain ⟨A, c, rfl, hc1, hc2, hA⟩ := h.tr.e.op enC_len
   refine gz0 ?_
   refine tcut (α := Unit) (fun _ => [(0, .pointer (some ⟨g, 0, none⟩)), (1, .string (su p))]) (fun _ w' => Ext w2 w' ∧ goneE m t p = 0) ?_ ?_
   ·by_cases hp0 : p = []
    ·have hge : goneE m t p = 1 := by unfold goneE; rw [if_neg (fun h => h e), if_neg (fun h => h e1), if_pos hp0]
     rw [hge, gone_same (by rw [hge]; decide)]
     repeat' (first | refine xucmp (op := .eql) (b := []) (r := true) rfl rfl (by simp [cmpU, hp0]) ?_ | refine go1L ?_ | fail)
     exact tret1 rfl rfl ⟨rfl, _, _, _, h2, hF02⟩
    obtain ⟨b, o, y, rfl, hb, hy, _, hcell⟩ := hA'.at_ (i := i) (by omega)
    have hyn : nodeAt (nfT t) (i : Int) = y.n := by unfold nodeAt; rw [Int.toNat_natCast]; exact h.tr.getD hy
    have hbg : b ≠ g := h.a b (.inr (.inl ⟨by omega, rfl⟩))
    have k0 : w2.cell? ⟨b, o + i * 12 + 0, none⟩ = some (.int .i64 y.n.kind) := hF02.cell (hcell 0 _ rfl) hbg
    have k1 : w2.cell? ⟨g, 1, none⟩ = some (.slice (some ⟨b, o, none⟩) nvs.length c') := h2.k.cell 1
    have hkind : kindAt t.ns (findM t p).1 = y.n.kind := by rw [← hyn, f4]; rfl
    have hge : goneE m t p = if 0 < (kidsT t p).length then 10 else 0 := by unfold goneE; rw [if_neg (fun h => h e), if_neg (fun h => h e1), if_neg hp0]
    by_cases hk : y.n.kind = 1
    ·refine gz29 ?_
     refine xldz (cs := [.slice A (nfT t).es.length c, .slice (some ⟨b, o, none⟩) nvs.length c']) rfl (by kernel_rfl) (rs_tree h2.k) ?_
     refine goL ?_
     refine xcall rfl rfl (rkids_does w2 _ _ (nfT t) p h2.tr.e h.le h.s.p) ?_
     rintro r w3 ⟨hO3, hE3⟩
     obtain ⟨A3, c3, rfl, _, _⟩ := hO3.form
     rw [nf_kids]
     by_cases hkk : 0 < (kidsT t p).length
     ·rw [if_pos hkk] at hge
      rw [hge, gone_same (by rw [hge]; decide)]
      refine goL ?_
      exact tret1 rfl rfl ⟨rfl, _, _, _, h2.ext hE3, hF02.te hE3⟩
     ·rw [if_neg hkk] at hge
      refine goL ?_
      exact tfin ⟨(), sub ⟨rfl, rfl⟩, hE3, hge⟩
    ·rw [kids_none hG.f (find_ok e1).2 (by rw [hkind]; exact hk)] at hge
     refine gz29 ?_
     exact tfin ⟨(), sub ⟨rfl, rfl⟩, (show Ext w2 w2 from Fr.refl _ _), hge⟩
   rintro _ w3 ⟨hE3, he0⟩
   obtain ⟨hGX, hpar, j, hj⟩ := gone_mid hG he0
   obtain ⟨_, _, hp0, hk0⟩ := gone_ok he0
   have hX := nf_off hG (find_ok e1).2 hp0 hk0
   have hfin : nfT (goneT m t p) = stampT (nfT (offT t p (findM t p).1)) p (begM m).2.2.calls := by
    unfold goneT
    rw [if_pos he0]
    exact nf_stamp hGX.f p _
   rw [he0, hfin]
   have h3 := h2.ext hE3
   have hF03 : Fr (· = g) w w3 := hF02.te hE3
   have hg3 := h3.k.lt
   refine goL ?_
   refine tloop (α := Nat × Value) (fun x => [(0, .pointer (some ⟨g, 0, none⟩)), (1, .string (su p)), (8, x.2), (9, .int .i64 (x.1 : Int))]) (GkI (nfT t) p w3) (fun x => (nfT t).es.length - x.1) (0, .slice none 0 0) (sub ⟨rfl, rfl, rfl, rfl⟩) ⟨Nat.zero_le _, Ow.nil _ _ _, Fr.refl _ _⟩ ?_
   rintro ⟨n, v⟩ w4 ⟨hn, hO, hE4⟩
   dsimp only at hn hO hE4 ⊢
   have h4 := h3.ext hE4
   have hF04 : Fr (· = g) w w4 := hF03.te hE4
   have k0 : w4.cell? ⟨g, 0, none⟩ = some (.slice A (nfT t).es.length c) := h4.k.cell 0
   have k1 : w4.cell? ⟨g, 1, none⟩ = some (.slice A' nvs.length c') := h4.k.cell 1
   obtain ⟨Av, cv, rfl, _, _⟩ := hO.form
   by_cases hlt : n < (nfT t).es.length
   ·obtain ⟨b, o, x, rfl, hb, hx, _, hcell⟩ := hA.at_ hlt
    have hbg : b ≠ g := h.a b (.inl ⟨by omega, rfl⟩)
    have q0 : w4.cell? ⟨b, o + n * 2 + 0, none⟩ = some (.string (su x.path)) := hF04.cell (hcell 0 _ rfl) hbg
    have hft : ((nfT t).es.take (n + 1)).filter (fun e => decide (e.path ≠ p)) = ((nfT t).es.take n).filter (fun e => decide (e.path ≠ p)) ++ if x.path ≠ p then [x] else [] := by
     rw [List.take_add_one, hx, List.filter_append]
     congr 1
     by_cases hxp : x.path = p
     ·simp [hxp]
     ·simp [hxp]
    have hfl : (((nfT t).es.take n).filter (fun e => decide (e.path ≠ p))).length ≤ n := by
     have := List.length_filter_le (fun e : En => decide (e.path ≠ p)) ((nfT t).es.take n)
     rw [List.length_take] at this
     omega
    by_cases hxp : x.path = p
    ·rw [if_neg (fun h => h hxp), List.append_nil] at hft
     repeat' (first | refine xizq n (o + n * 2) rfl rfl rfl rfl rfl hlt ?_ | refine xucmp (op := .neq) (r := false) rfl rfl (by simp [cmpU, hxp]) ?_ | refine go1L ?_ | fail)
     exact tfin ⟨(n + 1, _), sub ⟨rfl, rfl, rfl, rfl⟩, ⟨hlt, by dsimp only; rw [hft]; exact hO, hE4⟩, by show (nfT t).es.length - (n + 1) < (nfT t).es.length - n; omega⟩
    ·rw [if_pos hxp] at hft
     repeat' (first | refine xizq n (o + n * 2) rfl rfl rfl rfl rfl hlt ?_ | refine xucmp (op := .neq) (r := true) rfl rfl (by simp [cmpU, hxp]) ?_ | refine go1L ?_ | fail)
     refine xldz (cs := enC x) rfl (by kernel_rfl) (fun j u hu => hF04.cell (hcell j u hu) hbg) ?_
     refine goL ?_
     refine xbz1 sl_ents rfl rfl (by decide) (by decide) (fun w5 hB5 hE5 hs5 => ?_)
     refine goL ?_
     refine xapz (B := w3.heap.size) (news := enC x) sl_ents rfl (by decide) rfl (hO.ext hE5) rfl (blk_row hB5 (by decide) rfl) rfl (fun u hu => enC_one [_] u (by simpa using hu)) (by unfold maxLen; omega) (by omega) (by have := hE4.size; have := hE5.size; omega) (fun v6 w6 hO6 hF6 _ => ?_)
     have hO6' : Ow enC 2 w6 w3.heap.size 54 v6 (((nfT t).es.take (n + 1)).filter fun e => decide (e.path ≠ p)) := by rw [hft]; exact Ow.ext1 (l' := [x]) (by simpa using hO6)
     have hE36 : Ext w3 w6 := (hE4.t hE5).trans hF6 fun j hj h => by have := ((hO.ext hE5).blk h).1; omega
     refine goL ?_
     exact tfin ⟨(n + 1, v6), sub ⟨rfl, rfl, rfl, rfl⟩, ⟨hlt, hO6', hE36⟩, by show (nfT t).es.length - (n + 1) < (nfT t).es.length - n; omega⟩
   obtain rfl : n = (nfT t).es.length := by omega
   rw [List.take_length] at hO
   have hT4 : TrV w4 (.slice Av ((nfT t).es.filter fun e => decide (e.path ≠ p)).length cv) (.slice A' nvs.length c') nvs ⟨(nfT t).es.filter (fun e => decide (e.path ≠ p)), (nfT t).ns⟩ := ⟨hO.rw, h4.tr.n, h4.tr.i, h.tr.m⟩
   have hfl : ((nfT t).es.filter fun e => decide (e.path ≠ p)).length ≤ (nfT t).es.length := List.length_filter_le _ _
   have hll := h.le
   rw [List.take_length]
   refine goL ?_
   refine xbd (cells := #[.slice Av ((nfT t).es.filter fun e => decide (e.path ≠ p)).length cv, .slice A' nvs.length c']) rfl (by kernel_rfl) ?_
   refine goL ?_
   refine xcall rfl rfl (rnorm_doesO w4 _ _ nvs _ hT4 ⟨h.s.b, h.s.g, fun e he => h.s.p e (List.mem_filter.1 he).1⟩ (by dsimp only; omega) h.ln) ?_
   rintro r w5 ⟨hE5, hr⟩
   rw [hX] at hr
   obtain ⟨ve5, vn5, nvs5, rfl, hT5, hoe, hon, hys⟩ := hr
   have hE35 : Ext w3 w5 := hE4.t hE5
   have z4 := hE4.size
   obtain ⟨A5, c5, rfl, _, _⟩ := hoe.form
   obtain ⟨A6, c6, rfl, _, _⟩ := hon.form
   refine goL ?_
   refine xstk (q := 0) (vs := [.slice A5 (nfT (offT t p (findM t p).1)).es.length c5, .slice A6 nvs5.length c6]) (nw := rsC (begM m).2.2 vf (.slice A5 (nfT (offT t p (findM t p).1)).es.length c5) (.slice A6 nvs5.length c6)) (h3.ext hE35).k rfl rfl (by kernel_rfl) (by show 2 ≤ 6; omega) (fun u hu => by
    simp only [List.mem_cons, List.not_mem_nil, or_false] at hu
    rcases hu with rfl | rfl <;> rfl) rfl (fun w6 hB6 hF6 => ?_)
   have hI6 := h3.tree hE35 (nf_ts hGX.f) hT5 (hoe.mono z4) (hon.mono z4) hys hB6 hF6
   refine goL ?_
   refine xcall rfl rfl (rtouch_does w6 g _ vf _ _ nvs5 _ p _ j hI6 hp hpar hj) ?_
   rintro r w7 ⟨rfl, ve7, vn7, nvs7, hI7, hF7⟩
   refine goL ?_
   exact tret1 rfl rfl ⟨rfl, ve7, vn7, nvs7, hI7, ((hF03.te hE35).t hF6).t hF7⟩
  ·have hge : goneE m t p = (findM t p).2 := by unfold goneE; rw [if_neg (fun h => h e), if_pos e1]
   rw [hge, gone_same (by rw [hge]; exact e1)]
   refine goL ?_
   exact tret1 rfl rfl ⟨rfl, _, _, _, h2, hF02⟩
 ·have hge : goneE m t p = (begM m).2.1 := by unfold goneE; rw [if_pos e]
  rw [hge, gone_same (by rw [hge]; exact e)]
  exact y20
end
section
variable {D : Nat → Prop}
structure MkK (g : Nat) (m : FsM) (vf ve : Value) (nvs : List NdV) (mv : NdV) (w0 : World) (y : Value) (w : World) : Prop where
 f : Fr (· = g) w0 w
 b : Blk w g 43 (rsC m vf ve y)
 o : Ow ndC 12 w w0.heap.size 67 y (nvs ++ [mv])
theorem nd_ones {w : World} {ve vn : Value} {l : List NdV} {t : Tre} (h : TrV w ve vn l t) : ∀ u ∈ l.flatMap ndC, u.oneCell' = true := fun u hu => by
 obtain ⟨x, hx, hu⟩ := List.mem_flatMap.1 hu
 exact ndC_one (h.i x hx) u hu
theorem make_mid {m : FsM} {t : Tre} {p : Str} {n : Nd} (h : FsG t) (hc : 0 ≤ (begM m).2.2.calls) (he : makeE m t p n = 0) : (begM m).2.1 = 0 ∧ wrongM t p = 0 ∧ nodeOK n = true ∧ roomM t p = 0 ∧ FsG ⟨insP t.es p t.ns.length, t.ns ++ [madeN n (begM m).2.2.calls]⟩ ∧ parP p = some (upP p) ∧ ∃ j, findT (nfT ⟨insP t.es p t.ns.length, t.ns ++ [madeN n (begM m).2.2.calls]⟩).es (upP p) = some j := by
 unfold makeE at he
 split at he
 ·rename_i h1; exact absurd he h1
 split at he
 ·rename_i h1; exact absurd he h1
 split at he
 ·cases he
 rename_i hb hw hn
 have hw0 : wrongM t p = 0 := by rw [Decidable.not_not] at hw; exact hw
 obtain ⟨hw1, hw2⟩ := wrong_ok hw0
 obtain ⟨hr1, hr2⟩ := room_ok he
 have hnk : nodeOK n = true := by simpa using hn
 have hp0 := room_root h.f he
 obtain ⟨hpar, u, hu, hup, _⟩ := hw2 hp0
 have hfa := h.f.app (madeN n (begM m).2.2.calls)
 have hka : ∀ e ∈ t.es, kindAt (t.ns ++ [madeN n (begM m).2.2.calls]) e.node = kindAt t.ns e.node := fun e he => by
  have := h.f.g.inr e he
  unfold kindAt
  rw [List.getD_eq_getElem?_getD, List.getElem?_append_left (by omega), List.getD_eq_getElem?_getD]
 have hG : FsG ⟨insP t.es p t.ns.length, t.ns ++ [madeN n (begM m).2.2.calls]⟩ := by
  refine ⟨hfa.ins (k := (t.ns.length : Int)) hr2 hw1 hr1 (fun h0 => ?_) ?_ ?_ (.inr fun e he => ?_), fun i hi => ?_⟩
  ·obtain ⟨d, hd, h1, h2⟩ := (hw2 h0).2
   exact ⟨d, hd, h1, (hka d hd).trans h2⟩
  ·dsimp only; rw [List.length_append]; simp only [List.length_cons, List.length_nil]; omega
  ·exact y87
  ·have := h.f.g.inr e he
   omega
  ·dsimp only at hi ⊢
   rw [List.length_append] at hi
   simp only [List.length_cons, List.length_nil] at hi
   by_cases hlt : i < t.ns.length
   ·obtain ⟨e, he, h1⟩ := h.u i hlt
    exact y95
   ·exact ⟨⟨p, t.ns.length⟩, (insP_perm _ _ _).mem_iff.2 List.mem_cons_self, by dsimp only; omega⟩
 exact ⟨by rw [Decidable.not_not] at hb; exact hb, hw0, hnk, he, hG, hpar, par_there hG.f hpar (d := u) ((insP_perm _ _ _).mem_iff.2 (List.mem_cons_of_mem _ hu)) hup⟩
theorem jeG {p q : Prop} (k : q) (h : Hid q → p := by intro hq; (repeat' (first | refine xldzh (cs := ndC mv) rfl (by kernel_rfl) (fun w' (h : Blk w' _ _ _) j u hu => by rw [Nat.zero_add, h.cell, List.getElem?_toArray]; exact hu) ?_ | refine go1L ?_ | fail)); exact hq.out) : p := h ⟨k⟩
theorem je1 {p q : Prop} (k : q) (h : Hid q → p := by intro hq; (refine xbz0 sl_nds (fun b hO hE hs => ?_) (fun w' he => hH0 w' (fa.t he))); (obtain ⟨v, hx⟩ : ∃ x, x = Value.slice (some ⟨a.heap.size, 0, none⟩) 0 0 := ⟨_, rfl⟩); (rw [← hx]); (have f := fa.t hE); (have e : Ow ndC 12 b wb.heap.size 67 v [] := by rw [hx]; exact OwnZ.mono hO fa.size); (first | have o : Blk b O 67 (ndC mv).toArray ∧ ∀ j, v.ownBlock = some j → j ≠ O := ⟨Blk.ext oa.1 hE, fun j hj => by rw [hx] at hj; have := oa.1.lt; have hz : a.heap.size = j := Option.some.inj hj; omega⟩ | have o : b = b := rfl); (clear hx hO hE hs); (refine jeG ?_); (revert o e f); (revert b); (revert v); exact hq.out) : p := h ⟨k⟩
theorem je7 {p q : Prop} (k : q) (h : Hid q → p := by intro hq; (refine xapz (B := wb.heap.size) (news := nvs.flatMap ndC) sl_nds rfl (by decide) rfl ea rfl (hRn.ext fa) (flat_len ndC_len _) hone (by simp only [List.length_nil]; unfold maxLen; omega) (by simp only [List.length_nil]; omega) fa.size (fun v b hO hF hn => ?_) (fun w' hF => hH0 w' (fa.trans hF fun j hj h => by have := (ea.blk h).1; omega))); (have f : Ext wb b := fa.trans hF fun j hj h => by have := (ea.blk h).1; omega); (have e : Ow ndC 12 b wb.heap.size 67 v nvs := by have h := Ow.ext1 (cf := ndC) (l := []) (l' := nvs) hO; rwa [List.nil_append] at h); (first | have o : Blk b O 67 (ndC mv).toArray ∧ ∀ j, v.ownBlock = some j → j ≠ O := ⟨Blk.fr oa.1 hF (fun e => oa.2 _ e rfl), fun j hj => hn.elim (fun hn => oa.2 j (hn.symm.trans hj)) fun hn => by have := oa.1.lt; rw [hn] at hj; have hz := Option.some.inj hj; omega⟩ | have o : b = b := rfl); (clear hO hF hn); (refine jeG ?_); (revert o e f); (revert b); (revert v); exact hq.out) : p := h ⟨k⟩
theorem je9 {p q : Prop} (k : q) (h : Hid q → p := by intro hq; (refine xbz1 sl_nds rfl rfl (by decide) (by decide) (fun b hB hE hs => ?_) (fun w' he => hH0 w' (fa.t he))); (obtain ⟨x, hx⟩ : ∃ x, x = a.heap.size := ⟨_, rfl⟩); (rw [← hx]); (have f := fa.t hE); (first | have e := Ow.ext ea hE | have e : b = b ∧ vw.ownBlock = none := ⟨rfl, ea.2⟩); (have o : Blk b x 67 (ndC mv).toArray ∧ ∀ j, vw.ownBlock = some j → j ≠ x := ⟨by rw [hx]; exact hB, by first | exact fun j hj => by have := (Ow.blk ea hj).2; omega | exact fun j hj => by rw [ea.2] at hj; cases hj⟩); (clear hB hE hs); (clear hx); (refine jeG ?_); (revert o e f); (revert b); (revert x); exact hq.out) : p := h ⟨k⟩
theorem je10 {p q : Prop} (k : q) (h : Hid q → p := by intro hq; (refine xapz (B := wb.heap.size) (news := ndC mv) sl_nds rfl (by decide) rfl ea rfl (blk_row oa.1 (by decide) rfl) rfl hone1 (by unfold maxLen; omega) (by omega) fa.size (fun v b hO hF hn => ?_) (fun w' hF => hH0 w' (fa.trans hF fun j hj h => by have := (ea.blk h).1; omega))); (have f : Ext wb b := fa.trans hF fun j hj h => by have := (ea.blk h).1; omega); (have e : Ow ndC 12 b wb.heap.size 67 v (nvs ++ [mv]) := Ow.ext1 (l' := [mv]) (by simpa using hO)); (have o : b = b := rfl); (clear hO hF hn); (obtain ⟨AF, cF, hv, h1, h2⟩ := e.form); (subst hv); (clear h1 h2); (refine jeG ?_); (revert o e f); (revert b); (revert AF cF); exact hq.out) : p := h ⟨k⟩
theorem je14 {p : Prop} (h : p := by (refine xstb (hb.k.ext fa) rfl rfl (by kernel_rfl) rfl rfl (fun b hB hF => ?_) (fun w' hF => (hH0 _ fa).fr hF hGg)); (have hfin : MkK g (begM m).2.2 vf ve nvs mv wb (.slice AF (nvs ++ [mv]).length cF) b := ⟨(show Fr (· = g) wb a from fa.fr).t hF, hB, ea.fr hF (fun j hj e => by have := (ea.blk hj).1; have : j = g := e; omega)⟩); (refine jeG ?_); (refine xg_end ?_); (exact tfin ⟨.slice AF (nvs ++ [mv]).length cF, sub ⟨rfl, rfl⟩, hfin⟩)) : p := h
attribute [local irreducible] xs T
theorem rmake_does (w : World) (g : Nat) (m : FsM) (vf ve vn : Value) (nvs : List NdV) (t : Tre) (p : Str) (x : NdV) (h : RsD D w g m vf ve vn nvs (nfT t)) (hG : FsG t) (hp : p.length ≤ 1000000) (hx : NdIn w x) (hxg : ∀ b, NdN x b → ¬ D b) (hxb : bytesP x.n.data ≤ 1000000) (hxt : x.n.target.length ≤ 1000000) (hc : 0 ≤ m.calls ∧ m.calls ≤ 4000000000000000000) :
  Does Tryz.prog 90 #[.pointer (some ⟨g, 0, none⟩), .string (su p), .agg (ndC x).toArray] w fun r w' => r = .int .i64 (makeE m t p x.n) ∧ RsS D w g vf w' (begM m).2.2 (nfT (makeT m t p x.n)) := by
 refine does3 Tryz.func90 rfl (by kernel_rfl) ?_
 have hg := h.k.lt
 have hlen := h.tr.len
 have hl100 := hG.f.g.len
 have hnl := nf_len t
 have hnsl := nf_nsl hG
 have hln := h.ln
 have hnsb : (nfT t).ns.length ≤ 100 := by have := may_ns (nf_ts hG.f); omega
 have hcc : 0 ≤ (begM m).2.2.calls := by
  have : ∀ m' : FsM, (begM m).2.2 = m' → m.calls ≤ m'.calls := fun m' hm' => by
   rw [← hm']
   unfold begM
   split
   ·exact Int.le_refl _
   ·split
    ·show m.calls ≤ m.calls + 1; omega
    ·split
     ·show m.calls ≤ m.calls + 1; omega
     ·show m.calls ≤ m.calls + 1; omega
  have := this _ rfl
  omega
 refine goL ?_
 refine xbox rfl (fun w1 hBx1 hE1 hs1 => ?_)
 have hBx : Blk w1 w.heap.size 67 (ndC x).toArray := hBx1
 have h1 := h.ext hE1
 have z1 := hE1.size
 refine goL ?_
 refine xcall rfl rfl (rfault_does w1 g m vf ve vn h1.k h1.f hc) ?_
 rintro r w2 ⟨rfl, hB2, hF2⟩
 have h2 := h1.put hF2 hB2 (begM_flts m)
 have hF02 : Fr (· = g) w w2 := hE1.fr.t hF2
 have hBx2 := hBx.fr hF2 (show ¬ w.heap.size = g by omega)
 by_cases e : (begM m).2.1 = 0
 ·rw [e]
  refine goL ?_
  refine xcall rfl rfl (rup_does w2 g _ vf ve vn nvs (nfT t) p h2.toRsI hp) ?_
  rintro r w3 ⟨rfl, hE3⟩
  rw [nf_wrong]
  have h3 := h2.ext hE3
  have hF03 := hF02.te hE3
  have hBx3 := hBx2.ext hE3
  by_cases e1 : wrongM t p = 0
  ·rw [e1]
   have hx3 : NdIn w3 x := ⟨hx.a.frN hF03 fun b hb e => hxg b (.inl hb) (e ▸ h.dg), hx.c.frN hF03 fun b hb e => hxg b (.inr (.inl hb)) (e ▸ h.dg), hx.d.frN hF03 fun b hb e => hxg b (.inr (.inr hb)) (e ▸ h.dg)⟩
   refine goL ?_
   refine xlda (t := 67) hBx3 rfl rfl ?_
   refine goL ?_
   refine xcall rfl rfl (rnodemay_does w3 x hx3 hxb hxt) ?_
   rintro r w4 ⟨rfl, hE4⟩
   have h4 := h3.ext hE4
   have hF04 := hF03.te hE4
   have hBx4 := hBx3.ext hE4
   cases hok : nodeOK x.n with
   | false =>
    have hme : makeE m t p x.n = 1 := by unfold makeE; rw [if_neg (fun h => h e), if_neg (fun h => h e1), if_pos hok]
    rw [hme, make_same (by rw [hme]; decide)]
    refine goL ?_
    exact tret1 rfl rfl ⟨rfl, _, _, _, h4, hF04⟩
   | true =>
    refine goL ?_
    refine xcall rfl rfl (rplace_does w4 g _ vf ve vn nvs (nfT t) p h4 hp) ?_
    rintro r w5 ⟨rfl, hE5⟩
    have h5 := h4.ext hE5
    have hF05 := hF04.te hE5
    have hBx5 := hBx4.ext hE5
    rw [nf_wrong, nf_room, e1, if_neg (fun h => h rfl)]
    have hme : makeE m t p x.n = roomM t p := by unfold makeE; rw [if_neg (fun h => h e), if_neg (fun h => h e1), hok, if_neg (by decide)]
    rw [← hme]
    by_cases e2 : makeE m t p x.n = 0
    ·obtain ⟨_, _, _, _, hGX, hpar, j, hj⟩ := make_mid hG hcc e2
     have hX := nf_make (n := madeN x.n (begM m).2.2.calls) (p := p) hG hGX.f
     have hfin : nfT (makeT m t p x.n) = stampT (nfT ⟨insP t.es p t.ns.length, t.ns ++ [madeN x.n (begM m).2.2.calls]⟩) p (begM m).2.2.calls := by
      unfold makeT enterT
      rw [if_pos e2]
      exact nf_stamp hGX.f p _
     rw [e2, hfin]
     obtain ⟨mv, hmv⟩ : ∃ mv : NdV, mv = ⟨madeN x.n (begM m).2.2.calls, .slice none 0 0, .slice none 0 0, .slice none 0 0⟩ := ⟨_, rfl⟩
     have hd5 := Fr.drew noneB w5
     have hE5d : Ext w5 w5.drew := hd5
     have h5d := h5.ext hE5d
     have hBx5d := hBx5.ext hE5d
     have hH12 : Blk w5.drew w.heap.size 67 (ndC x).toArray ∧ w5.drew.cell? ⟨g, 4, none⟩ = some (.int .i64 (begM m).2.2.calls) := ⟨hBx5d, h5d.k.cell 4⟩
     refine goL ?_
     refine tdrawH [32, 35, 39, 42, 44, 46] (fun w' => Blk w' w.heap.size 67 (ndC x).toArray ∧ w'.cell? ⟨g, 4, none⟩ = some (.int .i64 (begM m).2.2.calls)) (by kernel_rfl) (by decide +kernel) hH12 ?_
     refine gz15 ?_
     refine xbd (cells := #[.int .i64 x.n.mode, .int .i64 0, .int .i64 0, .int .i64 (begM m).2.2.calls, .slice none 0 0, .slice none 0 0]) rfl (by kernel_rfl) ?_
     refine gz15 ?_
     refine xbd (cells := (ndC ⟨madeN x.n (begM m).2.2.calls, .slice none 0 0, .slice none 0 0, .slice none 0 0⟩).toArray) rfl (by kernel_rfl) ?_
     rw [← hmv]
     refine goL ?_
     refine xalloc (z := .agg nd0) (by kernel_rfl) (fun w6 hB6 hE6 hs6 => ?_) (fun w' he => ⟨hH12.1.ext he, he.cell hH12.2⟩)
     refine goL ?_
     have hmin : ∀ w', NdIn w' mv := fun w' => by rw [hmv]; exact ⟨Rw.nil _ _ (by decide), Rw.nil _ _ (by decide), Rw.nil _ _ (by decide)⟩
     have hone1 := ndC_one (hmin w6)
     refine xsta hB6 rfl rfl (by kernel_rfl) rfl (one_cells (l := ndC mv) (List.all_eq_true.2 hone1)) (fun wb hBm hFm => ?_) (fun w' hF => ⟨(hH12.1.ext hE6).fr hF (show ¬ w.heap.size = w5.drew.heap.size by have := h5d.k.lt; have := hBx5d.lt; omega), (hE6.cell hH12.2) |> fun hc => hF.cell hc (show ¬ g = w5.drew.heap.size by have := h5d.k.lt; omega)⟩)
     have hE5b : Ext w5 wb := hE5d.t (hE6.trans hFm fun j hj e => by have : j = w5.drew.heap.size := e; omega)
     have hb := h5.ext hE5b
     have hgb := hb.k.lt
     obtain ⟨N, d, rfl, hRn, hmn⟩ := nd_row hb.tr.n
     have hone := nd_ones hb.tr
     have hGg : ¬ w5.drew.heap.size = g := by have := h5d.k.lt; omega
     refine goL ?_
     refine tcut (α := Value) (fun y => [(0, .pointer (some ⟨g, 0, none⟩)), (1, .string (su p))]) (MkK g (begM m).2.2 vf ve nvs mv wb) ?_ ?_
     ·have hH0 : ∀ w', Ext wb w' → Blk w' w5.drew.heap.size 67 (ndC mv).toArray := fun w' hE => Blk.ext hBm hE
      refine tdrawQ 15 [56] (fun w' => Blk w' w5.drew.heap.size 67 (ndC mv).toArray) rfl (by kernel_rfl) (by decide +kernel) (hH0 _ (Fr.drew _ _)) (fun hRR => ?_)
      obtain ⟨a, ha0⟩ : ∃ a, a = wb.drew := ⟨_, rfl⟩
      have fa : Ext wb a := by rw [ha0]; exact Fr.drew _ _
      rw [← ha0]
      clear ha0
      obtain ⟨vw, O, ea, oa⟩ : ∃ (v : Value) (_ : Nat), (a = a ∧ v.ownBlock = none) ∧ a = a := ⟨.nilFunc, 0, ⟨rfl, rfl⟩, rfl⟩
      refine grun [0, 2, 3, 4, 5, 8] [1, 6, 7, 9, 10, 11, 12, 13, 14] hRR (by decide +kernel) (by decide +kernel) rfl ?_
      refine jeG ?_
      refine gb3 1 6 9 [6, 7, 9, 10, 11, 12, 13, 14] [1, 7, 9, 10, 11, 12, 13, 14] [1, 6, 7, 10, 11, 12, 13, 14] hRR ?_ ?_ ?_
      ·skip
       refine jeG ?_
       refine je1 ?_
       intro vw a fa ea oa
       refine gb2 6 9 [7, 9, 10, 11, 12, 13, 14] [6, 7, 10, 11, 12, 13, 14] hRR ?_ ?_
       ·skip
        refine jeG ?_
        have d6 : a.cell? ⟨g, 1, none⟩ = some (.slice N nvs.length d) := (hb.k.ext fa).cell 1
        refine jeG ?_
        clear d6
        refine gb2 7 9 [9, 10, 11, 12, 13, 14] [7, 10, 11, 12, 13, 14] hRR ?_ ?_
        ·exact y25
        ·exact y43
       ·skip
        refine jeG ?_
        refine je9 ?_
        intro O a fa ea oa
        exact y39
      ·skip
       refine jeG ?_
       have d6 : a.cell? ⟨g, 1, none⟩ = some (.slice N nvs.length d) := (hb.k.ext fa).cell 1
       refine jeG ?_
       clear d6
       refine gb2 1 9 [7, 9, 10, 11, 12, 13, 14] [1, 7, 10, 11, 12, 13, 14] hRR ?_ ?_
       ·skip
        refine jeG ?_
        refine je1 ?_
        intro vw a fa ea oa
        refine gb2 7 9 [9, 10, 11, 12, 13, 14] [7, 10, 11, 12, 13, 14] hRR ?_ ?_
        ·exact y25
        ·exact y43
       ·skip
        refine jeG ?_
        refine je9 ?_
        intro O a fa ea oa
        exact y59
      ·skip
       refine jeG ?_
       refine je9 ?_
       intro O a fa ea oa
       refine gb2 1 6 [6, 7, 10, 11, 12, 13, 14] [1, 7, 10, 11, 12, 13, 14] hRR ?_ ?_
       ·skip
        refine jeG ?_
        refine je1 ?_
        intro vw a fa ea oa
        exact y39
       ·skip
        refine jeG ?_
        have d6 : a.cell? ⟨g, 1, none⟩ = some (.slice N nvs.length d) := (hb.k.ext fa).cell 1
        refine jeG ?_
        clear d6
        exact y59
     ·rintro v w7 ⟨hF7, hB7, hO7⟩
      have hll : (nvs ++ [mv]).length = t.ns.length + 1 := by rw [List.length_append]; simp only [List.length_cons, List.length_nil]; omega
      obtain ⟨A7, c7, rfl, _, _⟩ := hO7.form
      have hmn' : mv.n = madeN x.n (begM m).2.2.calls := by rw [hmv]
      have hda7 : ∀ b, TrN ve (.slice A7 (nvs ++ [mv]).length c7) (nvs ++ [mv]) ⟨(nfT t).es, (nfT t).ns ++ [madeN x.n (begM m).2.2.calls]⟩ b → ¬ D b := fun b hb' hD => by
       have hlt := hb.dl b hD
       rcases hb' with hb' | hb' | ⟨y, hy, hb'⟩
       ·exact hb.da b (.inl hb') hD
       ·have := (hO7.blk hb'.2).1; omega
       ·rcases List.mem_append.1 hy with hy | hy
        ·exact hb.da b (.inr (.inr ⟨y, hy, hb'⟩)) hD
        ·rw [List.mem_singleton.1 hy, hmv] at hb'
         rcases hb' with hb' | hb' | hb' <;> exact absurd hb'.1 (by show ¬ 0 < 0; decide)
      have h7 : RsD D w7 g (begM m).2.2 vf ve (.slice A7 (nvs ++ [mv]).length c7) (nvs ++ [mv]) ⟨(nfT t).es, (nfT t).ns ++ [madeN x.n (begM m).2.2.calls]⟩ := by
       refine ⟨⟨hB7, hb.f.frN hF7 fun b hb' e => hb.af b hb' e, ⟨hb.tr.e.frN hF7 fun b hb' e => hb.a b (.inl hb') e, hO7.rw, fun y hy => ?_, by rw [List.map_append, hb.tr.m, List.map_singleton, hmn']⟩, hb.af, fun b hb' e => hda7 b hb' (e ▸ hb.dg), fun e he => ?_, ⟨fun n hn => ?_, fun n hn => ?_, hb.s.p⟩, hb.le, by dsimp only; rw [List.length_append]; simp only [List.length_cons, List.length_nil]; omega⟩, hb.dg, fun b hb' => Nat.lt_of_lt_of_le (hb.dl b hb') hF7.size, hb.df, hda7⟩
       ·rcases List.mem_append.1 hy with hy | hy
        ·have hyi := hb.tr.i y hy
         exact ⟨hyi.a.frN hF7 fun b hb' e => hb.a b (.inr (.inr ⟨y, hy, .inl hb'⟩)) e, hyi.c.frN hF7 fun b hb' e => hb.a b (.inr (.inr ⟨y, hy, .inr (.inl hb')⟩)) e, hyi.d.frN hF7 fun b hb' e => hb.a b (.inr (.inr ⟨y, hy, .inr (.inr hb')⟩)) e⟩
        ·rw [List.mem_singleton.1 hy]; exact hmin w7
       ·have := hb.r e he
        dsimp only
        rw [List.length_append]
        omega
       ·rcases List.mem_append.1 hn with hn | hn
        ·exact hb.s.b n hn
        ·rw [List.mem_singleton.1 hn]; exact Nat.zero_le _
       ·rcases List.mem_append.1 hn with hn | hn
        ·exact hb.s.g n hn
        ·rw [List.mem_singleton.1 hn]; exact hxt
      have k17 : w7.cell? ⟨g, 1, none⟩ = some (.slice A7 (nvs ++ [mv]).length c7) := hB7.cell 1
      rw [hll] at k17
      have hF07 : Fr (· = g) w w7 := (hF05.te hE5b).t hF7
      rw [hnsl] at hX
      refine goL ?_
      rw [show ((t.ns.length + 1 : Nat) : Int) - 1 = (t.ns.length : Int) by omega]
      refine xcall rfl rfl (renter_does w7 g _ vf ve _ (nvs ++ [mv]) _ p t.ns.length _ _ j h7 hp hX hpar hj (by dsimp only; omega)) ?_
      rintro r w8 ⟨rfl, ve8, vn8, nvs8, hI8, hF8⟩
      refine goL ?_
      exact tret1 rfl rfl ⟨rfl, ve8, vn8, nvs8, hI8, hF07.t hF8⟩
    ·rw [make_same e2]
     refine goL ?_
     exact tret1 rfl rfl ⟨rfl, _, _, _, h5, hF05⟩
  ·have hme : makeE m t p x.n = wrongM t p := by unfold makeE; rw [if_neg (fun h => h e), if_pos e1]
   rw [hme, make_same (by rw [hme]; exact e1)]
   refine goL ?_
   exact tret1 rfl rfl ⟨rfl, _, _, _, h3, hF03⟩
 ·have hme : makeE m t p x.n = (begM m).2.1 := make_flt e
  rw [hme, make_same (by rw [hme]; exact e)]
  refine goL ?_
  exact tret1 rfl rfl ⟨rfl, _, _, _, h2, hF02⟩
end
section
variable {D : Nat → Prop}
def fileE (t : Tre) (p : Str) : Int := if (findM t p).2 ≠ 0 then (findM t p).2 else if (nodeAt t (findM t p).1).kind = 1 then 8 else if (nodeAt t (findM t p).1).kind ≠ 2 then 9 else 0
theorem change_file (m : FsM) (t : Tre) (p : Str) (f : Nd → Nd × Int) : changeE m t p f = if fileE t p ≠ 0 then fileE t p else if (f (nodeAt t (findM t p).1)).2 ≠ 0 then (f (nodeAt t (findM t p).1)).2 else if m.quota < (totalT t.ns : Int) - bytesP (nodeAt t (findM t p).1).data + bytesP (f (nodeAt t (findM t p).1)).1.data then 10 else 0 := by
 by_cases h1 : (findM t p).2 = 0
 ·by_cases h2 : (nodeAt t (findM t p).1).kind = 1
  ·have hf : fileE t p = 8 := by unfold fileE; rw [if_neg (fun h => h h1), if_pos h2]
   rw [hf, if_pos (by decide)]
   unfold changeE
   rw [if_neg (fun h => h h1), if_pos h2]
  ·by_cases h3 : (nodeAt t (findM t p).1).kind = 2
   ·have hf : fileE t p = 0 := by unfold fileE; rw [if_neg (fun h => h h1), if_neg h2, if_neg (fun h => h h3)]
    rw [hf, if_neg (fun h => h rfl)]
    unfold changeE
    rw [if_neg (fun h => h h1), if_neg h2, if_neg (fun h => h h3)]
   ·have hf : fileE t p = 9 := by unfold fileE; rw [if_neg (fun h => h h1), if_neg h2, if_pos h3]
    rw [hf, if_pos (by decide)]
    unfold changeE
    rw [if_neg (fun h => h h1), if_neg h2, if_pos h3]
 ·have hf : fileE t p = (findM t p).2 := by unfold fileE; rw [if_pos h1]
  rw [hf, if_pos h1]
  unfold changeE
  rw [if_pos h1]
def putE (m : FsM) (T : Tre) (i : Nat) (n : Nd) : Int :=
 if m.quota < (totalT T.ns : Int) - bytesP (T.ns.getD i default).data + bytesP n.data then 10 else 0
theorem clK_le (k : Int) : clK k = 1 ∨ clK k = 2 ∨ clK k = 3 := by unfold clK; split <;> omega
theorem rcalK_cases (fl : List (Int × Int)) (n : Int) : rcalK fl n = 0 ∨ rcalK fl n = 1 ∨ rcalK fl n = 2 ∨ rcalK fl n = 3 := by
 unfold rcalK
 cases fl.find? fun a => decide (a.1 = n) with
 | none => exact .inl rfl
 | some a => exact .inr (clK_le a.2)
theorem rcal_one {m : FsM} (h : 0 < rcal m) : rcal m = 1 ∨ rcal m = 2 := by
 have hk := rcalK_cases m.flts m.calls
 unfold rcal at *
 split at h
 ·omega
 ·rename_i hd
  rw [if_neg hd]
  split at h
  ·omega
  ·rename_i h3
   rw [if_neg h3]
   omega
attribute [local irreducible] xs T
theorem rfile_does (w : World) (g : Nat) (m : FsM) (vf ve vn : Value) (nvs : List NdV) (t : Tre) (p : Str) (h : RsD D w g m vf ve vn nvs (nfT t)) (hp : p.length ≤ 1000000) :
  Does Tryz.prog 145 #[.pointer (some ⟨g, 0, none⟩), .string (su p)] w fun r w' => r = .tuple #[.int .i64 (if fileE t p = 0 then (findM (nfT t) p).1 else 0), .int .i64 (fileE t p)] ∧ Ext w w' := by
 refine does2 Tryz.func145 rfl (by kernel_rfl) ?_
 have hlen := h.tr.len
 refine goL ?_
 refine xcall rfl rfl (rsfind_does w g _ vf ve vn nvs (nfT t) p h.toRsI hp) ?_
 rintro r w2 ⟨rfl, hE2⟩
 have h2 := h.ext hE2
 obtain ⟨f1, f2⟩ := nf_findM t p
 rw [f1]
 by_cases e1 : (findM t p).2 = 0
 ·obtain ⟨f3, f4⟩ := f2 e1
  obtain ⟨i, hi, hil⟩ := find_range h.r (by rw [f1]; exact e1)
  rw [hi] at f4 ⊢
  rw [e1]
  obtain ⟨A', c', rfl, hc1', hc2', hA'⟩ := h.tr.n.op ndC_len
  obtain ⟨b, o, y, rfl, hb, hy, _, hcell⟩ := hA'.at_ (i := i) (by omega)
  have hyn : nodeAt (nfT t) (i : Int) = y.n := by unfold nodeAt; rw [Int.toNat_natCast]; exact h.tr.getD hy
  have k0 : w2.cell? ⟨b, o + i * 12 + 0, none⟩ = some (.int .i64 y.n.kind) := hE2.cell (hcell 0 _ rfl)
  have k1 : w2.cell? ⟨g, 1, none⟩ = some (.slice (some ⟨b, o, none⟩) nvs.length c') := h2.k.cell 1
  have hkind : (nodeAt t (findM t p).1).kind = y.n.kind := by rw [← f4, hyn]
  have hfe : fileE t p = if y.n.kind = 1 then 8 else if y.n.kind ≠ 2 then 9 else 0 := by unfold fileE; rw [if_neg (fun h => h e1), hkind]
  by_cases hk : y.n.kind = 1
  ·rw [if_pos hk] at hfe
   rw [hfe, if_neg (by decide)]
   refine gz5 ?_
   exact tret2 rfl rfl rfl ⟨rfl, hE2⟩
  ·rw [if_neg hk] at hfe
   by_cases hk2 : y.n.kind = 2
   ·rw [if_neg (fun h => h hk2)] at hfe
    rw [hfe, if_pos rfl]
    refine gz5 ?_
    exact tret2 rfl rfl rfl ⟨rfl, hE2⟩
   ·rw [if_pos hk2] at hfe
    rw [hfe, if_neg (by decide)]
    refine gz5 ?_
    exact tret2 rfl rfl rfl ⟨rfl, hE2⟩
 ·have hfe : fileE t p = (findM t p).2 := by unfold fileE; rw [if_pos e1]
  rw [hfe, if_neg e1]
  refine goL ?_
  exact tret2 rfl rfl rfl ⟨rfl, hE2⟩
theorem rput_does (w : World) (g : Nat) (m : FsM) (vf ve vn : Value) (nvs : List NdV) (T0 : Tre) (i : Nat) (x : NdV) (h : RsD D w g m vf ve vn nvs T0) (hi : i < T0.ns.length) (hx : NdIn w x) (hxg : ∀ b, NdN x b → ¬ D b) (hxb : bytesP x.n.data ≤ 1000000) (hxt : x.n.target.length ≤ 1000000) :
  Does Tryz.prog 146 #[.pointer (some ⟨g, 0, none⟩), .int .i64 (i : Int), .agg (ndC x).toArray] w fun r w' => r = .int .i64 (putE m T0 i x.n) ∧ RsS D w g vf w' m (if putE m T0 i x.n = 0 then ⟨T0.es, T0.ns.set i (timeN x.n m.calls)⟩ else T0) := by
 refine does3 Tryz.func146 rfl (by kernel_rfl) ?_
 have hg := h.k.lt
 have hlen := h.tr.len
 have htot := totalT_le h.s.b
 have hln := h.ln
 obtain ⟨A, c, rfl, hc1, hc2, _⟩ := h.tr.e.op enC_len
 obtain ⟨A', c', rfl, hc1', hc2', hA'⟩ := h.tr.n.op ndC_len
 obtain ⟨b, o, y, rfl, hb, hy, _, hcell⟩ := hA'.at_ (i := i) (by omega)
 have hym := List.mem_of_getElem? hy
 have hyI := h.tr.i y hym
 have hyn : T0.ns.getD i default = y.n := h.tr.getD hy
 have hyt : y.n ∈ T0.ns := List.mem_of_getElem? (h.tr.get hy)
 have hyb := h.s.b y.n hyt
 unfold putE
 rw [hyn]
 refine goL ?_
 refine xbox rfl (fun w1 hB1 hE1 hs1 => ?_)
 have hBx : Blk w1 w.heap.size 67 (ndC x).toArray := hB1
 have z1 := hE1.size
 have hE1d : Ext w1 w1.drew := Fr.drew noneB w1
 have hE0d : Ext w w1.drew := hE1.t hE1d
 have hH : ∀ w', Ext w1.drew w' → Blk w' g 43 (rsC m vf (.slice A T0.es.length c) (.slice (some ⟨b, o, none⟩) nvs.length c')) ∧ Blk w' w.heap.size 67 (ndC x).toArray ∧ ∀ j u, (ndC y)[j]? = some u → w'.cell? ⟨b, o + i * 12 + j, none⟩ = some u := fun w' hE => ⟨(h.ext (hE0d.t hE)).k, (hBx.ext hE1d).ext hE, fun j u hu => hE.cell (hE0d.cell (hcell j u hu))⟩
 have hH0 := hH w1.drew (show Ext w1.drew w1.drew from Fr.refl _ _)
 refine goL ?_
 refine tdrawH [10, 16, 19, 22, 28] (fun w' => Blk w' g 43 (rsC m vf (.slice A T0.es.length c) (.slice (some ⟨b, o, none⟩) nvs.length c')) ∧ Blk w' w.heap.size 67 (ndC x).toArray ∧ ∀ j u, (ndC y)[j]? = some u → w'.cell? ⟨b, o + i * 12 + j, none⟩ = some u) (by kernel_rfl) (by decide +kernel) hH0 ?_
 refine goL ?_
 refine xldzh (cs := [.slice A T0.es.length c, .slice (some ⟨b, o, none⟩) nvs.length c']) rfl (by kernel_rfl) (fun w' h => rs_tree h.1) ?_
 refine goL ?_
 refine xcall rfl rfl (rtotal_does w1.drew _ _ nvs T0 (h.tr.ext hE0d) h.s.b h.ln) ?_ (fun r w' h => hH w' h.2)
 rintro r w2 ⟨rfl, hE2⟩
 repeat' (first | refine xldh rfl rfl (fun _ h => h.1.cell 1) ?_ | refine xizq i (o + i * 12) rfl rfl rfl rfl rfl (by omega) ?_ | refine go1L ?_ | fail)
 refine xldzh (cs := ndC y) rfl (by kernel_rfl) (fun w' h j u hu => h.2.2 j u hu) ?_
 refine goL ?_
 refine xcall rfl rfl (rbytes_does w2 y ((hyI.ext hE0d).ext hE2) hyb) ?_ (fun r w' h => hH w' (hE2.t h.2))
 rintro r w3 ⟨rfl, hE3⟩
 have hE23 := hE2.t hE3
 refine goL ?_
 refine xldzh (cs := ndC x) rfl (by kernel_rfl) (fun w' h j u hu => by rw [Nat.zero_add, h.2.1.cell, List.getElem?_toArray]; exact hu) ?_
 refine goL ?_
 refine xcall rfl rfl (rbytes_does w3 x ((hx.ext hE0d).ext hE23) hxb) ?_ (fun r w' h => hH w' (hE23.t h.2))
 rintro r w4 ⟨rfl, hE4⟩
 have hE24 := hE23.t hE4
 have hE04 : Ext w w4 := hE0d.t hE24
 have h4 := h.ext hE04
 have hBx4 := (hH w4 hE24).2.1
 by_cases hq : m.quota < (totalT T0.ns : Int) - bytesP y.n.data + bytesP x.n.data
 ·rw [if_pos hq, if_neg (by decide)]
  repeat' (first | refine xldh rfl rfl (fun _ h => h.1.cell 2) ?_ | refine go1L ?_ | fail)
  exact tret1 rfl rfl ⟨rfl, _, _, _, h4, hE04.fr⟩
 ·rw [if_neg hq, if_pos rfl]
  have k4 : w4.cell? ⟨g, 4, none⟩ = some (.int .i64 m.calls) := h4.k.cell 4
  repeat' (first | refine xldh rfl rfl (fun _ h => h.1.cell 2) ?_ | refine go1L ?_ | fail)
  refine xstb hBx4 rfl rfl (by kernel_rfl) rfl rfl (fun w5 hB5 hF5 => ?_)
  have hB5' : Blk w5 w.heap.size 67 (ndC ⟨timeN x.n m.calls, x.va, x.vc, x.vd⟩).toArray := hB5
  have hE05 : Ext w w5 := hE04.trans hF5 fun j hj e => by have : j = w.heap.size := e; omega
  have h5 := h.ext hE05
  have hx5 := hx.ext hE05
  refine goL ?_
  refine xlda (t := 67) hB5' rfl rfl ?_
  refine goL ?_
  refine xcall rfl rfl (rset_does w5 g m vf _ _ nvs T0 i ⟨timeN x.n m.calls, x.va, x.vc, x.vd⟩ h5 hi ⟨hx5.a, hx5.c, hx5.d⟩ hxg hxb hxt) ?_
  rintro r w6 ⟨rfl, ve6, vn6, nvs6, hI6, hF6⟩
  refine goL ?_
  exact tret1 rfl rfl ⟨rfl, ve6, vn6, nvs6, hI6, hE05.fr.t hF6⟩
end
section
variable {D : Nat → Prop}
theorem nf_change {m : FsM} {t : Tre} {p : Str} {f : Nd → Nd × Int} (h : FsG t) (hf : fileE t p = 0) (hg : (f (nodeAt t (findM t p).1)).2 = 0) {i : Nat} (hi : (findM (nfT t) p).1 = (i : Int)) : (nfT t).ns.getD i default = nodeAt t (findM t p).1 ∧ changeE m t p f = putE m (nfT t) i (f (nodeAt t (findM t p).1)).1 ∧ nfT (changeT m t p f) = if putE m (nfT t) i (f (nodeAt t (findM t p).1)).1 = 0 then ⟨(nfT t).es, (nfT t).ns.set i (timeN (f (nodeAt t (findM t p).1)).1 m.calls)⟩ else nfT t := by
 have hf2 : (findM t p).2 = 0 := by
  unfold fileE at hf
  split at hf
  ·rename_i h1; exact absurd hf h1
  ·rename_i h1; exact Decidable.not_not.1 h1
 obtain ⟨f3, f4⟩ := (nf_findM t p).2 hf2
 have hat : (nfT t).ns.getD i default = nodeAt t (findM t p).1 := by
  rw [← f4, hi]
  unfold nodeAt
  rw [Int.toNat_natCast]
 have he : changeE m t p f = putE m (nfT t) i (f (nodeAt t (findM t p).1)).1 := by
  rw [change_file, if_neg (fun h => h hf), if_neg (fun h => h hg)]
  unfold putE
  rw [hat, nf_total h]
 refine ⟨hat, he, ?_⟩
 unfold changeT
 rw [he]
 split
 ·have hii : i = (relF t).idxOf (findM t p).1 := by rw [f3] at hi; omega
  rw [hii]
  exact nf_put h.f (find_ok hf2).2 _
 ·rfl
theorem file_find {t : Tre} {p : Str} (hf : fileE t p = 0) : (findM t p).2 = 0 := by
 unfold fileE at hf
 split at hf
 ·rename_i h1; exact absurd hf h1
 ·rename_i h1; exact Decidable.not_not.1 h1
attribute [local irreducible] xs T
theorem rwrite7_does (w : World) (g : Nat) (m : FsM) (vf ve vn : Value) (nvs : List NdV) (t : Tre) (p : Str) (pos : Int) (s : Str) (h : RsD D w g m vf ve vn nvs (nfT t)) (hG : FsG t) (hp : p.length ≤ 1000000) (hsl : s.length ≤ 100000) (hc : 0 ≤ m.calls ∧ m.calls ≤ 4000000000000000000) :
  Does Tryz.prog 92 #[.pointer (some ⟨g, 0, none⟩), .string (su p), .int .i64 pos, .string (su s)] w fun r w' => r = .int .i64 (writeE m t p pos s) ∧ RsS D w g vf w' (begM m).2.2 (nfT (writeT m t p pos s)) := by
 refine does4 Tryz.func92 rfl (by kernel_rfl) ?_
 have hlen := h.tr.len
 refine goL ?_
 refine xcall rfl rfl (rcall_does w g m vf ve vn h.k h.f hc) ?_
 rintro r w1 ⟨rfl, hB1, hF1⟩
 have h1 := h.put hF1 hB1 (begM_flts m)
 refine gz0 ?_
 refine tcut (α := Unit) (fun _ => [(0, .pointer (some ⟨g, 0, none⟩)), (1, .string (su p)), (2, .int .i64 pos), (3, .string (su (shortS m s))), (9, .int .i64 (rcal m))]) (fun _ w' => w1 = w' ∧ ¬ ((begM m).1 ≠ 2 ∧ (begM m).2.1 ≠ 0) ∧ (begM m).2.1 = (if rcal m = 2 then 11 else 0)) ?_ ?_
 ·rcases rcal_cases m with ⟨c1, c2, c3⟩ | ⟨c1, c2, c3⟩ | ⟨c1, c2, c3⟩
  ·have hpg : (begM m).1 ≠ 2 ∧ (begM m).2.1 ≠ 0 := ⟨c3, by omega⟩
   rw [c1]
   unfold writeE writeT
   rw [if_pos hpg, if_pos hpg, c2]
   exact y20
  ·rcases rcal_one c1 with c4 | c4
   ·have hpg : (begM m).1 ≠ 2 ∧ (begM m).2.1 ≠ 0 := ⟨fun e => by have := c3.2 e; omega, by omega⟩
    rw [c4]
    unfold writeE writeT
    rw [if_pos hpg, if_pos hpg, c2]
    exact y20
   ·have hb2 : (begM m).1 = 2 := c3.1 c4
    have hss : shortS m s = s.take (s.length / 2) := by unfold shortS; rw [if_pos hb2]
    rw [hss, c4]
    refine gz28 ?_
    exact tfin ⟨(), sub ⟨rfl, rfl, rfl, rfl, rfl⟩, rfl, fun hh => hh.1 hb2, by rw [if_pos rfl]; exact c2⟩
  ·have hss : shortS m s = s := by unfold shortS; rw [if_neg (by omega)]
   rw [hss, c1]
   refine goL ?_
   exact tfin ⟨(), sub ⟨rfl, rfl, rfl, rfl, rfl⟩, rfl, fun hh => hh.2 c2, by rw [if_neg (by decide)]; exact c2⟩
 rintro _ w2 ⟨rfl, hng, hfe⟩
 obtain ⟨s', hs'⟩ : ∃ s', s' = shortS m s := ⟨_, rfl⟩
 have hsl' : s'.length ≤ 100000 := by
  rw [hs']
  unfold shortS
  split
  ·rw [List.length_take]; omega
  ·exact hsl
 unfold writeE writeT
 rw [if_neg hng, if_neg hng, ← hs', hfe]
 obtain ⟨c, hcc⟩ : ∃ c, c = rcal m := ⟨_, rfl⟩
 rw [← hcc]
 refine goL ?_
 refine xcall rfl rfl (rfile_does w1 g _ vf ve vn nvs t p h1 hp) ?_
 rintro r w3 ⟨rfl, hE3⟩
 have h3 := h1.ext hE3
 have hF03 : Fr (· = g) w w3 := hF1.te hE3
 by_cases e1 : fileE t p = 0
 ·obtain ⟨i, hi, hil⟩ := find_range h.r (by rw [(nf_findM t p).1]; exact file_find e1)
  rw [e1, if_pos rfl, hi]
  obtain ⟨A', c', rfl, hc1', hc2', hA'⟩ := h3.tr.n.op ndC_len
  obtain ⟨b, o, y, rfl, hb, hy, _, hcell⟩ := hA'.at_ (i := i) (by omega)
  have hym := List.mem_of_getElem? hy
  have hyI := h3.tr.i y hym
  have hyn : (nfT t).ns.getD i default = y.n := h3.tr.getD hy
  have hyt : y.n ∈ (nfT t).ns := List.mem_of_getElem? (h3.tr.get hy)
  have hyb := h3.s.b y.n hyt
  have hyg := h3.s.g y.n hyt
  have k1 : w3.cell? ⟨g, 1, none⟩ = some (.slice (some ⟨b, o, none⟩) nvs.length c') := h3.k.cell 1
  refine gz5 ?_
  refine xldz (cs := ndC y) rfl (by kernel_rfl) (fun j u hu => hcell j u hu) ?_
  refine goL ?_
  refine xcall rfl rfl (rwriteK_does w3 y pos s' hyI hyb hyg hsl') ?_
  rintro r w4 ⟨x, rfl, hxI, hxn, hE4, hxt4⟩
  have h4 := h3.ext hE4
  refine goL ?_
  refine xalloc (z := .agg nd0) (by kernel_rfl) (fun w5 hB5 hE5 hs5 => ?_)
  refine xsta hB5 rfl rfl (by kernel_rfl) rfl (one_cells (l := ndC x) (List.all_eq_true.2 (ndC_one hxI))) (fun w6 hB6 hF6 => ?_)
  have hE46 : Ext w4 w6 := hE5.trans hF6 fun j hj e => by have : j = w4.heap.size := e; omega
  have h6 := h4.ext hE46
  have hF06 := (hF03.te hE4).te hE46
  by_cases e2 : (writeN y.n pos s').2 = 0
  ·rw [e2]
   have hat : (nfT t).ns.getD i default = nodeAt t (findM t p).1 := by
    rw [← ((nf_findM t p).2 (file_find e1)).2, hi]
    unfold nodeAt
    rw [Int.toNat_natCast]
   have hyy : nodeAt t (findM t p).1 = y.n := by rw [← hat, hyn]
   obtain ⟨_, q1, q2⟩ := nf_change (m := (begM m).2.2) (f := fun n => writeN n pos s') hG e1 (by rw [hyy]; exact e2) hi
   rw [hyy, ← hxn] at q1 q2
   rw [q1, q2]
   have hok := writeN_ok (write_good e2) pos s'
   rw [← hxn] at hok
   have hxb := (node_new hok).2
   have hxt := (node_small hok).2
   refine goL ?_
   refine xlda (t := 67) hB6 rfl rfl ?_
   refine goL ?_
   refine xcall rfl rfl (rput_does w6 g _ vf ve _ nvs (nfT t) i x h6 hil (hxI.ext hE46) (h3.nd hym hxt4) hxb (by omega)) ?_
   rintro r w7 ⟨rfl, ve7, vn7, nvs7, hI7, hF7⟩
   have hF07 := hF06.t hF7
   by_cases e3 : putE (begM m).2.2 (nfT t) i x.n = 0
   ·rw [e3] at hI7 ⊢
    rw [if_neg (fun h => h rfl)]
    by_cases e4 : c = 2
    ·rw [if_pos e4]
     exact y91
    ·rw [if_neg e4]
     exact y91
   ·rw [if_pos e3]
    exact y91
  ·have hat : (nfT t).ns.getD i default = nodeAt t (findM t p).1 := by
    rw [← ((nf_findM t p).2 (file_find e1)).2, hi]
    unfold nodeAt
    rw [Int.toNat_natCast]
   have hyy : nodeAt t (findM t p).1 = y.n := by rw [← hat, hyn]
   have hce : changeE (begM m).2.2 t p (fun n => writeN n pos s') = (writeN y.n pos s').2 := by
    rw [change_file, if_neg (fun h => h e1), hyy]
    exact if_pos e2
   rw [hce, if_pos e2, show changeT (begM m).2.2 t p (fun n => writeN n pos s') = t by unfold changeT; rw [hce, if_neg e2]]
   refine goL ?_
   exact tret1 rfl rfl ⟨rfl, _, _, _, h6, hF06⟩
 ·have hce : changeE (begM m).2.2 t p (fun n => writeN n pos s') = fileE t p := by rw [change_file, if_pos e1]
  rw [hce, if_pos e1, show changeT (begM m).2.2 t p (fun n => writeN n pos s') = t by unfold changeT; rw [hce, if_neg e1]]
  refine goL ?_
  exact tret1 rfl rfl ⟨rfl, _, _, _, h3, hF03⟩
end
section
variable {D : Nat → Prop}
attribute [local irreducible] xs T
theorem rsize7_does (w : World) (g : Nat) (m : FsM) (vf ve vn : Value) (nvs : List NdV) (t : Tre) (p : Str) (size : Int) (h : RsD D w g m vf ve vn nvs (nfT t)) (hG : FsG t) (hp : p.length ≤ 1000000) (hc : 0 ≤ m.calls ∧ m.calls ≤ 4000000000000000000) :
  Does Tryz.prog 93 #[.pointer (some ⟨g, 0, none⟩), .string (su p), .int .i64 size] w fun r w' => r = .int .i64 (sizeE m t p size) ∧ RsS D w g vf w' (begM m).2.2 (nfT (sizeT m t p size)) := by
 refine does3 Tryz.func93 rfl (by kernel_rfl) ?_
 have hlen := h.tr.len
 refine goL ?_
 refine xcall rfl rfl (rfault_does w g m vf ve vn h.k h.f hc) ?_
 rintro r w1 ⟨rfl, hB1, hF1⟩
 have h1 := h.put hF1 hB1 (begM_flts m)
 unfold sizeE sizeT
 by_cases e : (begM m).2.1 = 0
 ·rw [if_neg (fun h => h e), if_neg (fun h => h e), e]
  refine goL ?_
  refine xcall rfl rfl (rfile_does w1 g _ vf ve vn nvs t p h1 hp) ?_
  rintro r w3 ⟨rfl, hE3⟩
  have h3 := h1.ext hE3
  have hF03 : Fr (· = g) w w3 := hF1.te hE3
  by_cases e1 : fileE t p = 0
  ·obtain ⟨i, hi, hil⟩ := find_range h.r (by rw [(nf_findM t p).1]; exact file_find e1)
   rw [e1, if_pos rfl, hi]
   obtain ⟨A', c', rfl, hc1', hc2', hA'⟩ := h3.tr.n.op ndC_len
   obtain ⟨b, o, y, rfl, hb, hy, _, hcell⟩ := hA'.at_ (i := i) (by omega)
   have hym := List.mem_of_getElem? hy
   have hyI := h3.tr.i y hym
   have hyn : (nfT t).ns.getD i default = y.n := h3.tr.getD hy
   have hyt : y.n ∈ (nfT t).ns := List.mem_of_getElem? (h3.tr.get hy)
   have hyb := h3.s.b y.n hyt
   have hyg := h3.s.g y.n hyt
   have k1 : w3.cell? ⟨g, 1, none⟩ = some (.slice (some ⟨b, o, none⟩) nvs.length c') := h3.k.cell 1
   refine gz5 ?_
   refine xldz (cs := ndC y) rfl (by kernel_rfl) (fun j u hu => hcell j u hu) ?_
   refine goL ?_
   refine xcall rfl rfl (rcutK_does w3 y size hyI hyb hyg) ?_
   rintro r w4 ⟨x, rfl, hxI, hxn, hE4, hxt4⟩
   have h4 := h3.ext hE4
   refine goL ?_
   refine xalloc (z := .agg nd0) (by kernel_rfl) (fun w5 hB5 hE5 hs5 => ?_)
   refine xsta hB5 rfl rfl (by kernel_rfl) rfl (one_cells (l := ndC x) (List.all_eq_true.2 (ndC_one hxI))) (fun w6 hB6 hF6 => ?_)
   have hE46 : Ext w4 w6 := hE5.trans hF6 fun j hj e => by have : j = w4.heap.size := e; omega
   have h6 := h4.ext hE46
   have hF06 := (hF03.te hE4).te hE46
   have hat : (nfT t).ns.getD i default = nodeAt t (findM t p).1 := by
    rw [← ((nf_findM t p).2 (file_find e1)).2, hi]
    unfold nodeAt
    rw [Int.toNat_natCast]
   have hyy : nodeAt t (findM t p).1 = y.n := by rw [← hat, hyn]
   by_cases e2 : (cutN y.n size).2 = 0
   ·rw [e2]
    obtain ⟨_, q1, q2⟩ := nf_change (m := (begM m).2.2) (f := fun n => cutN n size) hG e1 (by rw [hyy]; exact e2) hi
    rw [hyy, ← hxn] at q1 q2
    rw [q1, q2]
    have hok := cutN_ok (cut_good e2) size
    rw [← hxn] at hok
    have hxb := (node_new hok).2
    have hxt := (node_small hok).2
    refine goL ?_
    refine xlda (t := 67) hB6 rfl rfl ?_
    refine goL ?_
    refine xcall rfl rfl (rput_does w6 g _ vf ve _ nvs (nfT t) i x h6 hil (hxI.ext hE46) (h3.nd hym hxt4) hxb (by omega)) ?_
    rintro r w7 ⟨rfl, ve7, vn7, nvs7, hI7, hF7⟩
    refine goL ?_
    exact tret1 rfl rfl ⟨rfl, ve7, vn7, nvs7, hI7, hF06.t hF7⟩
   ·have hce : changeE (begM m).2.2 t p (fun n => cutN n size) = (cutN y.n size).2 := by
     rw [change_file, if_neg (fun h => h e1), hyy]
     exact if_pos e2
    rw [hce, show changeT (begM m).2.2 t p (fun n => cutN n size) = t by unfold changeT; rw [hce, if_neg e2]]
    refine goL ?_
    exact tret1 rfl rfl ⟨rfl, _, _, _, h6, hF06⟩
  ·have hce : changeE (begM m).2.2 t p (fun n => cutN n size) = fileE t p := by rw [change_file, if_pos e1]
   rw [hce, show changeT (begM m).2.2 t p (fun n => cutN n size) = t by unfold changeT; rw [hce, if_neg e1]]
   refine goL ?_
   exact tret1 rfl rfl ⟨rfl, _, _, _, h3, hF03⟩
 ·rw [if_pos e, if_pos e]
  exact y20
end
section
variable {D : Nat → Prop}
section
variable {hs : List Nat} {H : World → Prop} {full : Array Oper} {K : Env → World → Prop} {rest : List Oper} {env : Env} {w : World} {d : Tmp} {ty : TypeId} {pos : String} {af : Array Edge}
theorem xand {t yt : TypeId} {x y : Operand} {k : IntKind} {a b : Int} (hx : evo env x = some (.int k a)) (hy : evo env y = some (.int k b)) (h : xs Tryz.prog isI isS hs H full K rest ((d, .int k (bits .and k a b)) :: env) w) :
  xs Tryz.prog isI isS hs H full K (⟨some d, .binOp .and t x y yt, ty, pos, af, none⟩ :: rest) env w := by
 refine x_bin hx hy (eqGuard_at_int ..) (fun w' => ?_) h
 rw [binOp_and, intBits_and]
 rfl
end
theorem does8 {P : Program} {fn : Func} {R : Value → World → Prop} {f : FuncId} {c : Code} {v0 v1 v2 v3 v4 v5 v6 v7 : Value} {w : World} (hf : P.funcs[f]? = some fn) (hb : fn.body = some c) (hn : decide (8 ≤ fn.ntmps) = true) (h : T P fn R [.code c] [(0, v0), (1, v1), (2, v2), (3, v3), (4, v4), (5, v5), (6, v6), (7, v7)] w) : Does P f #[v0, v1, v2, v3, v4, v5, v6, v7] w R := does_of (l := [v0, v1, v2, v3, v4, v5, v6, v7]) hf hb hn h
theorem clr_and_nat : ∀ a : Nat, a < 64 → ∀ b : Nat, b < 64 → clrM ((64 * a + b : Nat) : Int) = bits .and .i64 ((64 * a + b : Nat) : Int) 511 := by decide +kernel
theorem clr_and {z : Int} (h : 0 ≤ z ∧ z ≤ 4095) : clrM z = bits .and .i64 z 511 := by
 obtain ⟨n, rfl⟩ := Int.eq_ofNat_of_zero_le h.1
 have := clr_and_nat (n / 64) (by omega) (n % 64) (by omega)
 rwa [show 64 * (n / 64) + n % 64 = n by omega] at this
def metaD (z a b c : Int) (n : Nd) : Nd := if z = 1 then ownN a b n else if z = 2 then modeN a n else timeN n c
theorem metaD_rows (z a b c : Int) (n : Nd) : (metaD z a b c n).attrs = n.attrs ∧ (metaD z a b c n).acl = n.acl ∧ (metaD z a b c n).data = n.data ∧ (metaD z a b c n).target = n.target := by
 unfold metaD
 split
 ·exact ⟨rfl, rfl, rfl, rfl⟩
 ·split
  ·exact ⟨rfl, rfl, rfl, rfl⟩
  ·exact ⟨rfl, rfl, rfl, rfl⟩
theorem nf_good {t : Tre} (h : FsG t) {n : Nd} (hn : n ∈ (nfT t).ns) : nodeOK n = true := may_nodes (nf_ts h.f) n hn
theorem mode_range {n : Nd} (h : nodeOK n = true) : 0 ≤ n.mode ∧ n.mode ≤ 4095 := by
 unfold nodeOK metaOK at h
 simp only [Bool.and_eq_true, decide_eq_true_eq] at h
 exact ⟨h.1.1.1.1.1.1.1.1.1, h.1.1.1.1.1.1.1.1.2⟩
def metaE (t : Tre) (p : Str) (d : Nd → Nd) : Int := if (findM t p).2 ≠ 0 then (findM t p).2 else if metaOK (d (nodeAt t (findM t p).1)) = false then 1 else 0
theorem set_met (m : FsM) (t : Tre) (p : Str) (d : Nd → Nd) : setE m t p (fun _ => 0) d = if (begM m).2.1 ≠ 0 then (begM m).2.1 else metaE t p d := by
 unfold setE metaE
 split
 ·rfl
 ·split
  ·rfl
  ·rw [if_neg (fun h => h rfl)]
theorem nf_met {m : FsM} {t : Tre} {p : Str} {d : Nd → Nd} (h : FsG t) (hb : (begM m).2.1 = 0) (hf : (findM t p).2 = 0) {i : Nat} (hi : (findM (nfT t) p).1 = (i : Int)) : (nfT t).ns.getD i default = nodeAt t (findM t p).1 ∧ nfT (setT m t p (fun _ => 0) d) = if metaE t p d = 0 then ⟨(nfT t).es, (nfT t).ns.set i (d (nodeAt t (findM t p).1))⟩ else nfT t := by
 obtain ⟨f3, f4⟩ := (nf_findM t p).2 hf
 have hat : (nfT t).ns.getD i default = nodeAt t (findM t p).1 := by
  rw [← f4, hi]
  unfold nodeAt
  rw [Int.toNat_natCast]
 refine ⟨hat, ?_⟩
 have hs : setE m t p (fun _ => 0) d = metaE t p d := by rw [set_met]; exact if_neg (fun h => h hb)
 unfold setT
 rw [hs]
 split
 ·have hii : i = (relF t).idxOf (findM t p).1 := by rw [f3] at hi; omega
  rw [hii]
  exact nf_put h.f (find_ok hf).2 _
 ·rfl
attribute [local irreducible] xs T
theorem rmeta_does (w : World) (g : Nat) (m : FsM) (vf ve vn : Value) (nvs : List NdV) (t : Tre) (p : Str) (z ua ub tt : Int) (hz : z = 1 ∨ z = 2 ∨ z = 3) (h : RsD D w g m vf ve vn nvs (nfT t)) (hG : FsG t) (hp : p.length ≤ 1000000) :
  Does Tryz.prog 147 #[.pointer (some ⟨g, 0, none⟩), .string (su p), .int .i64 z, .int .i64 ua, .int .i64 ub, .int .i64 tt, .slice none 0 0, .slice none 0 0] w fun r w' => r = .int .i64 (metaE t p (metaD z ua ub tt)) ∧ RsS D w g vf w' m (if metaE t p (metaD z ua ub tt) = 0 then ⟨(nfT t).es, (nfT t).ns.set (findM (nfT t) p).1.toNat (metaD z ua ub tt (nodeAt t (findM t p).1))⟩ else nfT t) := by
 refine does8 Tryz.func147 rfl (by kernel_rfl) ?_
 have hlen := h.tr.len
 refine goL ?_
 refine xcall rfl rfl (rsfind_does w g _ vf ve vn nvs (nfT t) p h.toRsI hp) ?_
 rintro r w3 ⟨rfl, hE3⟩
 have h3 := h.ext hE3
 rw [(nf_findM t p).1]
 unfold metaE
 by_cases e1 : (findM t p).2 = 0
 ·obtain ⟨i, hi, hil⟩ := find_range h.r (by rw [(nf_findM t p).1]; exact e1)
  rw [if_neg (fun h => h e1), e1, hi, Int.toNat_natCast]
  obtain ⟨A', c', rfl, hc1', hc2', hA'⟩ := h3.tr.n.op ndC_len
  obtain ⟨b, o, y, rfl, hb, hy, _, hcell⟩ := hA'.at_ (i := i) (by omega)
  have hym := List.mem_of_getElem? hy
  have hyI := h3.tr.i y hym
  have hyn : (nfT t).ns.getD i default = y.n := h3.tr.getD hy
  have hyt : y.n ∈ (nfT t).ns := List.mem_of_getElem? (h3.tr.get hy)
  have hyb := h3.s.b y.n hyt
  have hyg := h3.s.g y.n hyt
  have hyy : nodeAt t (findM t p).1 = y.n := by
   rw [← hyn, ← ((nf_findM t p).2 e1).2, hi]
   unfold nodeAt
   rw [Int.toNat_natCast]
  have hmr := mode_range (nf_good hG hyt)
  rw [hyy]
  have k1 : w3.cell? ⟨g, 1, none⟩ = some (.slice (some ⟨b, o, none⟩) nvs.length c') := h3.k.cell 1
  refine gz5 ?_
  refine xldz (cs := ndC y) rfl (by kernel_rfl) (fun j u hu => hcell j u hu) ?_
  refine goL ?_
  refine xalloc (z := .agg nd0) (by kernel_rfl) (fun w4 hB4 hE4 hs4 => ?_)
  refine xsta hB4 rfl rfl (by kernel_rfl) rfl (one_cells (l := ndC y) (List.all_eq_true.2 (ndC_one hyI))) (fun w5 hB5 hF5 => ?_)
  have hE35 : Ext w3 w5 := hE4.trans hF5 fun j hj e => by have : j = w3.heap.size := e; omega
  have q0 : w5.cell? ⟨w3.heap.size, 0, none⟩ = some (.int .i64 y.n.kind) := hB5.cell 0
  refine gz0 ?_
  refine tcut (α := Unit) (fun _ => [(0, .pointer (some ⟨g, 0, none⟩)), (17, .int .i64 (i : Int)), (19, .pointer (some ⟨w3.heap.size, 0, none⟩))]) (fun _ w' => Blk w' w3.heap.size 67 (ndC ⟨metaD z ua ub tt y.n, y.va, y.vc, y.vd⟩).toArray ∧ Fr (· = w3.heap.size) w5 w') ?_ ?_
  ·rcases hz with rfl | rfl | rfl
   ·have ed : metaD 1 ua ub tt y.n = ownN ua ub y.n := by unfold metaD; rw [if_pos rfl]
    rw [ed]
    refine goL ?_
    refine xstb hB5 rfl rfl (by kernel_rfl) rfl rfl (fun w6 hB6 hF6 => ?_)
    refine goL ?_
    refine xstb hB6 rfl rfl (by kernel_rfl) rfl rfl (fun w7 hB7 hF7 => ?_)
    have r0 : w7.cell? ⟨w3.heap.size, 0, none⟩ = some (.int .i64 y.n.kind) := hB7.cell 0
    have r1 : w7.cell? ⟨w3.heap.size, 1, none⟩ = some (.int .i64 y.n.mode) := hB7.cell 1
    by_cases hk : y.n.kind = 1
    ·have e : ownN ua ub y.n = { y.n with uid := ua, gid := ub } := by unfold ownN; rw [if_pos hk]
     rw [e]
     refine goL ?_
     exact tfin ⟨(), sub ⟨rfl, rfl, rfl⟩, hB7, hF6.t hF7⟩
    ·have e : ownN ua ub y.n = { y.n with uid := ua, gid := ub, mode := bits .and .i64 y.n.mode 511 } := by unfold ownN; rw [if_neg hk, clr_and hmr]
     rw [e]
     repeat' (first | refine xand rfl rfl ?_ | refine go1L ?_ | fail)
     refine xstb hB7 rfl rfl (by kernel_rfl) rfl rfl (fun w8 hB8 hF8 => ?_)
     refine goL ?_
     exact tfin ⟨(), sub ⟨rfl, rfl, rfl⟩, hB8, (hF6.t hF7).t hF8⟩
   ·have ed : metaD 2 ua ub tt y.n = modeN ua y.n := by unfold metaD; rw [if_neg (by decide), if_pos rfl]
    exact y64
   ·have ed : metaD 3 ua ub tt y.n = timeN y.n tt := by unfold metaD; rw [if_neg (by decide), if_neg (by decide)]
    exact y64
  rintro _ w6 ⟨hB6, hF6⟩
  obtain ⟨d, hd⟩ : ∃ d, d = metaD z ua ub tt y.n := ⟨_, rfl⟩
  obtain ⟨d1, d2, d3, d4⟩ := metaD_rows z ua ub tt y.n
  rw [← hd] at hB6 d1 d2 d3 d4 ⊢
  have hE36 : Ext w3 w6 := hE35.trans hF6 fun j hj e => by have : j = w3.heap.size := e; omega
  have h6 := h3.ext hE36
  have hyI6 := hyI.ext hE36
  have hdI : NdIn w6 ⟨d, y.va, y.vc, y.vd⟩ := ⟨by rw [d1]; exact hyI6.a, by rw [d2]; exact hyI6.c, by rw [d3]; exact hyI6.d⟩
  have hcm : ∀ j u, (mtC ⟨d, y.va, y.vc, y.vd⟩)[j]? = some u → w6.cell? ⟨w3.heap.size, 1 + j, none⟩ = some u := fun j u hu => by
   rw [hB6.cell, List.getElem?_toArray]
   rcases j with _ | _ | _ | _ | _ | _ | j
   all_goals first | exact hu | simp [mtC] at hu
  refine goL ?_
  refine xldz (cs := mtC ⟨d, y.va, y.vc, y.vd⟩) rfl (by kernel_rfl) hcm ?_
  refine goL ?_
  refine xcall rfl rfl (rmetamay_does w6 ⟨d, y.va, y.vc, y.vd⟩ hdI) ?_
  rintro r w7 ⟨rfl, hE7⟩
  have hE37 := hE36.t hE7
  have hE07 : Ext w w7 := hE3.t hE37
  have h7 := h6.ext hE7
  cases hmo : metaOK d with
  | false =>
   rw [if_pos rfl, if_neg (by decide)]
   refine goL ?_
   exact tret1 rfl rfl ⟨rfl, _, _, _, h7, hE07.fr⟩
  | true =>
   rw [if_neg (by decide), if_pos rfl]
   have hB7 := hB6.ext hE7
   refine goL ?_
   refine xlda (t := 67) hB7 rfl rfl ?_
   refine goL ?_
   refine xcall rfl rfl (rset_does w7 g m vf ve _ nvs (nfT t) i ⟨d, y.va, y.vc, y.vd⟩ h7 hil (hdI.ext hE7) (h3.nd hym fun b hb => .inl (by
    rcases hb with hb | hb | hb
    ·exact .inl (by dsimp only at hb; rwa [d1] at hb)
    ·exact .inr (.inl (by dsimp only at hb; rwa [d2] at hb))
    ·exact .inr (.inr (by dsimp only at hb; rwa [d3] at hb)))) (by rw [d3]; exact hyb) (by rw [d4]; exact hyg)) ?_
   rintro r w8 ⟨rfl, ve8, vn8, nvs8, hI8, hF8⟩
   refine goL ?_
   exact tret1 rfl rfl ⟨rfl, ve8, vn8, nvs8, hI8, hE07.fr.t hF8⟩
 ·exact y65
theorem rown_does (w : World) (g : Nat) (m : FsM) (vf ve vn : Value) (nvs : List NdV) (t : Tre) (p : Str) (ua ub : Int) (h : RsD D w g m vf ve vn nvs (nfT t)) (hG : FsG t) (hp : p.length ≤ 1000000) (hc : 0 ≤ m.calls ∧ m.calls ≤ 4000000000000000000) :
  Does Tryz.prog 94 #[.pointer (some ⟨g, 0, none⟩), .string (su p), .int .i64 ua, .int .i64 ub] w fun r w' => r = .int .i64 (setE m t p (fun _ => 0) (ownN ua ub)) ∧ RsS D w g vf w' (begM m).2.2 (nfT (setT m t p (fun _ => 0) (ownN ua ub))) := by
 refine does4 Tryz.func94 rfl (by kernel_rfl) ?_
 have ed : metaD 1 ua ub 0 = (ownN ua ub) := by funext n; unfold metaD; rw [if_pos rfl]
 refine goL ?_
 refine xcall rfl rfl (rfault_does w g m vf ve vn h.k h.f hc) ?_
 rintro r w1 ⟨rfl, hB1, hF1⟩
 have h1 := h.put hF1 hB1 (begM_flts m)
 by_cases e : (begM m).2.1 = 0
 ·have hs : setE m t p (fun _ => 0) (ownN ua ub) = metaE t p (ownN ua ub) := by rw [set_met]; exact if_neg (fun h => h e)
  rw [e, hs]
  refine goL ?_
  refine xcall rfl rfl (rmeta_does w1 g _ vf ve vn nvs t p 1 ua ub 0 (by decide) h1 hG hp) ?_
  rintro r w2 ⟨rfl, ve2, vn2, nvs2, hI2, hF2⟩
  rw [ed] at hI2 ⊢
  have hfin : nfT (setT m t p (fun _ => 0) (ownN ua ub)) = if metaE t p (ownN ua ub) = 0 then ⟨(nfT t).es, (nfT t).ns.set (findM (nfT t) p).1.toNat ((ownN ua ub) (nodeAt t (findM t p).1))⟩ else nfT t := by
   by_cases e1 : (findM t p).2 = 0
   ·exact y40
   ·have hm : metaE t p (ownN ua ub) = (findM t p).2 := by unfold metaE; rw [if_pos e1]
    rw [hm, if_neg e1]
    unfold setT
    rw [hs, hm, if_neg e1]
  exact y27
 ·have hs : setE m t p (fun _ => 0) (ownN ua ub) = (begM m).2.1 := by rw [set_met]; exact if_pos e
  rw [hs, show setT m t p (fun _ => 0) (ownN ua ub) = t by unfold setT; rw [hs, if_neg e]]
  exact y20
theorem rmode_does (w : World) (g : Nat) (m : FsM) (vf ve vn : Value) (nvs : List NdV) (t : Tre) (p : Str) (ua : Int) (h : RsD D w g m vf ve vn nvs (nfT t)) (hG : FsG t) (hp : p.length ≤ 1000000) (hc : 0 ≤ m.calls ∧ m.calls ≤ 4000000000000000000) :
  Does Tryz.prog 95 #[.pointer (some ⟨g, 0, none⟩), .string (su p), .int .i64 ua] w fun r w' => r = .int .i64 (setE m t p (fun _ => 0) (modeN ua)) ∧ RsS D w g vf w' (begM m).2.2 (nfT (setT m t p (fun _ => 0) (modeN ua))) := by
 refine does3 Tryz.func95 rfl (by kernel_rfl) ?_
 have ed : metaD 2 ua 0 0 = (modeN ua) := by funext n; unfold metaD; rw [if_neg (by decide), if_pos rfl]
 refine goL ?_
 refine xcall rfl rfl (rfault_does w g m vf ve vn h.k h.f hc) ?_
 rintro r w1 ⟨rfl, hB1, hF1⟩
 have h1 := h.put hF1 hB1 (begM_flts m)
 by_cases e : (begM m).2.1 = 0
 ·have hs : setE m t p (fun _ => 0) (modeN ua) = metaE t p (modeN ua) := by rw [set_met]; exact if_neg (fun h => h e)
  rw [e, hs]
  refine goL ?_
  refine xcall rfl rfl (rmeta_does w1 g _ vf ve vn nvs t p 2 ua 0 0 (by decide) h1 hG hp) ?_
  rintro r w2 ⟨rfl, ve2, vn2, nvs2, hI2, hF2⟩
  rw [ed] at hI2 ⊢
  have hfin : nfT (setT m t p (fun _ => 0) (modeN ua)) = if metaE t p (modeN ua) = 0 then ⟨(nfT t).es, (nfT t).ns.set (findM (nfT t) p).1.toNat ((modeN ua) (nodeAt t (findM t p).1))⟩ else nfT t := by
   by_cases e1 : (findM t p).2 = 0
   ·exact y40
   ·have hm : metaE t p (modeN ua) = (findM t p).2 := by unfold metaE; rw [if_pos e1]
    rw [hm, if_neg e1]
    unfold setT
    rw [hs, hm, if_neg e1]
  exact y27
 ·have hs : setE m t p (fun _ => 0) (modeN ua) = (begM m).2.1 := by rw [set_met]; exact if_pos e
  rw [hs, show setT m t p (fun _ => 0) (modeN ua) = t by unfold setT; rw [hs, if_neg e]]
  exact y20
theorem rtime_does (w : World) (g : Nat) (m : FsM) (vf ve vn : Value) (nvs : List NdV) (t : Tre) (p : Str) (ua : Int) (h : RsD D w g m vf ve vn nvs (nfT t)) (hG : FsG t) (hp : p.length ≤ 1000000) (hc : 0 ≤ m.calls ∧ m.calls ≤ 4000000000000000000) :
  Does Tryz.prog 96 #[.pointer (some ⟨g, 0, none⟩), .string (su p), .int .i64 ua] w fun r w' => r = .int .i64 (setE m t p (fun _ => 0) (fun n => timeN n ua)) ∧ RsS D w g vf w' (begM m).2.2 (nfT (setT m t p (fun _ => 0) (fun n => timeN n ua))) := by
 refine does3 Tryz.func96 rfl (by kernel_rfl) ?_
 have ed : metaD 3 0 0 ua = (fun n => timeN n ua) := by funext n; unfold metaD; rw [if_neg (by decide), if_neg (by decide)]
 refine goL ?_
 refine xcall rfl rfl (rfault_does w g m vf ve vn h.k h.f hc) ?_
 rintro r w1 ⟨rfl, hB1, hF1⟩
 have h1 := h.put hF1 hB1 (begM_flts m)
 by_cases e : (begM m).2.1 = 0
 ·have hs : setE m t p (fun _ => 0) (fun n => timeN n ua) = metaE t p (fun n => timeN n ua) := by rw [set_met]; exact if_neg (fun h => h e)
  rw [e, hs]
  refine goL ?_
  refine xcall rfl rfl (rmeta_does w1 g _ vf ve vn nvs t p 3 0 0 ua (by decide) h1 hG hp) ?_
  rintro r w2 ⟨rfl, ve2, vn2, nvs2, hI2, hF2⟩
  rw [ed] at hI2 ⊢
  have hfin : nfT (setT m t p (fun _ => 0) (fun n => timeN n ua)) = if metaE t p (fun n => timeN n ua) = 0 then ⟨(nfT t).es, (nfT t).ns.set (findM (nfT t) p).1.toNat ((fun n => timeN n ua) (nodeAt t (findM t p).1))⟩ else nfT t := by
   by_cases e1 : (findM t p).2 = 0
   ·exact y40
   ·have hm : metaE t p (fun n => timeN n ua) = (findM t p).2 := by unfold metaE; rw [if_pos e1]
    rw [hm, if_neg e1]
    unfold setT
    rw [hs, hm, if_neg e1]
  exact y27
 ·have hs : setE m t p (fun _ => 0) (fun n => timeN n ua) = (begM m).2.1 := by rw [set_met]; exact if_pos e
  rw [hs, show setT m t p (fun _ => 0) (fun n => timeN n ua) = t by unfold setT; rw [hs, if_neg e]]
  exact y20
end
end Go.Proofs.YtiebbecknfpdeaaGreatDoor.Eng
