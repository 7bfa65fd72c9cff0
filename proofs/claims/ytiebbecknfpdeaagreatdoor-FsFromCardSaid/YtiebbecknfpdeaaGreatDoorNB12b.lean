/-
  Parts of the proof: Ke, Kw, Kg, Kh, Ki, Kj, Kk.
-/
import Derived.Test.YtiebbecknfpdeaaGreatDoorNB0b
import Derived.Test.YtiebbecknfpdeaaGreatDoorNB11
import Derived.Test.YtiebbecknfpdeaaGreatDoorNB12a
import Derived.Test.YtiebbecknfpdeaaGreatDoorNB2
import Derived.Test.YtiebbecknfpdeaaGreatDoorNB5a
import Derived.Test.YtiebbecknfpdeaaGreatDoorNB9
import Derived.Test.YtiebbecknfpdeaaGreatDoorNWm
import Derived.Test.YtiebbecknfpdeaaGreatDoorNZs
set_option maxRecDepth 100000
set_option maxHeartbeats 64000000
namespace Go.Proofs.YtiebbecknfpdeaaGreatDoor.Eng
open Go.RowKit
section
variable {D : Nat → Prop}
def metaF (t : Tre) (p : Str) (c : Int) (d : Nd → Nd) : Int := if (findM t p).2 ≠ 0 then (findM t p).2 else if c ≠ 0 then c else if metaOK (d (nodeAt t (findM t p).1)) = false then 1 else 0
theorem set_metF (m : FsM) (t : Tre) (p : Str) (c : Int) (d : Nd → Nd) : setE m t p (fun _ => c) d = if (begM m).2.1 ≠ 0 then (begM m).2.1 else metaF t p c d := rfl
theorem nf_metF {m : FsM} {t : Tre} {p : Str} {c : Int} {d : Nd → Nd} (h : FsG t) (hr : ∀ e ∈ (nfT t).es, 0 ≤ e.node ∧ e.node < (nfT t).ns.length) (hb : (begM m).2.1 = 0) : nfT (setT m t p (fun _ => c) d) = if metaF t p c d = 0 then ⟨(nfT t).es, (nfT t).ns.set (findM (nfT t) p).1.toNat (d (nodeAt t (findM t p).1))⟩ else nfT t := by
 have hs : setE m t p (fun _ => c) d = metaF t p c d := by rw [set_metF]; exact if_neg (fun h => h hb)
 unfold setT
 rw [hs]
 by_cases e1 : (findM t p).2 = 0
 ·obtain ⟨i, hi, hil⟩ := find_range hr (by rw [(nf_findM t p).1]; exact e1)
  rw [hi, Int.toNat_natCast]
  split
  ·obtain ⟨f3, f4⟩ := (nf_findM t p).2 e1
   have hii : i = (relF t).idxOf (findM t p).1 := by rw [f3] at hi; omega
   rw [hii]
   exact nf_put h.f (find_ok e1).2 _
  ·rfl
 ·have hm : metaF t p c d = (findM t p).2 := by unfold metaF; rw [if_pos e1]
  rw [hm, if_neg e1, if_neg e1]
attribute [local irreducible] xs T
theorem rmeta4_does (w : World) (g : Nat) (m : FsM) (vf ve vn : Value) (nvs : List NdV) (t : Tre) (p : Str) (v : Value) (l : List Att) (h : RsD D w g m vf ve vn nvs (nfT t)) (hp : p.length ≤ 1000000) (hv : Rw attC w v l) (hn : l.length ≤ 100000) :
  Does Tryz.prog 147 #[.pointer (some ⟨g, 0, none⟩), .string (su p), .int .i64 4, .int .i64 0, .int .i64 0, .int .i64 0, v, .slice none 0 0] w fun r w' => r = .int .i64 (metaF t p (nrmA l).1 (attN (nrmA l).2)) ∧ RsS D w g vf w' m (if metaF t p (nrmA l).1 (attN (nrmA l).2) = 0 then ⟨(nfT t).es, (nfT t).ns.set (findM (nfT t) p).1.toNat (attN (nrmA l).2 (nodeAt t (findM t p).1))⟩ else nfT t) := by
 refine does8 Tryz.func147 rfl (by kernel_rfl) ?_
 have hlen := h.tr.len
 refine goL ?_
 refine xcall rfl rfl (rsfind_does w g _ vf ve vn nvs (nfT t) p h.toRsI hp) ?_
 rintro r w3 ⟨rfl, hE3⟩
 have h3 := h.ext hE3
 rw [(nf_findM t p).1]
 unfold metaF
 by_cases e1 : (findM t p).2 = 0
 ·obtain ⟨i, hi, hil⟩ := find_range h.r (by rw [(nf_findM t p).1]; exact e1)
  rw [if_neg (fun h => h e1), e1, hi, Int.toNat_natCast]
  obtain ⟨A', c', rfl, hc1', hc2', hA'⟩ := h3.tr.n.op ndC_len
  obtain ⟨b, o, y, rfl, hb, hy, _, hcell⟩ := hA'.at_ (i := i) (by omega)
  have hym := List.mem_of_getElem? hy
  have hyI := h3.tr.i y hym
  have hyn : (nfT t).ns.getD i default = y.n := h3.tr.getD hy
  have hyt : y.n ∈ (nfT t).ns := List.mem_of_getElem? (h3.tr.get hy)
  have hyb := h3.s.b y.n hyt
  have hyg := h3.s.g y.n hyt
  have hyy : nodeAt t (findM t p).1 = y.n := by
   rw [← hyn, ← ((nf_findM t p).2 e1).2, hi]
   unfold nodeAt
   rw [Int.toNat_natCast]
  rw [hyy]
  have k1 : w3.cell? ⟨g, 1, none⟩ = some (.slice (some ⟨b, o, none⟩) nvs.length c') := h3.k.cell 1
  refine gz5 ?_
  refine xldz (cs := ndC y) rfl (by kernel_rfl) (fun j u hu => hcell j u hu) ?_
  refine goL ?_
  refine xalloc (z := .agg nd0) (by kernel_rfl) (fun w4 hB4 hE4 hs4 => ?_)
  refine xsta hB4 rfl rfl (by kernel_rfl) rfl (one_cells (l := ndC y) (List.all_eq_true.2 (ndC_one hyI))) (fun w5 hB5 hF5 => ?_)
  have hE35 : Ext w3 w5 := hE4.trans hF5 fun j hj e => by have : j = w3.heap.size := e; omega
  refine goL ?_
  refine xcall rfl rfl (ranorm_does w5 v l ((hv.ext hE3).ext hE35) hn) ?_
  rintro r w6 ⟨vo, rfl, hR6, hoff, hE6⟩
  have hE36 : Ext w3 w6 := hE35.t hE6
  have h6 := h3.ext hE36
  have hyI6 := hyI.ext hE36
  by_cases en : (nrmA l).1 = 0
  ·rw [if_neg (fun h => h en), en]
   obtain ⟨A6, c6, rfl, _, _, _⟩ := id (hR6.op attC_len)
   have hF36 : Ext w w6 := hE3.t hE36
   refine goL ?_
   refine xstb (hB5.ext hE6) rfl rfl (by kernel_rfl) rfl rfl (fun w7 hB7 hF7 => ?_)
   have hE37 : Ext w3 w7 := hE36.trans hF7 fun j hj e => by have : j = w3.heap.size := e; omega
   have h7 := h3.ext hE37
   have hR7 : Rw attC w7 (.slice A6 (nrmA l).2.length c6) (nrmA l).2 := hR6.fr hF7 fun b' hb' e => by
    have e' : b' = w3.heap.size := e
    rw [e'] at hb'
    have := hoff _ hb'
    have := hE4.size
    have := hF5.size
    omega
   have hB7' : Blk w7 w3.heap.size 67 (ndC ⟨attN (nrmA l).2 y.n, .slice A6 (nrmA l).2.length c6, y.vc, y.vd⟩).toArray := hB7
   have hdI : NdIn w7 ⟨attN (nrmA l).2 y.n, .slice A6 (nrmA l).2.length c6, y.vc, y.vd⟩ := ⟨hR7, (hyI.c.ext hE37), (hyI.d.ext hE37)⟩
   have hnew : ∀ b, NdN ⟨attN (nrmA l).2 y.n, .slice A6 (nrmA l).2.length c6, y.vc, y.vd⟩ b → NdN y b ∨ w3.heap.size ≤ b := fun b hb => by
    have hz := hE35.size
    rcases hb with hb | hb | hb
    ·have := hoff b hb.2; exact .inr (by omega)
    ·exact .inl (.inr (.inl hb))
    ·exact .inl (.inr (.inr hb))
   have hcm : ∀ j u, (mtC ⟨attN (nrmA l).2 y.n, .slice A6 (nrmA l).2.length c6, y.vc, y.vd⟩)[j]? = some u → w7.cell? ⟨w3.heap.size, 1 + j, none⟩ = some u := fun j u hu => by
    rw [hB7'.cell, List.getElem?_toArray]
    rcases j with _ | _ | _ | _ | _ | _ | j
    all_goals first | exact hu | simp [mtC] at hu
   refine goL ?_
   refine xldz (cs := mtC ⟨attN (nrmA l).2 y.n, .slice A6 (nrmA l).2.length c6, y.vc, y.vd⟩) rfl (by kernel_rfl) hcm ?_
   refine goL ?_
   refine xcall rfl rfl (rmetamay_does w7 ⟨attN (nrmA l).2 y.n, .slice A6 (nrmA l).2.length c6, y.vc, y.vd⟩ hdI) ?_
   rintro r w8 ⟨rfl, hE8⟩
   have hE08 : Ext w w8 := hE3.t (hE37.t hE8)
   have h8 := h7.ext hE8
   cases hmo : metaOK (attN (nrmA l).2 y.n) with
   | false =>
    rw [if_pos rfl, if_neg (by decide)]
    refine goL ?_
    exact tret1 rfl rfl ⟨rfl, _, _, _, h8, hE08.fr⟩
   | true =>
    rw [if_neg (by decide), if_pos rfl]
    have hB8 := hB7'.ext hE8
    refine goL ?_
    refine xlda (t := 67) hB8 rfl rfl ?_
    refine goL ?_
    refine xcall rfl rfl (rset_does w8 g m vf ve _ nvs (nfT t) i ⟨attN (nrmA l).2 y.n, .slice A6 (nrmA l).2.length c6, y.vc, y.vd⟩ h8 hil (hdI.ext hE8) (h3.nd hym hnew) hyb hyg) ?_
    exact y98
  ·rw [if_pos en, if_neg en]
   refine goL ?_
   exact tret1 rfl rfl ⟨rfl, _, _, _, h6, Ext.fr (hE3.t hE36)⟩
 ·exact y65
theorem rattrs_does (w : World) (g : Nat) (m : FsM) (vf ve vn : Value) (nvs : List NdV) (t : Tre) (p : Str) (v : Value) (l : List Att) (h : RsD D w g m vf ve vn nvs (nfT t)) (hG : FsG t) (hp : p.length ≤ 1000000) (hc : 0 ≤ m.calls ∧ m.calls ≤ 4000000000000000000) (hv : Rw attC w v l) (hvg : ∀ b, RwK v l b → b ≠ g) (hn : l.length ≤ 100000) :
  Does Tryz.prog 98 #[.pointer (some ⟨g, 0, none⟩), .string (su p), v] w fun r w' => r = .int .i64 (setE m t p (fun _ => (nrmA l).1) (attN (nrmA l).2)) ∧ RsS D w g vf w' (begM m).2.2 (nfT (setT m t p (fun _ => (nrmA l).1) (attN (nrmA l).2))) := by
 refine does3 Tryz.func98 rfl (by kernel_rfl) ?_
 obtain ⟨A, c, ev, hc1, hc2, _⟩ := hv.op attC_len
 subst ev
 refine goL ?_
 refine xcall rfl rfl (rfault_does w g m vf ve vn h.k h.f hc) ?_
 rintro r w1 ⟨rfl, hB1, hF1⟩
 have h1 := h.put hF1 hB1 (begM_flts m)
 by_cases e : (begM m).2.1 = 0
 ·have hs : setE m t p (fun _ => (nrmA l).1) (attN (nrmA l).2) = metaF t p (nrmA l).1 (attN (nrmA l).2) := by rw [set_metF]; exact if_neg (fun h => h e)
  rw [e, hs]
  refine goL ?_
  refine xcall rfl rfl (rmeta4_does w1 g _ vf ve vn nvs t p _ l h1 hp (hv.frN hF1 fun b hb e => hvg b hb e) hn) ?_
  rintro r w2 ⟨rfl, ve2, vn2, nvs2, hI2, hF2⟩
  have hfin : nfT (setT m t p (fun _ => (nrmA l).1) (attN (nrmA l).2)) = if metaF t p (nrmA l).1 (attN (nrmA l).2) = 0 then ⟨(nfT t).es, (nfT t).ns.set (findM (nfT t) p).1.toNat (attN (nrmA l).2 (nodeAt t (findM t p).1))⟩ else nfT t := nf_metF hG h.r e
  exact y27
 ·have hs : setE m t p (fun _ => (nrmA l).1) (attN (nrmA l).2) = (begM m).2.1 := by rw [set_metF]; exact if_pos e
  rw [hs, show setT m t p (fun _ => (nrmA l).1) (attN (nrmA l).2) = t by unfold setT; rw [hs, if_neg e]]
  exact y20
theorem rmeta5_does (w : World) (g : Nat) (m : FsM) (vf ve vn : Value) (nvs : List NdV) (t : Tre) (p : Str) (v : Value) (l : List Ac) (h : RsD D w g m vf ve vn nvs (nfT t)) (hp : p.length ≤ 1000000) (hv : Rw acC w v l) (hn : l.length ≤ 100000) :
  Does Tryz.prog 147 #[.pointer (some ⟨g, 0, none⟩), .string (su p), .int .i64 5, .int .i64 0, .int .i64 0, .int .i64 0, .slice none 0 0, v] w fun r w' => r = .int .i64 (metaF t p (nrmB l).1 (aclN (nrmB l).2)) ∧ RsS D w g vf w' m (if metaF t p (nrmB l).1 (aclN (nrmB l).2) = 0 then ⟨(nfT t).es, (nfT t).ns.set (findM (nfT t) p).1.toNat (aclN (nrmB l).2 (nodeAt t (findM t p).1))⟩ else nfT t) := by
 refine does8 Tryz.func147 rfl (by kernel_rfl) ?_
 have hlen := h.tr.len
 refine goL ?_
 refine xcall rfl rfl (rsfind_does w g _ vf ve vn nvs (nfT t) p h.toRsI hp) ?_
 rintro r w3 ⟨rfl, hE3⟩
 have h3 := h.ext hE3
 rw [(nf_findM t p).1]
 unfold metaF
 by_cases e1 : (findM t p).2 = 0
 ·obtain ⟨i, hi, hil⟩ := find_range h.r (by rw [(nf_findM t p).1]; exact e1)
  rw [if_neg (fun h => h e1), e1, hi, Int.toNat_natCast]
  obtain ⟨A', c', rfl, hc1', hc2', hA'⟩ := h3.tr.n.op ndC_len
  obtain ⟨b, o, y, rfl, hb, hy, _, hcell⟩ := hA'.at_ (i := i) (by omega)
  have hym := List.mem_of_getElem? hy
  have hyI := h3.tr.i y hym
  have hyn : (nfT t).ns.getD i default = y.n := h3.tr.getD hy
  have hyt : y.n ∈ (nfT t).ns := List.mem_of_getElem? (h3.tr.get hy)
  have hyb := h3.s.b y.n hyt
  have hyg := h3.s.g y.n hyt
  have hyy : nodeAt t (findM t p).1 = y.n := by
   rw [← hyn, ← ((nf_findM t p).2 e1).2, hi]
   unfold nodeAt
   rw [Int.toNat_natCast]
  rw [hyy]
  have k1 : w3.cell? ⟨g, 1, none⟩ = some (.slice (some ⟨b, o, none⟩) nvs.length c') := h3.k.cell 1
  refine gz5 ?_
  refine xldz (cs := ndC y) rfl (by kernel_rfl) (fun j u hu => hcell j u hu) ?_
  refine goL ?_
  refine xalloc (z := .agg nd0) (by kernel_rfl) (fun w4 hB4 hE4 hs4 => ?_)
  refine xsta hB4 rfl rfl (by kernel_rfl) rfl (one_cells (l := ndC y) (List.all_eq_true.2 (ndC_one hyI))) (fun w5 hB5 hF5 => ?_)
  have hE35 : Ext w3 w5 := hE4.trans hF5 fun j hj e => by have : j = w3.heap.size := e; omega
  refine goL ?_
  refine xcall rfl rfl (rbnorm_does w5 v l ((hv.ext hE3).ext hE35) hn) ?_
  rintro r w6 ⟨vo, rfl, hR6, hoff, hE6⟩
  have hE36 : Ext w3 w6 := hE35.t hE6
  have h6 := h3.ext hE36
  have hyI6 := hyI.ext hE36
  by_cases en : (nrmB l).1 = 0
  ·rw [if_neg (fun h => h en), en]
   obtain ⟨A6, c6, rfl, _, _, _⟩ := id (hR6.op acC_len)
   have hF36 : Ext w w6 := hE3.t hE36
   refine goL ?_
   refine xstb (hB5.ext hE6) rfl rfl (by kernel_rfl) rfl rfl (fun w7 hB7 hF7 => ?_)
   have hE37 : Ext w3 w7 := hE36.trans hF7 fun j hj e => by have : j = w3.heap.size := e; omega
   have h7 := h3.ext hE37
   have hR7 : Rw acC w7 (.slice A6 (nrmB l).2.length c6) (nrmB l).2 := hR6.fr hF7 fun b' hb' e => by
    have e' : b' = w3.heap.size := e
    rw [e'] at hb'
    have := hoff _ hb'
    have := hE4.size
    have := hF5.size
    omega
   have hB7' : Blk w7 w3.heap.size 67 (ndC ⟨aclN (nrmB l).2 y.n, y.va, .slice A6 (nrmB l).2.length c6, y.vd⟩).toArray := hB7
   have hdI : NdIn w7 ⟨aclN (nrmB l).2 y.n, y.va, .slice A6 (nrmB l).2.length c6, y.vd⟩ := ⟨(hyI.a.ext hE37), hR7, (hyI.d.ext hE37)⟩
   have hnew : ∀ b, NdN ⟨aclN (nrmB l).2 y.n, y.va, .slice A6 (nrmB l).2.length c6, y.vd⟩ b → NdN y b ∨ w3.heap.size ≤ b := fun b hb => by
    have hz := hE35.size
    rcases hb with hb | hb | hb
    ·exact .inl (.inl hb)
    ·have := hoff b hb.2; exact .inr (by omega)
    ·exact .inl (.inr (.inr hb))
   have hcm : ∀ j u, (mtC ⟨aclN (nrmB l).2 y.n, y.va, .slice A6 (nrmB l).2.length c6, y.vd⟩)[j]? = some u → w7.cell? ⟨w3.heap.size, 1 + j, none⟩ = some u := fun j u hu => by
    rw [hB7'.cell, List.getElem?_toArray]
    rcases j with _ | _ | _ | _ | _ | _ | j
    all_goals first | exact hu | simp [mtC] at hu
   refine goL ?_
   refine xldz (cs := mtC ⟨aclN (nrmB l).2 y.n, y.va, .slice A6 (nrmB l).2.length c6, y.vd⟩) rfl (by kernel_rfl) hcm ?_
   refine goL ?_
   refine xcall rfl rfl (rmetamay_does w7 ⟨aclN (nrmB l).2 y.n, y.va, .slice A6 (nrmB l).2.length c6, y.vd⟩ hdI) ?_
   rintro r w8 ⟨rfl, hE8⟩
   have hE08 : Ext w w8 := hE3.t (hE37.t hE8)
   have h8 := h7.ext hE8
   cases hmo : metaOK (aclN (nrmB l).2 y.n) with
   | false =>
    rw [if_pos rfl, if_neg (by decide)]
    refine goL ?_
    exact tret1 rfl rfl ⟨rfl, _, _, _, h8, hE08.fr⟩
   | true =>
    rw [if_neg (by decide), if_pos rfl]
    have hB8 := hB7'.ext hE8
    refine goL ?_
    refine xlda (t := 67) hB8 rfl rfl ?_
    refine goL ?_
    refine xcall rfl rfl (rset_does w8 g m vf ve _ nvs (nfT t) i ⟨aclN (nrmB l).2 y.n, y.va, .slice A6 (nrmB l).2.length c6, y.vd⟩ h8 hil (hdI.ext hE8) (h3.nd hym hnew) hyb hyg) ?_
    exact y98
  ·rw [if_pos en, if_neg en]
   refine goL ?_
   exact tret1 rfl rfl ⟨rfl, _, _, _, h6, Ext.fr (hE3.t hE36)⟩
 ·exact y65
theorem racl_does (w : World) (g : Nat) (m : FsM) (vf ve vn : Value) (nvs : List NdV) (t : Tre) (p : Str) (v : Value) (l : List Ac) (h : RsD D w g m vf ve vn nvs (nfT t)) (hG : FsG t) (hp : p.length ≤ 1000000) (hc : 0 ≤ m.calls ∧ m.calls ≤ 4000000000000000000) (hv : Rw acC w v l) (hvg : ∀ b, RwK v l b → b ≠ g) (hn : l.length ≤ 100000) :
  Does Tryz.prog 100 #[.pointer (some ⟨g, 0, none⟩), .string (su p), v] w fun r w' => r = .int .i64 (setE m t p (fun _ => (nrmB l).1) (aclN (nrmB l).2)) ∧ RsS D w g vf w' (begM m).2.2 (nfT (setT m t p (fun _ => (nrmB l).1) (aclN (nrmB l).2))) := by
 refine does3 Tryz.func100 rfl (by kernel_rfl) ?_
 obtain ⟨A, c, ev, hc1, hc2, _⟩ := hv.op acC_len
 subst ev
 refine goL ?_
 refine xcall rfl rfl (rfault_does w g m vf ve vn h.k h.f hc) ?_
 rintro r w1 ⟨rfl, hB1, hF1⟩
 have h1 := h.put hF1 hB1 (begM_flts m)
 by_cases e : (begM m).2.1 = 0
 ·have hs : setE m t p (fun _ => (nrmB l).1) (aclN (nrmB l).2) = metaF t p (nrmB l).1 (aclN (nrmB l).2) := by rw [set_metF]; exact if_neg (fun h => h e)
  rw [e, hs]
  refine goL ?_
  refine xcall rfl rfl (rmeta5_does w1 g _ vf ve vn nvs t p _ l h1 hp (hv.frN hF1 fun b hb e => hvg b hb e) hn) ?_
  rintro r w2 ⟨rfl, ve2, vn2, nvs2, hI2, hF2⟩
  have hfin : nfT (setT m t p (fun _ => (nrmB l).1) (aclN (nrmB l).2)) = if metaF t p (nrmB l).1 (aclN (nrmB l).2) = 0 then ⟨(nfT t).es, (nfT t).ns.set (findM (nfT t) p).1.toNat (aclN (nrmB l).2 (nodeAt t (findM t p).1))⟩ else nfT t := nf_metF hG h.r e
  exact y27
 ·have hs : setE m t p (fun _ => (nrmB l).1) (aclN (nrmB l).2) = (begM m).2.1 := by rw [set_metF]; exact if_pos e
  rw [hs, show setT m t p (fun _ => (nrmB l).1) (aclN (nrmB l).2) = t by unfold setT; rw [hs, if_neg e]]
  exact y20
end
section
open Wr
attribute [local irreducible] xs T
theorem nwriteA_does (w : World) (x : NdV) (pos : Int) (s : Str) (hx : NdIn w x) (hL : NdL x.n) (hb : bytesP x.n.data ≤ 1000000) (hsl : s.length ≤ 1000000) : Does Tryz.prog 82 #[.agg (ndC x).toArray, .int .i64 pos, .string (su s)] w (WrR w x pos s) := by
 refine does3 Tryz.func82 rfl (by kernel_rfl) ?_
 unfold WrR
 refine goL ?_
 refine xbox rfl (fun w1 hB1 hE1 hs1 => ?_)
 refine goL ?_
 refine xalloc (z := .agg nd0) (by kernel_rfl) (fun w2 hB2 hE2 hs2 => ?_)
 have hB : Blk w2 w.heap.size 67 (ndC x).toArray := Blk.ext hB1 hE2
 have hE02 : Ext w w2 := hE1.t hE2
 have z1 := hE1.size; have z2 := hE2.size
 refine goL ?_
 refine xlda (t := 67) hB rfl rfl ?_
 refine goL ?_
 refine xcallE rfl rfl (isFile_does w2 x (hx.ext hE02) hb) (fun r w3 h3 => ?_)
 obtain ⟨rfl, hE3⟩ := h3
 have hB3 := hB.ext hE3
 have hR3 := Blk.ext hB2 hE3
 have hE03 := hE02.t hE3
 have hx3 := hx.ext hE03
 have z3 := hE3.size
 have hone : ∀ {w : World} {y : NdV}, NdIn w y → ∀ u ∈ ndC y, u.oneCell' = true := fun h => ndC_one h
 by_cases bad : nodeOK x.n = false ∨ x.n.kind ≠ 2 ∨ pos < 0 ∨ 1099511627776 < pos
 ·have hw : writeN x.n pos s = (x.n, 1) := by unfold writeN; rw [if_pos bad]
  rw [hw]
  have hgo : (decide (x.n.kind = 2) && nodeOK x.n) = false ∨ ((decide (x.n.kind = 2) && nodeOK x.n) = true ∧ (pos < 0 ∨ 1099511627776 < pos)) := by
   cases h1 : nodeOK x.n with
   | false => left; simp
   | true =>
    by_cases h2 : x.n.kind = 2
    ·right; refine ⟨by simp [h2], ?_⟩; rcases bad with h | h | h
     ·rw [h1] at h; cases h
     ·exact absurd h2 h
     ·exact h
    ·left; simp [h2]
  rcases hgo with hgo | ⟨hgo, hgp⟩
  ·rw [hgo]
   refine goL ?_
   exact y0
  ·rw [hgo]
   rcases hgp with hgp | hgp
   ·refine goL ?_
    exact y0
   ·refine goL ?_
    exact y0
 have hnk : nodeOK x.n = true := by cases h : nodeOK x.n with
  | true => rfl
  | false => exact absurd (.inl h) bad
 have hk2 : x.n.kind = 2 := by
  by_cases h : x.n.kind = 2
  ·exact h
  ·exact absurd (.inr (.inl h)) bad
 have hp0 : 0 ≤ pos := by
  by_cases h : 0 ≤ pos
  ·exact h
  ·exact absurd (.inr (.inr (.inl (by omega)))) bad
 have hp1 : pos ≤ 1099511627776 := by
  by_cases h : pos ≤ 1099511627776
  ·exact h
  ·exact absurd (.inr (.inr (.inr (by omega)))) bad
 rw [show (decide (x.n.kind = 2) && nodeOK x.n) = true from by rw [hk2, hnk]; rfl]
 have hfo : fileOK x.n = true := node_file hnk hk2
 have hwr : writeN x.n pos s = (if 1099511627776 - pos < (s.length : Int) then (x.n, 2)
  else if s = [] then (x.n, 0)
  else if 4000 < bytesP (wrP x.n.data pos s) ∨ 16 < (wrP x.n.data pos s).length then (x.n, 13)
  else ({ x.n with data := wrP x.n.data pos s, size := max x.n.size (pos + (s.length : Int)) }, 0)) := by
  unfold writeN; rw [if_neg bad]
 by_cases big : 1099511627776 - pos < (s.length : Int)
 ·rw [hwr, if_pos big]
  refine gz19 ?_
  exact y0
 rw [if_neg big] at hwr
 refine gz19 ?_
 refine xlda (t := 67) hB3 rfl rfl ?_
 refine goL ?_
 refine xcallE rfl rfl (ncopy_does w3 x hx3 hL) (fun r w4 h4 => ?_)
 obtain ⟨x1, rfl, hO4, hxn, hE4⟩ := h4
 have hB4 := hB3.ext hE4
 have hR4 := hR3.ext hE4
 have hE04 := hE03.t hE4
 have z4 := hE4.size
 refine goL ?_
 refine xalloc (z := .agg nd0) (by kernel_rfl) (fun w5 hB5 hE5 hs5 => ?_)
 refine goL ?_
 refine xsta hB5 rfl rfl (by kernel_rfl) rfl (one_cells (l := ndC x1) (List.all_eq_true.2 (hone hO4.in))) (fun w6 hB6 hF6 => ?_)
 have hE46 : Ext w4 w6 := hE5.trans hF6 fun j hj e => by have : j = w4.heap.size := e; omega
 have z5 := hE5.size; have z6 := hF6.size
 have hB6n := hB4.ext hE46
 have hR6 := hR4.ext hE46
 have hE06 := hE04.t hE46
 have hO6 := hO4.ext hE46
 by_cases hs0 : s = []
 ·exact y11
 rw [if_neg hs0] at hwr
 obtain ⟨f1, f2, f3, f4, f5, f6⟩ := (file_iff x.n).1 hfo
 have hpall : x.n.data.all pceOK = true := by
  unfold fileOK at hfo
  simp only [Bool.and_eq_true] at hfo
  exact hfo.1.1.2
 obtain ⟨a, rfl⟩ := Int.eq_ofNat_of_zero_le hp0
 obtain ⟨wS, wM⟩ := wr_spec hfo hp0 hs0 (by omega)
 have hM : max x.n.size ((a : Int) + (s.length : Int)) ≤ 1099511627776 := by omega
 have hme : ∀ {srt : List Ext2}, srt.Perm (exsP x.n.data ++ [(a, s.length)]) → ascX srt → mrgX srt = exsP (wrP x.n.data (a : Int) s) := fun hp ha => merged_eq (l := x.n.data) (pos := (a : Int)) (s := s) (fun p hp => ⟨(f6 p hp).2.1, by have := (f6 p hp).2.2; omega, (f6 p hp).1⟩) hp0 hs0 wS (fun q hq => ⟨(wM q hq).1, (wM q hq).2.1⟩) hp ha
 have hro := fun q hq => room_eq (l := x.n.data) (pos := (a : Int)) (s := s) f5 (fun p hp => ⟨(f6 p hp).2.1, by have := (f6 p hp).2.2; omega⟩) wS (q := q) hq
 obtain ⟨J, hJ⟩ : ∃ J, J = wrP x.n.data (a : Int) s := ⟨_, rfl⟩
 rw [← hJ] at wS wM hme hro hwr
 have hbJ := bytes_sep J 0 1099511627776 wS (fun q hq => ⟨(wM q hq).2.1, by have := (wM q hq).2.2; omega⟩) (by omega)
 have hel : (exsP x.n.data).length ≤ 16 := by rw [exsP_len]; omega
 have hs1 : 0 < s.length := List.length_pos_iff.2 hs0
 repeat' (first | refine xucmp (op := .eql) (r := false) rfl rfl (by simp [cmpU, hs0]) ?_ | refine go1L ?_ | fail)
 refine xlda (t := 67) hB6n rfl rfl ?_
 refine goL ?_
 refine xcallE rfl rfl (extents_does w6 x (hx.ext hE06) hpall hb (by omega)) (fun r w7 h7 => ?_)
 obtain ⟨hO7, hE7⟩ := h7
 refine gz19 ?_
 refine xcallE rfl rfl (of_does w7 a s.length (by omega) (by omega)) (fun r w8 h8 => ?_)
 obtain ⟨rfl, rfl⟩ := h8
 refine goL ?_
 refine xbs (vs := exC (a, s.length)) sl_cpl rfl rfl (by decide) (by decide) (fun u hu => by rw [List.mem_singleton.1 hu]; rfl) (fun w8 hB8 hE8 hs8 => ?_)
 refine xapz (news := exC (a, s.length)) sl_cpl rfl (by decide) rfl (OwnZ.ext hO7 hE8) rfl (blk_row hB8 (by decide) rfl) rfl (fun u hu => by rw [List.mem_singleton.1 hu]; rfl) (by unfold maxLen; omega) (by omega) (by have := hE7.size; have := hE8.size; omega) (fun v9 w9 hO9 hF9 hv9 => ?_)
 have hO9' : Ow exC 1 w9 w6.heap.size 156 v9 (exsP x.n.data ++ [(a, s.length)]) := Ow.ext1 (l' := [(a, s.length)]) (by simpa using hO9)
 have hE69 : Ext w6 w9 := Ext.te (hE7.t hE8) hF9 fun j hj e => by have := (hO7.blk e).1; omega
 refine goL ?_
 refine xcallE rfl rfl (normX_does w9 v9 _ hO9'.rw (fun e he => by
  rcases List.mem_append.1 he with he | he
  ·obtain ⟨p, hp, rfl⟩ := List.mem_map.1 he
   have h1 := f6 p hp
   have h2 := List.length_pos_iff.2 h1.1
   unfold endP at h1
   dsimp only
   omega
  ·rw [List.mem_singleton.1 he]; dsimp only; omega) (by simp) (by rw [List.length_append, List.length_singleton]; omega)) (fun r w10 h10 => ?_)
 obtain ⟨⟨srt, hperm, hasc, hO10⟩, hE10⟩ := h10
 rw [hme hperm hasc] at hO10
 have hE610 := hE69.t hE10
 have z69 := hE69.size
 clear hO7 hO9 hO9' hF9 hB8 hE7 hE8 hE69 hE10 hme hperm hasc
 obtain ⟨A10, c10, rfl, hc10, hc10', hA10⟩ := hO10.rw.op exC_len
 have hJl := exsP_len J
 refine goL ?_
 refine tloop (α := Nat) (fun i => [(1, .int .i64 (a : Int)), (2, .string (su s)), (3, .pointer (some ⟨w.heap.size, 0, none⟩)), (6, .pointer (some ⟨w1.heap.size, 0, none⟩)), (8, .int .i64 ((a : Int) + (s.length : Int))), (9, .pointer (some ⟨w4.heap.size, 0, none⟩)), (10, .slice A10 (exsP J).length c10), (11, .int .i64 (bytesP (J.take i) : Int)), (54, .slice A10 (exsP J).length c10), (55, .int .i64 ((exsP J).length : Int)), (56, .int .i64 (i : Int))]) (fun i w' => w10 = w' ∧ i ≤ J.length) (fun i => J.length - i) 0 (sub ⟨rfl, rfl, rfl, rfl, rfl, rfl, rfl, rfl, rfl, rfl, rfl⟩) ⟨rfl, Nat.zero_le _⟩ ?_
 rintro i w11 ⟨rfl, hi⟩
 by_cases hlt : i < J.length
 ·exact y12
 obtain rfl : i = J.length := by omega
 rw [List.take_length]
 have hB10n := hB6n.ext hE610
 have hB10 := hB6.ext hE610
 have hR10 := hR6.ext hE610
 have hE010 := hE06.t hE610
 have z10 := hE610.size
 by_cases hbig : 4000 < bytesP J ∨ 16 < J.length
 ·rw [if_pos hbig] at hwr
  rw [hwr]
  have hx10 := hx.ext hE010
  rcases Nat.lt_or_ge 4000 (bytesP J) with hg | hg
  ·exact y1
  ·exact y1
 obtain ⟨fin, hfin⟩ : ∃ fin : Nd, fin = { x.n with data := J, size := max x.n.size ((a : Int) + (s.length : Int)) } := ⟨_, rfl⟩
 rw [if_neg hbig, ← hfin] at hwr
 rw [hwr]
 have hJ4 : bytesP J ≤ 4000 := by omega
 have hJ16 : J.length ≤ 16 := by omega
 obtain ⟨n1, va1, vc1, vd1⟩ := x1
 dsimp only at hxn
 subst hxn
 have k7 : w10.cell? ⟨w.heap.size, 7, none⟩ = some (.int .i64 x.n.size) := hB10n.cell 7
 refine goLM ?_
 refine xstb hB10 rfl rfl (by kernel_rfl) rfl rfl (fun w11 hB11 hF11 => ?_)
 refine goL ?_
 refine xstb hB11 rfl rfl (by kernel_rfl) rfl rfl (fun w12 hB12 hF12 => ?_)
 have hB12' : Blk w12 w4.heap.size 67 (ndC ⟨fin, va1, vc1, .slice none 0 0⟩).toArray := by rw [hfin]; exact hB12
 have hF1012 : Fr (· = w4.heap.size) w10 w12 := hF11.t hF12
 have hE412 : Ext w4 w12 := (hE46.t hE610).trans hF1012 fun j hj e => by have : j = w4.heap.size := e; omega
 have hE012 := hE04.t hE412
 have hB12n := hB4.ext hE412
 have z12 := hF1012.size
 refine goL ?_
 refine xlda (t := 67) hB12n rfl rfl ?_
 refine goL ?_
 refine xcallE rfl rfl (ncopy_does w12 x (hx.ext hE012) hL) (fun r w13 h13 => ?_)
 obtain ⟨⟨n2, va2, vc2, vd2⟩, rfl, hO13, hxn2, hE13⟩ := h13
 dsimp only at hxn2
 subst hxn2
 have hO13d : Ow pcC 2 w13 w12.heap.size 134 vd2 x.n.data := hO13.d
 repeat' (first | refine xfld8 rfl rfl ?_ | refine go1L ?_ | fail)
 refine xbd (parts := [(0, .tmp 82), (1, .tmp 83)]) (cells := (pcC ⟨a, s⟩).toArray) (vs := [(0, .int .i64 (a : Int)), (1, .string (su s))]) rfl (by kernel_rfl) ?_
 refine goL ?_
 refine xbz1 sl_pcs rfl rfl (by decide) (by decide) (fun w14 hB14 hE14 hs14 => ?_)
 refine xapz (B := w12.heap.size) (news := pcC ⟨a, s⟩) sl_pcs rfl (by decide) rfl (hO13d.ext hE14) rfl (blk_row hB14 (by decide) rfl) rfl (fun u hu => pcC_one [_] u (by simpa using hu)) (by unfold maxLen; omega) (by omega) (by have := hE13.size; have := hE14.size; omega) (fun v15 w15 hO15 hF15 _ => ?_)
 obtain ⟨P, hP⟩ : ∃ P, P = x.n.data ++ [(⟨(a : Int), s⟩ : Pce)] := ⟨_, rfl⟩
 have hPl : P.length ≤ 17 := by rw [hP, List.length_append, List.length_singleton]; omega
 have hO15' : Ow pcC 2 w15 w12.heap.size 134 v15 P := by rw [hP]; exact Ow.ext1 (l' := [(⟨(a : Int), s⟩ : Pce)]) (by simpa using hO15)
 rw [← hP] at hro
 have hE1215 : Ext w12 w15 := Ext.te (hE13.t hE14) hF15 fun j hj e => by have := (hO13d.blk e).1; omega
 have z15 := hE1215.size
 have hO12m : Ow exC 1 w12 w9.heap.size 156 (.slice A10 (exsP J).length c10) (exsP J) := hO10.fr hF1012 fun b hb e => by have := (hO10.blk hb).1; have : b = w4.heap.size := e; omega
 have hO15m := hO12m.ext hE1215
 have hB15 := hB12'.ext hE1215
 obtain ⟨_, _, em, _, _, hA15⟩ := hO15m.rw.op exC_len
 injection em with em1 _ em2
 subst em1; subst em2
 obtain ⟨AP, cP, rfl, hcP, hcP', hAP⟩ := hO15'.rw.op pcC_len
 have hmb : ∀ b o, A10 = some ⟨b, o, none⟩ → b ≠ w4.heap.size := fun b o e => by subst e; have := (hO12m.blk (b := b) rfl).1; omega
 have hPb : ∀ b o, AP = some ⟨b, o, none⟩ → b ≠ w4.heap.size := fun b o e => by subst e; have := (hO15'.blk (b := b) rfl).1; omega
 clear hO10 hA10 hO12m hO15 hF15 hB14 hE14 hO13 hO13d hB11 hF11 hB12 hF12 hB10 hB10n hB6n hB6 hB5 k7
 refine goL ?_
 refine tloop (α := Nat × Value) (fun y => [(6, .pointer (some ⟨w1.heap.size, 0, none⟩)), (9, .pointer (some ⟨w4.heap.size, 0, none⟩)), (14, .slice AP P.length cP), (87, .slice A10 (exsP J).length c10), (88, .int .i64 ((exsP J).length : Int)), (89, .int .i64 (y.1 : Int))]) (WrS w15 w4.heap.size fin va1 vc1 J) (fun y => J.length - y.1) (0, .slice none 0 0) (sub ⟨rfl, rfl, rfl, rfl, rfl, rfl⟩) ⟨Nat.zero_le _, hB15, Ow.nil _ _ _, Fr.refl _ _⟩ ?_
 rintro ⟨i, vd⟩ w16 ⟨hi, hB16, hO16, hF16⟩
 dsimp only at hi hB16 hO16 hF16 ⊢
 have z16 := hF16.size
 by_cases hlt : i < J.length
 ·obtain ⟨b, o, p, rfl, _, hp', hdr, hcell⟩ := hA15.at_ (i := i) (by omega)
  obtain ⟨q, hq, rfl⟩ := exsP_get hp'
  have hqJ := wM q (List.mem_of_getElem? hq)
  have hqr := hro q (List.mem_of_getElem? hq)
  have hqb := bytesP_take hq
  have hle := bytesP_le J (i + 1)
  have hql := List.length_pos_iff.2 hqJ.1
  have hqe : endP q = q.pos + (q.data.length : Int) := rfl
  have hqp : ((q.pos.toNat : Nat) : Int) = q.pos := by omega
  have k0 := hF16.cell (hcell 0 _ rfl) (hmb b o rfl)
  rw [Nat.mul_one, Nat.add_zero] at k0
  refine gz23 ?_
  refine xcallE rfl rfl (exat_does w16 q.pos.toNat q.data.length (by omega)) (fun r w1 h1 => ?_)
  obtain ⟨rfl, rfl⟩ := h1
  rw [hqp]
  refine goL ?_
  refine xcallE rfl rfl (exlong_does w16 q.pos.toNat q.data.length (by omega)) (fun r w1 h1 => ?_)
  obtain ⟨rfl, rfl⟩ := h1
  refine goL ?_
  refine xmk sl_u8 rfl rfl rfl (by omega) (by omega) (by omega) (fun w17 hB17 hE17 hs17 => ?_)
  rw [Int.toNat_natCast] at hB17 ⊢
  rw [byC_zero] at hB17
  refine goL ?_
  refine tloop (α := Nat) (fun j => [(6, .pointer (some ⟨w1.heap.size, 0, none⟩)), (9, .pointer (some ⟨w4.heap.size, 0, none⟩)), (14, .slice AP P.length cP), (16, .complex .f64 (fw q.pos.toNat) (fw q.data.length)), (17, .int .i64 q.pos), (18, .slice (some ⟨w16.heap.size, 0, none⟩) q.data.length q.data.length), (87, .slice (some ⟨b, o, none⟩) (exsP J).length c10), (88, .int .i64 ((exsP J).length : Int)), (89, .int .i64 (i : Int)), (98, .slice AP P.length cP), (99, .int .i64 (P.length : Int)), (100, .int .i64 (j : Int))]) (WrC w17 w16.heap.size q.data.length q.pos (endP q) P) (fun j => P.length - j) 0 (sub ⟨rfl, rfl, rfl, rfl, rfl, rfl, rfl, rfl, rfl, rfl, rfl, rfl⟩) ⟨Nat.zero_le _, hB17, Fr.refl _ _⟩ ?_
  rintro j w18 ⟨hj, hB18, hF18⟩
  have z18 := hF18.size
  obtain ⟨room, hroom⟩ : ∃ room, room = roomF q.pos (endP q) (P.take j) (List.replicate q.data.length 0) := ⟨_, rfl⟩
  have hrl : room.length = q.data.length := by rw [hroom, roomF_len _ _ _ _ (by rw [List.length_replicate]; omega), List.length_replicate]
  rw [← hroom] at hB18
  have hE1618 : Ext w16 w18 := hE17.trans hF18 fun j hj e => by have : j = w16.heap.size := e; omega
  by_cases hjl : j < P.length
  ·obtain ⟨bp, op, p, rfl, hbp, hpj, hdrp, hcp⟩ := hAP.at_ (i := j) hjl
   have hpc : ∀ k u, (pcC p)[k]? = some u → w18.cell? ⟨bp, op + j * 2 + k, none⟩ = some u := fun k u hu => hE1618.cell (hF16.cell (hcp k u hu) (hPb bp op rfl))
   repeat' (first | refine xizq j (op + j * 2) rfl rfl rfl rfl rfl hjl ?_ | refine go1L ?_ | fail)
   refine xldz (cs := pcC p) rfl rfl hpc ?_
   refine xalloc (z := .agg #[.int .i64 0, .string ⟨#[]⟩]) (by kernel_rfl) (fun w19 hB19 hE19 hs19 => ?_)
   refine xsta (cs := (pcC p).toArray) hB19 rfl rfl rfl rfl (pcC_all p) (fun w20 hB20 hF20 => ?_)
   have hE20 : Ext w18 w20 := Ext.te hE19 hF20 fun j hj e => by have e' : j = w18.heap.size := e; omega
   refine goL ?_
   refine xbs (vs := exC (q.pos.toNat, q.data.length)) sl_cpl rfl rfl (by decide) (by decide) (fun u hu => by rw [List.mem_singleton.1 hu]; rfl) (fun w21 hB21 hE21 hs21 => ?_)
   have hB21p := hB20.ext hE21
   have q0 : w21.cell? ⟨w18.heap.size, 0, none⟩ = some (.int .i64 p.pos) := hB21p.cell 0
   refine goL ?_
   refine xcallE rfl rfl (has_does w21 _ (q.pos.toNat, q.data.length) p.pos (blk_row hB21 (by decide) rfl) (by dsimp only; omega) (by dsimp only; omega)) (fun r w22 h22 => ?_)
   obtain ⟨rfl, hE22⟩ := h22
   dsimp only
   rw [hqp, ← hqe]
   have hE1822 : Ext w18 w22 := (hE20.t hE21).t hE22
   by_cases hin : q.pos ≤ p.pos ∧ p.pos < endP q
   ·exact y5
   ·exact y30
  ·obtain rfl : j = P.length := by omega
   rw [List.take_length] at hroom
   have hrq : room = q.data := by rw [hroom, hqr]
   have hB18g := hB16.ext hE1618
   have k8 : w18.cell? ⟨w4.heap.size, 8, none⟩ = some vd := hB18g.cell 8
   have hO18 := hO16.ext hE1618
   have hzi : (J.take i).length = i := by rw [List.length_take]; omega
   rw [hrq] at hB18
   have hqm : q.data.length ≤ maxLen := by unfold maxLen; omega
   refine goL ?_
   refine xcbu hB18 rfl rfl hqm ?_
   refine xbd (parts := [(0, .tmp 121), (1, .tmp 123)]) (cells := (pcC q).toArray) (vs := [(0, .int .i64 q.pos), (1, .string (su q.data))]) rfl (by kernel_rfl) ?_
   refine goL ?_
   refine xbz1 sl_pcs rfl rfl (by decide) (by decide) (fun w19 hB19 hE19 hs19 => ?_)
   have hE1619 := hE1618.t hE19
   refine xapz (B := w15.heap.size) (news := pcC q) sl_pcs rfl (by decide) rfl (hO18.ext hE19) rfl (blk_row hB19 (by decide) rfl) rfl (fun u hu => pcC_one [_] u (by simpa using hu)) (by unfold maxLen; omega) (by omega) (by have := hE1619.size; omega) (fun v20 w20 hO20 hF20 _ => ?_)
   have hO20' : Ow pcC 2 w20 w15.heap.size 134 v20 (J.take (i + 1)) := by
    rw [List.take_add_one, hq]
    exact Ow.ext1 (l' := [q]) (by simpa using hO20)
   exact y7
 ·obtain rfl : i = J.length := by omega
  rw [List.take_length] at hO16
  have hne : ∀ b, b < w4.heap.size → ¬ b = w4.heap.size := fun b hb e => by omega
  have hOx : NdO w16 w3.heap.size ⟨fin, va1, vc1, vd⟩ := by
   refine ⟨?_, ?_, ?_⟩
   ·have h := ((hO4.a.ext hE412).ext hE1215).fr hF16 fun b hb => hne b (hO4.a.blk hb).2
    rw [hfin]; exact h
   ·have h := ((hO4.c.ext hE412).ext hE1215).fr hF16 fun b hb => hne b (hO4.c.blk hb).2
    rw [hfin]; exact h
   ·have h : Ow pcC 2 w16 w15.heap.size 134 vd J := hO16
    rw [hfin]; exact h.mono (by omega)
  exact y9
theorem write1A_does (w : World) (g b1 b2 : Nat) (pos : Int) (s : Str) (h1 : w.cell? ⟨b1, 0, none⟩ = some (.int .i64 pos)) (h2 : w.cell? ⟨b2, 0, none⟩ = some (.string (su s))) (n1 : b1 ≠ g) (n2 : b2 ≠ g) (hsl : s.length ≤ 1000000) :
  ChC w g 81 #[.pointer (some ⟨b1, 0, none⟩), .pointer (some ⟨b2, 0, none⟩)] (fun n => writeN n pos s) := by
 intro w0 x hF hx hL hb
 refine does3 Tryz.func81 rfl (by kernel_rfl) ?_
 have k1 := hF.cell h1 n1
 have k2 := hF.cell h2 n2
 refine goL ?_
 refine xbox rfl (fun w1 hB1 hE1 hs1 => ?_)
 refine goL ?_
 refine xalloc (z := .agg nd0) (by kernel_rfl) (fun w2 hB2 hE2 hs2 => ?_)
 have hE02 : Ext w0 w2 := hE1.t hE2
 have hB : Blk w2 w0.heap.size 67 (ndC x).toArray := Blk.ext hB1 hE2
 have q1 := hE02.cell k1
 have q2 := hE02.cell k2
 have z1 := hE1.size
 refine goL ?_
 refine xlda (t := 67) hB rfl rfl ?_
 refine goL ?_
 refine xcallE rfl rfl (nwriteA_does w2 x pos s (hx.ext hE02) hL hb hsl) (fun r w3 h3 => ?_)
 exact y2
theorem writeA_does (w : World) (B g : Nat) (m : FsM) (vf ve vn : Value) (nvs : List NdV) (t : Tre) (p : Str) (pos : Int) (s : Str) (h : FsO w B g m vf ve vn nvs t) (hc : 0 ≤ m.calls ∧ m.calls ≤ 4000000000000000000) (hsl : s.length ≤ 1000000) :
  Does Tryz.prog 35 #[.pointer (some ⟨g, 0, none⟩), .string (su p), .int .i64 pos, .string (su s)] w fun r w' => r = .int .i64 (writeE m t p pos s) ∧ ∃ nvs', FsS w B g vf ve vn nvs w' (begM m).2.2 (writeT m t p pos s) ve vn nvs' := by
 refine does4 Tryz.func35 rfl (by kernel_rfl) ?_
 have hg := h.i.k.lt
 obtain ⟨A, c, rfl, hc1, hc2, _⟩ := h.i.tr.e.op enC_len
 refine goL ?_
 refine xbox rfl (fun w1 hB1 hE1 hs1 => ?_)
 refine goL ?_
 refine xbox rfl (fun w2 hB2 hE2 hs2 => ?_)
 have hE02 : Ext w w2 := hE1.t hE2
 have h2 := h.ext hE02
 have z1 := hE1.size
 refine goL ?_
 refine xcall rfl rfl (begin_does w2 g m vf _ A _ c h2.i.k h2.i.h h2.i.f hc h2.i.af) ?_
 rintro r w3 ⟨rfl, hB3, hF3⟩
 have hi3 := h2.i.put hF3 hB3 (begM_flts m)
 have hS3 := (FsS.ext h hE02).t (FsS.put h2 hF3 hi3 (begM_flts m))
 have k6 : Blk w3 w.heap.size 2 #[.int .i64 pos] := (Blk.ext hB1 hE2).fr hF3 (show ¬ w.heap.size = g by omega)
 have k7 : Blk w3 w1.heap.size 9 #[.string (su s)] := Blk.fr hB2 hF3 (show ¬ w1.heap.size = g by omega)
 have hlt : ∀ b, b = g ∨ vf.ownBlock = some b ∨ TrK (.slice A t.es.length c) vn nvs b → b < w.heap.size := fun b hb => (h.blk hb).2
 unfold writeE writeT shortS
 by_cases hk : (begM m).1 = 2
 ·have hng : ¬ ((begM m).1 ≠ 2 ∧ (begM m).2.1 ≠ 0) := fun h => h.1 hk
  rw [if_neg hng, if_neg hng, if_pos hk]
  have q7 : w3.cell? ⟨w1.heap.size, 0, none⟩ = some (.string (su s)) := k7.cell 0
  refine gz28 ?_
  refine xstb k7 rfl rfl (by kernel_rfl) rfl rfl (fun w4 hB4 hF4 => ?_)
  have hS4 := hS3.off hF4 z1 fun b hb => by have := hlt b hb; omega
  have k64 := Blk.fr k6 hF4 (show ¬ w.heap.size = w1.heap.size by omega)
  have hst : (s.take (s.length / 2)).length ≤ 1000000 := by rw [List.length_take]; omega
  refine gz16 ?_
  refine xcall rfl rfl (change_does w4 B g _ vf _ vn nvs t p 81 #[.pointer (some ⟨w.heap.size, 0, none⟩), .pointer (some ⟨w1.heap.size, 0, none⟩)] (fun n => writeN n pos (s.take (s.length / 2))) hS4.o (by kernel_rfl)
   (write1A_does w4 g w.heap.size w1.heap.size pos (s.take (s.length / 2)) (k64.cell 0) (Blk.cell hB4 0) (by omega) (by omega) hst)
   (fun n _ e => node_new (writeN_ok (write_good e) _ _))) ?_
  rintro r w5 ⟨rfl, nvs5, hS5⟩
  by_cases e5 : changeE (begM m).2.2 t p (fun n => writeN n pos (s.take (s.length / 2))) = 0
  ·rw [if_neg (fun h => h e5)]
   rw [e5]
   exact y77
  ·rw [if_pos e5]
   exact y77
 ·by_cases e : (begM m).2.1 = 0
  ·have hng : ¬ ((begM m).1 ≠ 2 ∧ (begM m).2.1 ≠ 0) := fun h => h.2 e
   rw [if_neg hng, if_neg hng, if_neg hk]
   refine gz16 ?_
   refine xcall rfl rfl (change_does w3 B g _ vf _ vn nvs t p 81 #[.pointer (some ⟨w.heap.size, 0, none⟩), .pointer (some ⟨w1.heap.size, 0, none⟩)] (fun n => writeN n pos s) hS3.o (by kernel_rfl)
    (write1A_does w3 g w.heap.size w1.heap.size pos s (k6.cell 0) (k7.cell 0) (by omega) (by omega) hsl)
    (fun n _ e => node_new (writeN_ok (write_good e) _ _))) ?_
   rintro r w5 ⟨rfl, nvs5, hS5⟩
   by_cases e5 : changeE (begM m).2.2 t p (fun n => writeN n pos s) = 0
   ·rw [if_neg (fun h => h e5)]
    rw [e5]
    exact y53
   ·rw [if_pos e5]
    exact y53
  ·have hpg : (begM m).1 ≠ 2 ∧ (begM m).2.1 ≠ 0 := ⟨hk, e⟩
   rw [if_pos hpg, if_pos hpg]
   exact y63
end
section
structure OpV where
 z : Int
 a : Int
 b : Int
 at_ : Int
 p : Str
 q : Str
 s : Str
 n : NdV
def opC (o : OpV) : List Value := [.int .i64 o.z, .int .i64 o.a, .int .i64 o.b, .int .i64 o.at_, .string (su o.p), .string (su o.q), .string (su o.s)] ++ ndC o.n
theorem opC_len (o : OpV) : (opC o).length = 19 := by unfold opC; rw [List.length_append, ndC_len]; rfl
theorem opC_nd (o : OpV) (j : Nat) : (opC o)[7 + j]? = (ndC o.n)[j]? := by
 unfold opC
 rw [List.getElem?_append_right (by simp)]
 congr 1
 simp
structure Two (B g g' : Nat) (m : FsM) (t : Tre) (w : World) : Prop where
 il : ∃ vf ve vn nvs vf' ve' vn' nvs', FsO w B g m vf ve vn nvs t ∧ RsD (fun b => b = g' ∨ FsK g ve vn b) w g' m vf' ve' vn' nvs' (nfT t) ∧ ∀ b, FsA g vf ve vn nvs b → b ≠ g'
 gl : FsG t
 bl : B ≤ g'
 cl : 0 ≤ m.calls
theorem Two.ext {B g g' : Nat} {m : FsM} {t : Tre} {w w' : World} (h : Two B g g' m t w) (hE : Ext w w') : Two B g g' m t w' := by
 exact y73
theorem two_go {w w1 : World} {B g g' : Nat} {m m1 : FsM} {vf ve vn ve1 vn1 vf' ve' vn' : Value} {nvs nvs1 nvs' : List NdV} {t1 u : Tre} (hS : FsS w B g vf ve vn nvs w1 m1 t1 ve1 vn1 nvs1) (hR : RsD (fun b => b = g' ∨ FsK g ve vn b) w g' m vf' ve' vn' nvs' u) (ha : ∀ b, FsA g vf ve vn nvs b → b ≠ g') :
  RsD (fun b => b = g' ∨ FsK g ve1 vn1 b) w1 g' m vf' ve' vn' nvs' u ∧ ∀ b, FsA g vf ve1 vn1 nvs1 b → b ≠ g' := by
 have hg := hR.k.lt
 have hz := hS.f.size
 have hlt := hR.lt
 have ha1 : ∀ b, FsA g vf ve1 vn1 nvs1 b → b ≠ g' := fun b hb e => (hS.all hb).elim (fun hb => ha b hb e) fun hb => by omega
 have hoff : ∀ b, b < w.heap.size → ¬ (b = g' ∨ FsK g ve vn b) → ¬ (b = g' ∨ FsK g ve1 vn1 b) := fun b hb hn hb1 => hb1.elim (fun e => hn (.inl e)) fun h1 => (hS.k b h1).elim (fun h => hn (.inr h)) fun h => by omega
 refine ⟨⟨hR.toRsI.fr hS.f fun b hb hK => ?_, .inl rfl, fun b hb => ?_, fun b hb => hoff b (hlt b (.inl hb)) (hR.df b hb), fun b hb => hoff b (hlt b (.inr hb)) (hR.da b hb)⟩, ha1⟩
 ·rcases hb with hb | hb | hb
  ·exact ha b (FsA.of hK) hb
  ·exact hR.df b hb (.inr hK)
  ·exact hR.da b hb (.inr hK)
 ·rcases hb with hb | hb
  ·omega
  ·exact (hS.o.ltK hb).2
theorem two_end {w w1 w2 : World} {B g g' : Nat} {m1 : FsM} {vf ve1 vn1 vf' : Value} {nvs1 : List NdV} {t1 : Tre} (hS : FsO w1 B g m1 vf ve1 vn1 nvs1 t1) (hR : RsS (fun b => b = g' ∨ FsK g ve1 vn1 b) w1 g' vf' w2 m1 (nfT t1)) (ha : ∀ b, FsA g vf ve1 vn1 nvs1 b → b ≠ g') (hG : FsG t1) (hB : B ≤ g') (hc : 0 ≤ m1.calls) (hF : Fr (B ≤ ·) w w1) : Two B g g' m1 t1 w2 ∧ Fr (B ≤ ·) w w2 := by
 obtain ⟨ve2, vn2, nvs2, hI, hF2⟩ := hR
 exact ⟨⟨⟨vf, ve1, vn1, nvs1, vf', ve2, vn2, nvs2, hS.fr hF2 fun b hb e => ha b hb e, hI, ha⟩, hG, hB, hc⟩, hF.t (hF2.mono fun b _ hb => by have : b = g' := hb; rw [this]; exact hB)⟩
theorem write_fsg {m : FsM} {t : Tre} {p : Str} {pos : Int} {s : Str} (h : FsG t) (hc : 0 ≤ (begM m).2.2.calls) : FsG (writeT m t p pos s) := by
 unfold writeT
 split
 ·exact h
 ·exact change_fsg h hc fun n hn _ => ⟨writeN_ok hn _ _, writeN_kind _ _ _⟩
theorem size_fsg {m : FsM} {t : Tre} {p : Str} {z : Int} (h : FsG t) (hc : 0 ≤ (begM m).2.2.calls) : FsG (sizeT m t p z) := by
 unfold sizeT
 split
 ·exact h
 ·exact change_fsg h hc fun n hn _ => ⟨cutN_ok hn _, cutN_kind _ _⟩
theorem attN_node {l : List Att} {n : Nd} (hn : nodeOK n = true) (hm : metaOK (attN l n) = true) : nodeOK (attN l n) = true ∧ (attN l n).kind = n.kind := ⟨nodeOK_meta hn hm ⟨rfl, rfl, rfl, rfl, rfl, rfl⟩, rfl⟩
theorem aclN_node {l : List Ac} {n : Nd} (hn : nodeOK n = true) (hm : metaOK (aclN l n) = true) : nodeOK (aclN l n) = true ∧ (aclN l n).kind = n.kind := ⟨nodeOK_meta hn hm ⟨rfl, rfl, rfl, rfl, rfl, rfl⟩, rfl⟩
structure OpOK (w : World) (B : Nat) (o : OpV) : Prop where
 i : NdIn w o.n
 b : ∀ b, NdN o.n b → b < B
 pl : o.p.length ≤ 120
 ql : o.q.length ≤ 120
 sl : o.s.length ≤ 300
 nl : fewN o.n.n = true
theorem few_bytes : ∀ {l : List Pce}, l.all (fun p => decide (p.data.length ≤ 300)) = true → bytesP l ≤ 300 * l.length
 | [], _ => Nat.le_refl _
 | p :: r, h => by
  rw [List.all_cons, Bool.and_eq_true, decide_eq_true_eq] at h
  have := few_bytes h.2
  rw [bytesP, List.length_cons]
  have := h.1
  omega
theorem fewN_b {n : Nd} (h : fewN n = true) : bytesP n.data ≤ 1000000 ∧ n.target.length ≤ 1000000 ∧ n.attrs.length ≤ 100000 ∧ n.acl.length ≤ 100000 := by
 unfold fewN fewM at h
 simp only [Bool.and_eq_true, decide_eq_true_eq] at h
 have := few_bytes h.1.1.1
 omega
attribute [local irreducible] xs T
theorem do_does (w : World) (B g g' : Nat) (m : FsM) (t : Tre) (o : OpV) (h : Two B g g' m t w) (ho : OpOK w B o) (hcu : m.calls ≤ 1000000) :
  Does Tryz.prog 44 #[.pointer (some ⟨g, 0, none⟩), .pointer (some ⟨g', 0, none⟩), .agg (opC o).toArray] w fun r w' => ∃ e t' m', r = .tuple #[.int .i64 e, .int .i64 e] ∧ Two B g g' m' t' w' ∧ m'.calls ≤ m.calls + 1 ∧ Fr (B ≤ ·) w w' := by
 refine does3 Tryz.func44 rfl (by kernel_rfl) ?_
 obtain ⟨vf, ve, vn, nvs, vf', ve', vn', nvs', hO0, hR0, ha⟩ := h.il
 have hG := h.gl
 have hB := h.bl
 have hl100 := hG.f.g.len
 have hnl : t.ns.length ≤ 100 := by
  have h1 := nf_nsl hG
  have h2 := may_ns (nf_ts hG.f)
  have h3 := nf_len t
  omega
 have hcl := h.cl
 have hcc : 0 ≤ m.calls ∧ m.calls ≤ 4000000000000000000 := by omega
 have hbc := begM_calls m
 have hc1 : 0 ≤ (begM m).2.2.calls := by omega
 obtain ⟨f1, f2, f3, f4⟩ := fewN_b ho.nl
 have hgg : g ≠ g' := ha g (.inl rfl)
 have hBg := hO0.b
 have hgl := hO0.i.k.lt
 have hgl' := hR0.k.lt
 have hop := ho.pl
 have hoq := ho.ql
 have hos := ho.sl
 refine goL ?_
 refine xbox rfl (fun w1 hBx1 hE1 hs1 => ?_)
 have hBx : Blk w1 w.heap.size 91 (opC o).toArray := hBx1
 have k0 : w1.cell? ⟨w.heap.size, 0, none⟩ = some (.int .i64 o.z) := hBx.cell 0
 have hub := uN_lt o.z
 repeat' (first | refine xcv (r := ((uN o.z : Nat) : Int)) rfl rfl rfl (uN_eq o.z) ?_ | refine go1LU ?_ | fail)
 obtain ⟨k, hk⟩ : ∃ k : Int, k = ((uN o.z : Nat) : Int) % 13 := ⟨_, rfl⟩
 rw [← hk]
 have hk13 : 0 ≤ k ∧ k < 13 := by omega
 clear hk
 have hE1d : Ext w w1.drew := hE1.t (Fr.drew noneB w1)
 obtain ⟨wd, hwd⟩ : ∃ wd, wd = w1.drew := ⟨_, rfl⟩
 have hBd : Blk wd w.heap.size 91 (opC o).toArray := by rw [hwd]; exact hBx.ext (Fr.drew noneB w1)
 have hE : Ext w wd := by rw [hwd]; exact hE1d
 have hO := hO0.ext hE
 have hR := hR0.ext hE
 have hi := ho.i.ext hE
 have hF1 : Fr (B ≤ ·) w wd := hE.fr
 have hxB : ¬ FsK g ve vn w.heap.size := fun hK => by have := (hO0.ltK hK).2; omega
 have hxN := ho.b
 have hoN : ∀ b, NdN o.n b → ¬ FsK g ve vn b := fun b hb hK => by have := ho.b b hb; have := (hO0.ltK hK).1; omega
 have hbox : ∀ {w' : World} {m1 : FsM} {t1 : Tre} {ve1 vn1 : Value} {nvs1 : List NdV}, FsS wd B g vf ve vn nvs w' m1 t1 ve1 vn1 nvs1 → Blk w' w.heap.size 91 (opC o).toArray := fun hS => hBd.fr hS.f hxB
 have hND : ∀ {w' : World}, ∀ b, NdN o.n b → ∀ {ve1 vn1 : Value} {m1 : FsM} {t1 : Tre} {nvs1 : List NdV}, FsS wd B g vf ve vn nvs w' m1 t1 ve1 vn1 nvs1 → ¬ (b = g' ∨ FsK g ve1 vn1 b) := fun b hb _ _ _ _ _ hS hb' => by
  have h1 := hxN b hb
  rcases hb' with e | hK
  ·omega
  ·have := (hS.o.ltK hK).1; omega
 have hin1 : ∀ {w' : World} {m1 : FsM} {t1 : Tre} {ve1 vn1 : Value} {nvs1 : List NdV}, FsS wd B g vf ve vn nvs w' m1 t1 ve1 vn1 nvs1 → NdIn w' o.n := fun hS =>
  hi.frN hS.f hoN
 have hrefs : ∀ {w2 w3 : World}, Blk w2 w.heap.size 91 (opC o).toArray → Fr (· = g') w2 w3 → Blk w3 w.heap.size 91 (opC o).toArray := fun hb hF => hb.fr hF (show ¬ w.heap.size = g' by omega)
 by_cases h0 : k < 3
 ·skip
  refine goL ?_
  refine tdrawH [18, 20, 24, 26] (fun w' => Blk w' w.heap.size 91 (opC o).toArray) (by kernel_rfl) (by decide +kernel) (by rw [← hwd]; exact hBd) ?_
  rw [← hwd]
  refine gz25 ?_
  refine xcall rfl rfl (make_does wd B g m vf ve vn nvs t o.p o.n hO hi (fun b hb e => by have := hxN b hb; omega) f1 hcc (by omega) (by omega)) ?_ (fun r w' h => by obtain ⟨_, ve1, vn1, nvs1, hS⟩ := h; exact hbox hS)
  rintro r w2 ⟨rfl, ve1, vn1, nvs1, hS⟩
  obtain ⟨hR2, ha2⟩ := two_go hS hR ha
  have hBx2 := hbox hS
  refine gz25 ?_
  refine xcall rfl rfl (rmake_does w2 g' m vf' ve' vn' nvs' t o.p o.n hR2 hG (by omega) (hin1 hS) (fun b hb => hND b hb hS) f1 f2 hcc) ?_ (fun r w' h => by obtain ⟨_, _, _, _, _, hF⟩ := h; exact hrefs hBx2 hF)
  rintro r w3 ⟨rfl, hRS⟩
  obtain ⟨hT, hF3⟩ := two_end hS.o hRS ha2 (make_fsg hG hc1) hB hc1 (hF1.t (hS.frB hO))
  exact y14
 by_cases h1 : k = 3
 ·skip
  refine goL ?_
  refine tdrawH [33, 35, 39, 41] (fun w' => Blk w' w.heap.size 91 (opC o).toArray) (by kernel_rfl) (by decide +kernel) (by rw [← hwd]; exact hBd) ?_
  rw [← hwd]
  repeat' (first | refine xldh rfl rfl (fun _ h => h.cell 4) ?_ | refine xldh rfl rfl (fun _ h => h.cell 5) ?_ | refine go1L ?_ | fail)
  refine xcall rfl rfl (link_does wd B g m vf ve vn nvs t o.p o.q hO hcc (by omega)) ?_ (fun r w' h => by obtain ⟨_, ve1, nvs1, hS⟩ := h; exact hbox hS)
  rintro r w2 ⟨rfl, ve1, nvs1, hS⟩
  obtain ⟨hR2, ha2⟩ := two_go hS hR ha
  have hBx2 := hbox hS
  repeat' (first | refine xldh rfl rfl (fun _ h => h.cell 4) ?_ | refine xldh rfl rfl (fun _ h => h.cell 5) ?_ | refine go1L ?_ | fail)
  refine xcall rfl rfl (rlink_does w2 g' m vf' ve' vn' nvs' t o.p o.q hR2 hG (by omega) (by omega) hcc) ?_ (fun r w' h => by obtain ⟨_, _, _, _, _, hF⟩ := h; exact hrefs hBx2 hF)
  rintro r w3 ⟨rfl, hRS⟩
  obtain ⟨hT, hF3⟩ := two_end hS.o hRS ha2 (link_fsg hG hc1) hB hc1 (hF1.t (hS.frB hO))
  exact y14
 by_cases h2 : k < 6
 ·skip
  refine goL ?_
  refine tdrawH [48, 50, 52, 56, 58, 60] (fun w' => Blk w' w.heap.size 91 (opC o).toArray) (by kernel_rfl) (by decide +kernel) (by rw [← hwd]; exact hBd) ?_
  rw [← hwd]
  refine gz30 ?_
  refine xcall rfl rfl (writeA_does wd B g m vf ve vn nvs t o.p o.at_ o.s hO hcc (by omega)) ?_ (fun r w' h => by obtain ⟨_, nvs1, hS⟩ := h; exact hbox hS)
  rintro r w2 ⟨rfl, nvs1, hS⟩
  obtain ⟨hR2, ha2⟩ := two_go hS hR ha
  have hBx2 := hbox hS
  refine gz30 ?_
  refine xcall rfl rfl (rwrite7_does w2 g' m vf' ve' vn' nvs' t o.p o.at_ o.s hR2 hG (by omega) (by omega) hcc) ?_ (fun r w' h => by obtain ⟨_, _, _, _, _, hF⟩ := h; exact hrefs hBx2 hF)
  rintro r w3 ⟨rfl, hRS⟩
  obtain ⟨hT, hF3⟩ := two_end hS.o hRS ha2 (write_fsg hG hc1) hB hc1 (hF1.t (hS.frB hO))
  exact y14
 by_cases h3 : k = 6
 ·skip
  refine goL ?_
  refine tdrawH [67, 69, 73, 75] (fun w' => Blk w' w.heap.size 91 (opC o).toArray) (by kernel_rfl) (by decide +kernel) (by rw [← hwd]; exact hBd) ?_
  rw [← hwd]
  refine gz21 ?_
  refine xcall rfl rfl (size_does wd B g m vf ve vn nvs t o.p o.at_ hO hcc) ?_ (fun r w' h => by obtain ⟨_, nvs1, hS⟩ := h; exact hbox hS)
  rintro r w2 ⟨rfl, nvs1, hS⟩
  obtain ⟨hR2, ha2⟩ := two_go hS hR ha
  have hBx2 := hbox hS
  refine gz21 ?_
  refine xcall rfl rfl (rsize7_does w2 g' m vf' ve' vn' nvs' t o.p o.at_ hR2 hG (by omega) hcc) ?_ (fun r w' h => by obtain ⟨_, _, _, _, _, hF⟩ := h; exact hrefs hBx2 hF)
  rintro r w3 ⟨rfl, hRS⟩
  obtain ⟨hT, hF3⟩ := two_end hS.o hRS ha2 (size_fsg hG hc1) hB hc1 (hF1.t (hS.frB hO))
  exact y14
 by_cases h4 : k = 7
 ·skip
  refine goL ?_
  refine tdrawH [82, 84, 86, 90, 92, 94] (fun w' => Blk w' w.heap.size 91 (opC o).toArray) (by kernel_rfl) (by decide +kernel) (by rw [← hwd]; exact hBd) ?_
  rw [← hwd]
  refine gz31 ?_
  refine xcall rfl rfl (own_does wd B g m vf ve vn nvs t o.p o.a o.b hO hcc) ?_ (fun r w' h => by obtain ⟨_, nvs1, hS⟩ := h; exact hbox hS)
  rintro r w2 ⟨rfl, nvs1, hS⟩
  obtain ⟨hR2, ha2⟩ := two_go hS hR ha
  have hBx2 := hbox hS
  refine gz31 ?_
  refine xcall rfl rfl (rown_does w2 g' m vf' ve' vn' nvs' t o.p o.a o.b hR2 hG (by omega) hcc) ?_ (fun r w' h => by obtain ⟨_, _, _, _, _, hF⟩ := h; exact hrefs hBx2 hF)
  rintro r w3 ⟨rfl, hRS⟩
  obtain ⟨hT, hF3⟩ := two_end hS.o hRS ha2 (set_fsg hG fun n hn _ hm => own_node hn hm) hB hc1 (hF1.t (hS.frB hO))
  exact y14
 by_cases h5 : k = 8
 ·skip
  refine goL ?_
  refine tdrawH [101, 103, 107, 109] (fun w' => Blk w' w.heap.size 91 (opC o).toArray) (by kernel_rfl) (by decide +kernel) (by rw [← hwd]; exact hBd) ?_
  rw [← hwd]
  repeat' (first | refine xldh rfl rfl (fun _ h => h.cell 4) ?_ | refine xldh rfl rfl (fun _ h => h.cell 1) ?_ | refine go1L ?_ | fail)
  refine xcall rfl rfl (mode_does wd B g m vf ve vn nvs t o.p o.a hO hcc) ?_ (fun r w' h => by obtain ⟨_, nvs1, hS⟩ := h; exact hbox hS)
  rintro r w2 ⟨rfl, nvs1, hS⟩
  obtain ⟨hR2, ha2⟩ := two_go hS hR ha
  have hBx2 := hbox hS
  repeat' (first | refine xldh rfl rfl (fun _ h => h.cell 4) ?_ | refine xldh rfl rfl (fun _ h => h.cell 1) ?_ | refine go1L ?_ | fail)
  refine xcall rfl rfl (rmode_does w2 g' m vf' ve' vn' nvs' t o.p o.a hR2 hG (by omega) hcc) ?_ (fun r w' h => by obtain ⟨_, _, _, _, _, hF⟩ := h; exact hrefs hBx2 hF)
  rintro r w3 ⟨rfl, hRS⟩
  obtain ⟨hT, hF3⟩ := two_end hS.o hRS ha2 (set_fsg hG fun n hn _ hm => mode_node hn hm) hB hc1 (hF1.t (hS.frB hO))
  exact y14
 by_cases h6 : k = 9
 ·skip
  refine goL ?_
  refine tdrawH [116, 118, 122, 124] (fun w' => Blk w' w.heap.size 91 (opC o).toArray) (by kernel_rfl) (by decide +kernel) (by rw [← hwd]; exact hBd) ?_
  rw [← hwd]
  refine gz21 ?_
  refine xcall rfl rfl (time_does wd B g m vf ve vn nvs t o.p o.at_ hO hcc) ?_ (fun r w' h => by obtain ⟨_, nvs1, hS⟩ := h; exact hbox hS)
  rintro r w2 ⟨rfl, nvs1, hS⟩
  obtain ⟨hR2, ha2⟩ := two_go hS hR ha
  have hBx2 := hbox hS
  refine gz21 ?_
  refine xcall rfl rfl (rtime_does w2 g' m vf' ve' vn' nvs' t o.p o.at_ hR2 hG (by omega) hcc) ?_ (fun r w' h => by obtain ⟨_, _, _, _, _, hF⟩ := h; exact hrefs hBx2 hF)
  rintro r w3 ⟨rfl, hRS⟩
  obtain ⟨hT, hF3⟩ := two_end hS.o hRS ha2 (set_fsg hG fun n hn _ hm => time_node hn hm) hB hc1 (hF1.t (hS.frB hO))
  exact y14
 by_cases h7 : k = 10
 ·skip
  refine goL ?_
  refine tdrawH [131, 135, 139, 143] (fun w' => Blk w' w.heap.size 91 (opC o).toArray) (by kernel_rfl) (by decide +kernel) (by rw [← hwd]; exact hBd) ?_
  rw [← hwd]
  repeat' (first | refine xldh rfl rfl (fun _ h => h.cell 4) ?_ | refine xldh rfl rfl (fun _ h => h.cell 12) ?_ | refine go1L ?_ | fail)
  refine xcall rfl rfl (attrs_does wd B g m vf ve vn nvs t o.p o.n.va o.n.n.attrs hO hcc hi.a (fun b hb => by have := ho.b b (.inl hb); omega) f3) ?_ (fun r w' h => by obtain ⟨_, nvs1, hS⟩ := h; exact hbox hS)
  rintro r w2 ⟨rfl, nvs1, hS⟩
  obtain ⟨hR2, ha2⟩ := two_go hS hR ha
  have hBx2 := hbox hS
  repeat' (first | refine xldh rfl rfl (fun _ h => h.cell 4) ?_ | refine xldh rfl rfl (fun _ h => h.cell 12) ?_ | refine go1L ?_ | fail)
  refine xcall rfl rfl (rattrs_does w2 g' m vf' ve' vn' nvs' t o.p o.n.va o.n.n.attrs hR2 hG (by omega) hcc (hin1 hS).a (fun b hb => by have := ho.b b (.inl hb); omega) f3) ?_ (fun r w' h => by obtain ⟨_, _, _, _, _, hF⟩ := h; exact hrefs hBx2 hF)
  rintro r w3 ⟨rfl, hRS⟩
  obtain ⟨hT, hF3⟩ := two_end hS.o hRS ha2 (set_fsg hG fun n hn _ hm => attN_node hn hm) hB hc1 (hF1.t (hS.frB hO))
  exact y14
 by_cases h8 : k = 11
 ·skip
  refine goL ?_
  refine tdrawH [150, 154, 158, 162] (fun w' => Blk w' w.heap.size 91 (opC o).toArray) (by kernel_rfl) (by decide +kernel) (by rw [← hwd]; exact hBd) ?_
  rw [← hwd]
  repeat' (first | refine xldh rfl rfl (fun _ h => h.cell 4) ?_ | refine xldh rfl rfl (fun _ h => h.cell 13) ?_ | refine go1L ?_ | fail)
  refine xcall rfl rfl (acl_does wd B g m vf ve vn nvs t o.p o.n.vc o.n.n.acl hO hcc hi.c (fun b hb => by have := ho.b b (.inr (.inl hb)); omega) f4) ?_ (fun r w' h => by obtain ⟨_, nvs1, hS⟩ := h; exact hbox hS)
  rintro r w2 ⟨rfl, nvs1, hS⟩
  obtain ⟨hR2, ha2⟩ := two_go hS hR ha
  have hBx2 := hbox hS
  repeat' (first | refine xldh rfl rfl (fun _ h => h.cell 4) ?_ | refine xldh rfl rfl (fun _ h => h.cell 13) ?_ | refine go1L ?_ | fail)
  refine xcall rfl rfl (racl_does w2 g' m vf' ve' vn' nvs' t o.p o.n.vc o.n.n.acl hR2 hG (by omega) hcc (hin1 hS).c (fun b hb => by have := ho.b b (.inr (.inl hb)); omega) f4) ?_ (fun r w' h => by obtain ⟨_, _, _, _, _, hF⟩ := h; exact hrefs hBx2 hF)
  rintro r w3 ⟨rfl, hRS⟩
  obtain ⟨hT, hF3⟩ := two_end hS.o hRS ha2 (set_fsg hG fun n hn _ hm => aclN_node hn hm) hB hc1 (hF1.t (hS.frB hO))
  exact y14
 refine goL ?_
 refine tdrawH [166, 170] (fun w' => Blk w' w.heap.size 91 (opC o).toArray) (by kernel_rfl) (by decide +kernel) (by rw [← hwd]; exact hBd) ?_
 rw [← hwd]
 refine gz39 ?_
 refine xcall rfl rfl (gone_does wd B g m vf ve vn nvs t o.p hO hcc (by obtain ⟨e, he, h1, _⟩ := hG.f.g.root; exact ⟨e, he, h1⟩)) ?_ (fun r w' h => by obtain ⟨_, ve1, vn1, nvs1, hS⟩ := h; exact hbox hS)
 rintro r w2 ⟨rfl, ve1, vn1, nvs1, hS⟩
 obtain ⟨hR2, ha2⟩ := two_go hS hR ha
 have hBx2 := hbox hS
 refine gz39 ?_
 refine xcall rfl rfl (rgone_does w2 g' m vf' ve' vn' nvs' t o.p hR2 hG (by omega) hcc) ?_ (fun r w' h => by obtain ⟨_, _, _, _, _, hF⟩ := h; exact hrefs hBx2 hF)
 rintro r w3 ⟨rfl, hRS⟩
 obtain ⟨hT, hF3⟩ := two_end hS.o hRS ha2 (gone_fsg hG hc1) hB hc1 (hF1.t (hS.frB hO))
 exact y14
end
section
def fewO (o : OpV) : Bool := decide (o.p.length ≤ 120) && decide (o.q.length ≤ 120) && decide (o.s.length ≤ 300) && fewN o.n.n
def fewL (l : List OpV) (k : Int) : Bool := l.all fewO && decide ((l.length : Int) ≤ k)
attribute [local irreducible] xs T
theorem few7_does (w : World) (v : Value) (l : List OpV) (k : Int) (hv : Rw opC w v l) (hin : ∀ o ∈ l, NdIn w o.n) : Does Tryz.prog 43 #[v, .int .i64 k] w fun r w' => r = .bool (fewL l k) ∧ Ext w w' := by
 refine does2 Tryz.func43 rfl (by kernel_rfl) ?_
 obtain ⟨A, c, rfl, hc1, hc2, hA⟩ := hv.op opC_len
 refine goL ?_
 refine tloop (α := Nat) (fun i => [(0, .slice A l.length c), (1, .int .i64 k), (5, .int .i64 (i : Int))]) (fun i w' => Ext w w' ∧ i ≤ l.length ∧ ((l.drop i).all fewO && decide ((l.length : Int) ≤ k)) = fewL l k) (fun i => l.length - i) 0 (sub ⟨rfl, rfl, rfl⟩) ⟨Fr.refl _ _, Nat.zero_le _, rfl⟩ ?_
 rintro i w1 ⟨hE, hi, hgo⟩
 by_cases hlt : i < l.length
 ·obtain ⟨b, o, y, rfl, _, hy, _, hcell⟩ := hA.at_ hlt
  have c4 : w1.cell? ⟨b, o + i * 19 + 4, none⟩ = some (.string (su y.p)) := hE.eel.cell (hcell 4 _ rfl)
  have c5 : w1.cell? ⟨b, o + i * 19 + 5, none⟩ = some (.string (su y.q)) := hE.eel.cell (hcell 5 _ rfl)
  have c6 : w1.cell? ⟨b, o + i * 19 + 6, none⟩ = some (.string (su y.s)) := hE.eel.cell (hcell 6 _ rfl)
  rw [all_drop hy] at hgo
  by_cases h1 : y.p.length ≤ 120
  ·by_cases h2 : y.q.length ≤ 120
   ·by_cases h3 : y.s.length ≤ 300
    ·have hf : fewO y = fewN y.n.n := by simp [fewO, h1, h2, h3]
     rw [hf] at hgo
     repeat' (first | refine xizq i (o + i * 19) rfl rfl rfl rfl rfl hlt ?_ | refine xuln rfl rfl ?_ | refine xldz (cs := ndC y.n) rfl (by kernel_rfl) (fun j u hu => by have := hE.eel.cell (hcell (7 + j) u (by rw [opC_nd]; exact hu)); rw [← Nat.add_assoc] at this; exact this) ?_ | refine go1L ?_ | fail)
     refine xcallE rfl rfl (few5_does w1 y.n ((hin y (List.mem_of_getElem? hy)).ext hE)) (fun r w2 h2 => ?_)
     obtain ⟨rfl, hE2⟩ := h2
     cases hn : fewN y.n.n with
     | true =>
      rw [hn, Bool.true_and] at hgo
      refine goL ?_
      exact tfin ⟨i + 1, sub ⟨rfl, rfl, rfl⟩, ⟨hE.t hE2, hlt, hgo⟩, (by show l.length - (i + 1) < l.length - i; omega)⟩
     | false =>
      rw [hn] at hgo
      refine goL ?_
      exact tret1 rfl rfl ⟨by rw [← hgo]; simp, hE.t hE2⟩
    ·have hf : fewO y = false := by simp [fewO, h3]
     exact y66
   ·have hf : fewO y = false := by simp [fewO, h2]
    exact y66
  ·have hf : fewO y = false := by simp [fewO, h1]
   exact y66
 ·obtain rfl : i = l.length := by omega
  rw [List.drop_length, List.all_nil, Bool.true_and] at hgo
  by_cases h1 : (l.length : Int) ≤ k
  ·rw [decide_eq_true h1] at hgo
   refine goL ?_
   exact y29
  ·rw [decide_eq_false h1] at hgo
   refine goL ?_
   exact y29
theorem same7_does (w : World) (B g g' : Nat) (m : FsM) (t : Tre) (h : Two B g g' m t w) : Does Tryz.prog 45 #[.pointer (some ⟨g, 0, none⟩), .pointer (some ⟨g', 0, none⟩)] w fun r w' => r = .bool true ∧ Ext w w' := by
 refine does2 Tryz.func45 rfl (by kernel_rfl) ?_
 obtain ⟨vf, ve, vn, nvs, vf', ve', vn', nvs', hO0, hR0, ha⟩ := h.il
 have hG := h.gl
 have hE0 : Ext w w.drew := Fr.drew noneB w
 obtain ⟨wd, hwd⟩ : ∃ wd, wd = w.drew := ⟨_, rfl⟩
 rw [← hwd] at hE0
 have hO := hO0.ext hE0
 have hR := hR0.ext hE0
 refine goL ?_
 refine tdrawH [10, 18, 27, 36] (fun w' => Blk w' g' 43 (rsC m vf' ve' vn')) (by kernel_rfl) (by decide +kernel) (by rw [← hwd]; exact hR.k) ?_
 rw [← hwd]
 refine goL ?_
 refine xcall rfl rfl (tree_does wd g m vf ve vn nvs t (nfT t) hO.i (nf_norm hG.f)) ?_ (fun r w' h => by obtain ⟨_, _, _, _, _, hE⟩ := h; exact hR.k.ext hE)
 rintro r w2 ⟨ve2, vn2, nvs2, rfl, hT2, hE2⟩
 have hR2 := hR.ext hE2
 repeat' (first | refine xldzh (cs := [ve', vn']) rfl (by kernel_rfl) (fun w' h => rs_tree h) ?_ | refine go1L ?_ | fail)
 refine xcall rfl rfl (alike_does w2 ve2 vn2 ve' vn' nvs2 nvs' (nfT t) (nfT t) hT2.v hR2.tr) ?_ (fun r w' h => by obtain ⟨_, hE⟩ := h; exact hR2.k.ext hE)
 rintro r w3 ⟨rfl, hE3⟩
 rw [alikeT_same]
 have hO3 := (hO.ext hE2).ext hE3
 have hR3 := hR2.ext hE3
 refine goL ?_
 refine xcall rfl rfl (calls_does w3 g m vf ve vn hO3.i.k) ?_ (fun r w' h => by obtain ⟨_, rfl⟩ := h; exact hR3.k)
 rintro r w4 ⟨rfl, rfl⟩
 refine gz39 ?_
 refine xcall rfl rfl (clock_does w3 g m vf ve vn hO3.i.k) ?_ (fun r w' h => by obtain ⟨_, rfl⟩ := h; exact hR3.k)
 rintro r w4 ⟨rfl, rfl⟩
 refine gz39 ?_
 refine xcall rfl rfl (used_does w3 g m vf ve vn nvs t hO3.i) ?_ (fun r w' h => by obtain ⟨_, hE⟩ := h; exact hR3.k.ext hE)
 rintro r w4 ⟨rfl, hE4⟩
 have hR4 := hR3.ext hE4
 repeat' (first | refine xldzh (cs := [ve', vn']) rfl (by kernel_rfl) (fun w' h => rs_tree h) ?_ | refine go1L ?_ | fail)
 refine xcall rfl rfl (rtotal_does w4 ve' vn' nvs' (nfT t) hR4.tr hR4.s.b hR4.ln) ?_ (fun r w' h => by obtain ⟨_, hE⟩ := h; exact hR4.k.ext hE)
 rintro r w5 ⟨rfl, hE5⟩
 rw [nf_total hG]
 refine goL ?_
 exact tret1 rfl rfl ⟨rfl, (((hE0.t hE2).t hE3).t hE4).t hE5⟩
end
section
theorem Ext.of_ge {w w' : World} (h : Fr (w.heap.size ≤ ·) w w') : Ext w w' := (Fr.refl noneB w).trans h fun j hj e => absurd (show w.heap.size ≤ j from e) (Nat.not_le.2 hj)
def gN (m : FsM) (t : Tre) (p : Str) : Nd := if getE m t p = 0 then nodeAt t (findM t p).1 else default
structure TwoX (B g g' : Nat) (m m0 : FsM) (t : Tre) (w : World) : Prop where
 il : ∃ vf ve vn nvs vf' ve' vn' nvs', FsO w B g m vf ve vn nvs t ∧ RsD (fun b => b = g' ∨ FsK g ve vn b) w g' m0 vf' ve' vn' nvs' (nfT t) ∧ ∀ b, FsA g vf ve vn nvs b → b ≠ g'
 gl : FsG t
 bl : B ≤ g'
 cl : 0 ≤ m0.calls
theorem TwoX.ext {B g g' : Nat} {m m0 : FsM} {t : Tre} {w w' : World} (h : TwoX B g g' m m0 t w) (hE : Ext w w') : TwoX B g g' m m0 t w' := by
 exact y73
theorem Two.lt {B g g' : Nat} {m : FsM} {t : Tre} {w : World} (h : Two B g g' m t w) : B ≤ g ∧ g < w.heap.size ∧ g' < w.heap.size ∧ g ≠ g' := by
 obtain ⟨vf, ve, vn, nvs, vf', ve', vn', nvs', hO, hR, ha⟩ := h.il
 exact ⟨hO.b, hO.i.k.lt, hR.k.lt, ha g (.inl rfl)⟩
theorem RsD.again {D : Nat → Prop} {w w' : World} {g : Nat} {m m' : FsM} {vf ve vn : Value} {nvs : List NdV} {t : Tre} (h : RsD D w g m vf ve vn nvs t) (hF : Fr (· = g) w w') (hI : RsI w' g m' vf ve vn nvs t) (hf : m'.flts = m.flts) : RsD D w' g m' vf ve vn nvs t :=
 ⟨hI, h.dg, fun b hb => Nat.lt_of_lt_of_le (h.dl b hb) hF.size, by rw [hf]; exact h.df, h.da⟩
def PlI (B g g' : Nat) (n : Nat) (w2 : World) (i : Nat) (w' : World) : Prop := i ≤ n ∧ Fr (B ≤ ·) w2 w' ∧ ∃ m t, Two B g g' m t w' ∧ m.calls ≤ 4 * i
theorem few_op {w w' : World} {B : Nat} {l : List OpV} {k : Int} (hf : fewL l k = true) (hin : ∀ o ∈ l, NdIn w o.n) (hF : Fr (B ≤ ·) w w') (hB : w.heap.size ≤ B) {y : OpV} (hy : y ∈ l) : OpOK w' B y := by
 unfold fewL fewO at hf
 simp only [Bool.and_eq_true, List.all_eq_true, decide_eq_true_eq] at hf
 obtain ⟨⟨⟨h1, h2⟩, h3⟩, h4⟩ := hf.1 y hy
 have hb : ∀ b, NdN y.n b → b < B := fun b hb => Nat.lt_of_lt_of_le ((hin y hy).ltN hb) hB
 exact ⟨(hin y hy).frN hF fun b h => Nat.not_le.2 (hb b h), hb, h1, h2, h3, h4⟩
theorem two_init {w0 w1 w2 : World} {g g' : Nat} {m : FsM} {t : Tre} {vf ve vn vf' ve' vn' : Value} {nvs nvs' : List NdV} (hO : FsO w1 w0.heap.size g m vf ve vn nvs t) (hE : Ext w1 w2) (hG : FsG t) (hn : nfT t = t) (hc : 0 ≤ m.calls) (hR : RsI w2 g' m vf' ve' vn' nvs' t) (hg' : w1.heap.size ≤ g') (hfr : ∀ b, RwK vf' m.flts b → w1.heap.size ≤ b) (htr : ∀ b, TrN ve' vn' nvs' t b → w1.heap.size ≤ b ∨ b < w0.heap.size) : Two w0.heap.size g g' m t w2 := by
 have hz := hE.size
 have hD : RsD (fun b => b = g' ∨ FsK g ve vn b) w2 g' m vf' ve' vn' nvs' t := by
  refine ⟨hR, .inl rfl, fun b hb => ?_, fun b hb hd => ?_, fun b hb hd => ?_⟩
  ·rcases hb with rfl | hb
   ·exact hR.k.lt
   ·have := (hO.ltK hb).2; omega
  ·rcases hd with hd | hd
   ·exact hR.af b hb hd
   ·have := (hO.ltK hd).2; have := hfr b hb; omega
  ·rcases hd with hd | hd
   ·exact hR.a b hb hd
   ·have := hO.ltK hd; have := htr b hb; omega
 refine ⟨⟨vf, ve, vn, nvs, vf', ve', vn', nvs', hO.ext hE, by rw [hn]; exact hD, fun b hb e => ?_⟩, hG, ?_, hc⟩
 ·have := (hO.blk hb).2; omega
 ·have := hO.b; have := hO.i.k.lt; omega
attribute [local irreducible] xs T
end
section
attribute [local irreducible] xs T
theorem fsFrom_core (w : World) (ve vn v : Value) (nvs : List NdV) (t0 : Tre) (q : Int) (l : List OpV) (ht : TrV w ve vn nvs t0) (hv : Rw opC w v l) (hin : ∀ o ∈ l, NdIn w o.n) : Does Tryz.prog 12 #[.agg #[ve, vn], .int .i64 q, v] w fun r w' => r = .bool true ∧ Ext w w' := by
 refine does3 Tryz.func12 rfl (by kernel_rfl) ?_
 have hv0 := hv
 obtain ⟨A, c, rfl, hc1, hc2, hA⟩ := hv.op opC_len
 refine goL ?_
 refine xbox rfl (fun w1 hB1 hE1 hs1 => ?_)
 have hB1' : Blk w1 w.heap.size 29 #[ve, vn] := hB1
 refine goL ?_
 refine xlda (t := 29) hB1' rfl rfl ?_
 refine goL ?_
 refine xcall rfl rfl (few6_does w1 ve vn nvs t0 (ht.ext hE1)) ?_
 rintro r w2 ⟨rfl, hE2⟩
 have hE02 := hE1.t hE2
 cases hft : fewT t0 with
 | false =>
  refine goL ?_
  refine xcall rfl rfl (told7_does w2) ?_
  rintro r w3 ⟨rfl, hE3⟩
  refine goL ?_
  exact tret1 rfl rfl ⟨rfl, hE02.t hE3⟩
 | true =>
 refine goL ?_
 refine xcall rfl rfl (few7_does w2 _ l 20 (hv0.ext hE02) (fun o ho => (hin o ho).ext hE02)) ?_
 rintro r w3 ⟨rfl, hE3⟩
 have hE03 := hE02.t hE3
 cases hfew : fewL l 20 with
 | false =>
  refine goL ?_
  refine xcall rfl rfl (told7_does w3) ?_
  rintro r w4 ⟨rfl, hE4⟩
  refine goL ?_
  exact tret1 rfl rfl ⟨rfl, hE03.t hE4⟩
 | true =>
 have hl40 : l.length ≤ 20 := by
  unfold fewL at hfew
  simp only [Bool.and_eq_true, decide_eq_true_eq] at hfew
  omega
 obtain ⟨ok1, ok2, ok3, le, ln⟩ := few_ok hft
 refine goL ?_
 refine xlda (t := 29) ((hB1'.ext hE2).ext hE3) rfl rfl ?_
 refine goL ?_
 refine xcall rfl rfl (from_does w3 ve vn (.slice none 0 0) nvs t0 q [] (ht.ext hE03) (Rw.nil _ _ (by decide)) ok2 ok1 (by omega) (by omega) (by decide)) ?_
 rintro r w4 ⟨p, rfl, hE4, hr⟩
 have hE04 := hE03.t hE4
 refine goL ?_
 refine xlda (t := 29) (((hB1'.ext hE2).ext hE3).ext hE4) rfl rfl ?_
 refine goL ?_
 refine xcall rfl rfl (rsfrom_does w4 ve vn (.slice none 0 0) nvs t0 q [] (ht.ext hE04) (Rw.nil _ _ (by decide)) ok3 (by omega) (by omega) (by decide)) ?_
 rintro r w5 ⟨p', rfl, hE5, hr2⟩
 have hE05 := hE04.t hE5
 rcases hr with ⟨hn, rfl⟩ | ⟨hn, g, vf1, ve1, vn1, nvs1, rfl, hO1⟩
 ·rcases hr2 with ⟨_, rfl⟩ | ⟨hn2, _⟩
  ·repeat' (first | refine xbne rfl rfl ?_ | refine go1L ?_ | fail)
   refine xcall rfl rfl (told7_does w5) ?_
   rintro r w6 ⟨rfl, hE6⟩
   refine goL ?_
   exact tret1 rfl rfl ⟨rfl, hE05.t hE6⟩
  ·exact absurd hn2 hn
 rcases hr2 with ⟨hn2, _⟩ | ⟨_, g', vf2, ve2, vn2, nvs2, rfl, hR2, hg2, hr2, hy2⟩
 ·exact absurd hn hn2
 have hm : mayT t0 = true := by
  unfold fromE at hn
  split at hn
  ·exact absurd hn (by decide)
  ·rename_i h
   cases hm : mayT t0 with
   | true => rfl
   | false => exact absurd (.inr (.inr hm)) h
 have hG := may_fsg hm
 have hnf : nfT t0 = t0 := Option.some.inj ((nf_norm hG.f).symm.trans (norm_same hm))
 have hz := hE03.size
 have hT2 : Two w3.heap.size g g' ⟨q, [], 0, false⟩ t0 w5 := two_init hO1 hE5 hG hnf (by show (0 : Int) ≤ 0; decide) hR2 hg2 (fun b hb => hr2 b (.inl hb)) (fun b hb => by
  rcases hb with hb | hb | ⟨x, hx, hb⟩
  ·exact .inl (hr2 b (.inr (.inl hb)))
  ·exact .inl (hr2 b (.inr (.inr hb)))
  ·have := (ht.i x (hy2 x hx)).ltN hb
   exact .inr (by omega))
 repeat' (first | refine xbne rfl rfl ?_ | refine go1L ?_ | fail)
 refine tloop (α := Nat) (fun i => [(2, .slice A l.length c), (7, .pointer (some ⟨g, 0, none⟩)), (9, .pointer (some ⟨g', 0, none⟩)), (11, .int .i64 (i : Int))]) (PlI w3.heap.size g g' l.length w5) (fun i => l.length - i) 0 (sub ⟨rfl, rfl, rfl, rfl⟩) ⟨Nat.zero_le _, Fr.refl _ _, _, _, hT2, by show (0 : Int) ≤ 4 * ((0 : Nat) : Int); decide⟩ ?_
 rintro i y0 ⟨hi, hF0, m, t, hT, hcm⟩
 have hFw : Fr (w3.heap.size ≤ ·) w y0 := (Ext.fr hE05).t hF0
 by_cases hlt : i < l.length
 case neg =>
  refine goL ?_
  refine xcall rfl rfl (told7_does y0) ?_
  rintro r w4 ⟨rfl, hE4⟩
  refine goL ?_
  exact tret1 rfl rfl ⟨rfl, Ext.of_ge ((hFw.mono fun _ _ h => Nat.le_trans hz h).te hE4)⟩
 obtain ⟨b, o, y, rfl, hb, hy, _, hcell⟩ := hA.at_ hlt
 have hym := List.mem_of_getElem? hy
 have hbn : ¬ w3.heap.size ≤ b := Nat.not_le.2 (Nat.lt_of_lt_of_le hb hz)
 repeat' (first | refine xizq i (o + i * 19) rfl rfl rfl rfl rfl hlt ?_ | refine xldz (cs := opC y) rfl (by kernel_rfl) (fun j u hu => hFw.cell (hcell j u hu) hbn) ?_ | refine go1L ?_ | fail)
 refine xcall rfl rfl (do_does y0 w3.heap.size g g' m t y hT (few_op hfew hin hFw hz hym) (by omega)) ?_
 rintro r y1 ⟨e, t1, m1, rfl, hT1, hc1', hF1⟩
 refine goL ?_
 refine xcall rfl rfl (same7_does y1 w3.heap.size g g' m1 t1 hT1) ?_
 rintro r y2 ⟨rfl, hE12⟩
 refine goL ?_
 exact tfin ⟨i + 1, sub ⟨rfl, rfl, rfl, rfl⟩, ⟨hlt, (hF0.t hF1).te hE12, _, _, hT1.ext hE12, by omega⟩, (by show l.length - (i + 1) < l.length - i; omega)⟩
end
section
open Go.ChangeShapes Go.WideShapes Go.ChangeAt Go.RowKit
set_option maxRecDepth 100000
variable {H : Type} {enc : TypeId × Value → H} {W : World} {v : Value} {d : DataW H} {p : List MemPlace} {base : Nat}
theorem op_of (n : Nat) (cs : List Value) (y : DataW H × List MemPlace) (h : DataW.trod enc Tryz.prog W 0 (fun _ => true) true n 91 cs = some y) : ∃ x : OpV, cs = opC x ∧ NdIn W x.n := by
 obtain ⟨hl, m, hf⟩ := fld_of Tryz.underlying91 h
 obtain ⟨y0, h0⟩ := hf 0 _ rfl
 obtain ⟨y1, h1⟩ := hf 1 _ rfl
 obtain ⟨y2, h2⟩ := hf 2 _ rfl
 obtain ⟨y3, h3⟩ := hf 3 _ rfl
 obtain ⟨y4, h4⟩ := hf 4 _ rfl
 obtain ⟨y5, h5⟩ := hf 5 _ rfl
 obtain ⟨y6, h6⟩ := hf 6 _ rfl
 obtain ⟨y7, h7⟩ := hf 7 _ rfl
 rw [show Tryz.prog.cellsOf 91 = 19 by kernel_rfl] at hl
 obtain ⟨z, hz⟩ := fld_int Tryz.underlying3 cInt h0
 obtain ⟨a, ha⟩ := fld_int Tryz.underlying3 cInt h1
 obtain ⟨b, hb⟩ := fld_int Tryz.underlying3 cInt h2
 obtain ⟨k, hk⟩ := fld_int Tryz.underlying2 cI64 h3
 obtain ⟨s4, hs4⟩ := fld_str Tryz.underlying9 cStr h4
 obtain ⟨s5, hs5⟩ := fld_str Tryz.underlying9 cStr h5
 obtain ⟨s6, hs6⟩ := fld_str Tryz.underlying9 cStr h6
 obtain ⟨x, hx, hin⟩ := nd_of _ _ _ h7
 have hx0 : List.take (Tryz.prog.cellsOf 67) (List.drop 7 cs) = ndC x := hx
 rw [show Tryz.prog.cellsOf 67 = 12 by kernel_rfl] at hx0
 clear hx
 refine ⟨⟨z, a, b, k, s4, s5, s6, x⟩, ?_, hin⟩
 match cs, hl with
 | [x0, x1, x2, x3, x4, x5, x6, x7, x8, x9, x10, x11, x12, x13, x14, x15, x16, x17, x18], _ =>
  obtain rfl : x0 = _ := Option.some.inj hz
  obtain rfl : x1 = _ := Option.some.inj ha
  obtain rfl : x2 = _ := Option.some.inj hb
  obtain rfl : x3 = _ := Option.some.inj hk
  obtain rfl : x4 = _ := Option.some.inj hs4
  obtain rfl : x5 = _ := Option.some.inj hs5
  obtain rfl : x6 = _ := Option.some.inj hs6
  unfold opC
  rw [← hx0]
  rfl
theorem oprow_of (hval : Value.okWide Tryz.prog W .any base 85 v) (h : DataW.Trod enc Tryz.prog W 0 (fun _ => true) true 85 v d p) : ∃ l : List OpV, Rw opC W v l ∧ ∀ x ∈ l, NdIn W x.n := by
 obtain ⟨a0, len, cap, rfl⟩ := okWide_slice Tryz.underlying85 hval
 obtain ⟨fuel, hf⟩ := h
 exact rw_of Tryz.underlying85 (by kernel_rfl) (by decide) opC_len op_of (v := .slice a0 len cap) hf
end
end Go.Proofs.YtiebbecknfpdeaaGreatDoor.Eng
