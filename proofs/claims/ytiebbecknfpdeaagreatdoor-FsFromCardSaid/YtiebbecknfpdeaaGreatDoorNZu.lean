/-
  Parts of the proof: Zu.
-/
import Derived.Test.YtiebbecknfpdeaaGreatDoorNB0b
import Derived.Test.YtiebbecknfpdeaaGreatDoorNB10
import Derived.Test.YtiebbecknfpdeaaGreatDoorNB2
import Derived.Test.YtiebbecknfpdeaaGreatDoorNYa
import Derived.Test.YtiebbecknfpdeaaGreatDoorNZj
set_option maxRecDepth 100000
set_option maxHeartbeats 64000000
namespace Go.Proofs.YtiebbecknfpdeaaGreatDoor.Eng
open Go.RowKit
section
theorem tscpe {P : Program} {fn : Func} {R : Value → World → Prop} {k : List It} {env : Env} {w : World} {J : Nat → Env → World → Prop} (h : T P fn R k env w) : T P fn R (.scp J :: k) env w := fun a ha => h a ha
def FsK (g : Nat) (ve vn : Value) (b : Nat) : Prop := b = g ∨ ve.ownBlock = some b ∨ vn.ownBlock = some b
def NdB (x : NdV) (b : Nat) : Prop := x.va.ownBlock = some b ∨ x.vc.ownBlock = some b ∨ x.vd.ownBlock = some b
structure FsS (w : World) (B g : Nat) (vf ve vn : Value) (nvs : List NdV) (w' : World) (m' : FsM) (t' : Tre) (ve' vn' : Value) (nvs' : List NdV) : Prop where
 o : FsO w' B g m' vf ve' vn' nvs' t'
 f : Fr (FsK g ve vn) w w'
 k : ∀ b, FsK g ve' vn' b → FsK g ve vn b ∨ w.heap.size ≤ b
 n : ∀ x ∈ nvs', ∀ b, NdB x b → (∃ y ∈ nvs, NdB y b) ∨ w.heap.size ≤ b
theorem FsS.t {w w1 w2 : World} {B g : Nat} {vf ve vn ve1 vn1 ve2 vn2 : Value} {nvs nvs1 nvs2 : List NdV} {m1 m2 : FsM} {t1 t2 : Tre} (h1 : FsS w B g vf ve vn nvs w1 m1 t1 ve1 vn1 nvs1) (h2 : FsS w1 B g vf ve1 vn1 nvs1 w2 m2 t2 ve2 vn2 nvs2) : FsS w B g vf ve vn nvs w2 m2 t2 ve2 vn2 nvs2 := by
 have z := h1.f.size
 refine ⟨h2.o, h1.f.trans h2.f fun j hj hS => ?_, fun b hb => ?_, fun x hx b hb => ?_⟩
 ·rcases h1.k j hS with h | h
  ·exact h
  ·omega
 ·rcases h2.k b hb with h | h
  ·exact h1.k b h
  ·exact .inr (by omega)
 ·rcases h2.n x hx b hb with ⟨y, hy, h⟩ | h
  ·exact h1.n y hy b h
  ·exact .inr (by omega)
theorem FsS.put {w w' : World} {B g : Nat} {m m' : FsM} {vf ve vn : Value} {nvs : List NdV} {t : Tre} (h : FsO w B g m vf ve vn nvs t) (hF : Fr (· = g) w w') (hi : FsI w' g m' vf ve vn nvs t) (hf : m'.flts = m.flts) : FsS w B g vf ve vn nvs w' m' t ve vn nvs :=
 ⟨h.put hF hi hf, hF.mono fun _ _ hb => .inl hb, fun _ hb => .inl hb, fun x hx _ hb => .inl ⟨x, hx, hb⟩⟩
theorem FsS.ext {w w' : World} {B g : Nat} {m : FsM} {vf ve vn : Value} {nvs : List NdV} {t : Tre} (h : FsO w B g m vf ve vn nvs t) (hE : Ext w w') : FsS w B g vf ve vn nvs w' m t ve vn nvs :=
 ⟨h.ext hE, hE.fr, fun _ hb => .inl hb, fun x hx _ hb => .inl ⟨x, hx, hb⟩⟩
theorem FsO.of {w : World} {B g : Nat} {m : FsM} {vf ve vn : Value} {nvs : List NdV} {t : Tre} (hk : Blk w g 109 (fsC m vf ve vn)) (ho : TrO w B ve vn nvs t) (hf : Ow flC 2 w B 51 vf m.flts) (hb : B ≤ g)
  (hr : ∀ e ∈ t.es, 0 ≤ e.node ∧ e.node < t.ns.length) (h0 : 0 < t.es.length) (hl : ∀ n ∈ t.ns, NdL n) (hs : NsOK t.ns) (le : t.es.length ≤ 1000000) (ln : t.ns.length ≤ 1000000) : FsO w B g m vf ve vn nvs t := by
 have ne : ∀ {α : Type} {cf : α → List Value} {z : Nat} {e : TypeId} {v : Value} {l : List α}, Ow cf z w B e v l → e ≠ 109 → ∀ b, v.ownBlock = some b → b ≠ g := fun h1 he b hb => by
  obtain ⟨cm, hm⟩ := h1.typ hb
  exact hm.ne_ hk he
 refine ⟨⟨hk, hf.rw, ho.v, fun e => ne hf (by decide) g e rfl, fun b hb => ?_, hr, h0, hl, hs, le, ln, fun b hb => hb.elim (fun h => (hf.blk h).2) fun h => (ho.lt h).2⟩, ho, hf, hb⟩
 rcases hb with hb | hb | ⟨x, hx, hb | hb | hb⟩
 ·exact ne ho.e (by decide) b hb
 ·exact ne ho.n (by decide) b hb
 ·exact ne (ho.i x hx).a (by decide) b hb
 ·exact ne (ho.i x hx).c (by decide) b hb
 ·exact ne (ho.i x hx).d (by decide) b hb
theorem FsO.step {w w' : World} {B g : Nat} {m m' : FsM} {vf ve vn ve' vn' : Value} {nvs nvs' : List NdV} {t : Tre} {es' : List En} {ns' : List Nd} (h : FsO w B g m vf ve vn nvs t) (hF : Fr (FsK g ve vn) w w') (hm : m'.flts = m.flts)
  (hk : Blk w' g 109 (fsC m' vf ve' vn')) (he : Ow enC 2 w' B 54 ve' es') (hn : Ow ndC 12 w' B 67 vn' nvs') (hi : ∀ x ∈ nvs', NdO w B x) (hns : nvs'.map (·.n) = ns')
  (hr : ∀ e ∈ es', 0 ≤ e.node ∧ e.node < ns'.length) (h0 : 0 < es'.length) (hl : ∀ n ∈ ns', NdL n) (hs : NsOK ns') (le : es'.length ≤ 1000000) (ln : ns'.length ≤ 1000000) : FsO w' B g m' vf ve' vn' nvs' ⟨es', ns'⟩ := by
 have ne : ∀ {α : Type} {cf : α → List Value} {z : Nat} {e : TypeId} {v : Value} {l : List α}, Ow cf z w B e v l → e ≠ 109 → e ≠ 54 → e ≠ 67 → ∀ b, v.ownBlock = some b → ¬ FsK g ve vn b := fun h1 h2 h3 h4 b hb hS => by
  obtain ⟨cm, hm⟩ := h1.typ hb
  rcases hS with rfl | hS | hS
  ·exact hm.ne_ h.i.k h2 rfl
  ·exact h1.apart h.o.e h3 hb hS
  ·exact h1.apart h.o.n h4 hb hS
 exact FsO.of hk ⟨he, hn, fun x hx => ⟨(hi x hx).a.fr hF (ne (hi x hx).a (by decide) (by decide) (by decide)), (hi x hx).c.fr hF (ne (hi x hx).c (by decide) (by decide) (by decide)), (hi x hx).d.fr hF (ne (hi x hx).d (by decide) (by decide) (by decide))⟩, hns⟩ (by rw [hm]; exact h.f.fr hF (ne h.f (by decide) (by decide) (by decide))) h.b hr h0 hl hs le ln
theorem ndC_time (x : NdV) (c : Int) : ndC ⟨timeN x.n c, x.va, x.vc, x.vd⟩ = (ndC x).set 4 (.int .i64 c) := rfl
theorem insP_mem {es : List En} {p : Str} {k : Int} {e : En} (h : e ∈ insP es p k) : e = ⟨p, k⟩ ∨ e ∈ es := by
 unfold insP at h
 rcases List.mem_append.1 h with h | h
 ·exact .inr (List.mem_of_mem_take h)
 ·rcases List.mem_cons.1 h with h | h
  ·exact .inl h
  ·exact .inr (List.mem_of_mem_drop h)
theorem insP_len (es : List En) (p : Str) (k : Int) : (insP es p k).length = es.length + 1 := by
 unfold insP
 have := atP_le p es
 rw [List.length_append, List.length_cons, List.length_take, List.length_drop]
 omega
theorem atP_step {es : List En} {p : Str} {i : Nat} {e : En} (h : es.drop i = e :: es.drop (i + 1)) (hi : i + atP p (es.drop i) = atP p es) : if lessP e.path p = true then i + 1 + atP p (es.drop (i + 1)) = atP p es else i = atP p es := by
 rw [h, atP] at hi
 split
 ·rename_i hl; rw [if_pos hl] at hi; omega
 ·rename_i hl; rw [if_neg hl] at hi; omega
attribute [local irreducible] xs T
theorem room_does (w : World) (g : Nat) (m : FsM) (vf ve vn : Value) (nvs : List NdV) (t : Tre) (p : Str) (h : FsI w g m vf ve vn nvs t) : Does Tryz.prog 75 #[.pointer (some ⟨g, 0, none⟩), .string (su p)] w fun r w' => r = .int .i64 (roomM t p) ∧ Ext w w' := by
 refine does2 Tryz.func75 rfl (by kernel_rfl) ?_
 have hv := h.tr
 obtain ⟨A, c, rfl, hc1, hc2, hA⟩ := hv.e.op enC_len
 obtain ⟨A', c', rfl, hc1', hc2', hA'⟩ := hv.n.op ndC_len
 unfold roomM
 refine goL ?_
 refine xldz (cs := [.slice A t.es.length c, .slice A' nvs.length c']) rfl (by kernel_rfl) (fs_tree h.k) ?_
 refine goL ?_
 refine xcall rfl rfl (find_does w _ _ t.es p hv.e) ?_
 rintro r w1 ⟨rfl, hE1⟩
 have k4 : w1.cell? ⟨g, 4, none⟩ = some (.slice A t.es.length c) := (h.k.ext hE1).cell 4
 cases hfd : findT t.es p with
 | some k =>
  simp only [Option.getD_some, Option.isSome_some]
  exact y44
 | none =>
  simp only [Option.getD_none, Option.isSome_none]
  by_cases h1 : 100 ≤ t.es.length
  ·rw [if_neg (by decide), if_pos h1]
   exact y44
  ·rw [if_neg (by decide), if_neg h1]
   exact y44
theorem stamp_does (w : World) (B g : Nat) (m : FsM) (vf ve vn : Value) (nvs : List NdV) (t : Tre) (p : Str) (h : FsO w B g m vf ve vn nvs t) : Does Tryz.prog 71 #[.pointer (some ⟨g, 0, none⟩), .string (su p)] w fun r w' => r = .tuple #[] ∧ ∃ nvs', FsS w B g vf ve vn nvs w' m (stampT t p m.calls) ve vn nvs' := by
 refine does2 Tryz.func71 rfl (by kernel_rfl) ?_
 have hv := h.i.tr
 have hlen := hv.len
 refine goL ?_
 refine xcall rfl rfl (parent_does w p) ?_
 rintro r w1 ⟨rfl, hE1⟩
 unfold parS
 cases hp : parP p with
 | none =>
  have hst : stampT t p m.calls = t := by unfold stampT stampN; rw [hp]
  rw [hst]
  simp only [Option.getD_none, Option.isSome_none]
  refine goL ?_
  exact tret0 rfl ⟨rfl, nvs, FsS.ext h hE1⟩
 | some q =>
  simp only [Option.getD_some, Option.isSome_some]
  have h1 := h.ext hE1
  refine goL ?_
  refine xldz (cs := [ve, vn]) rfl (by kernel_rfl) (fs_tree h1.i.k) ?_
  refine goL ?_
  refine xcall rfl rfl (find_does w1 _ _ t.es q h1.i.tr.e) ?_
  rintro r w2 ⟨rfl, hE2⟩
  have hE02 : Ext w w2 := hE1.t hE2
  cases hfd : findT t.es q with
  | none =>
   have hst : stampT t p m.calls = t := by unfold stampT stampN; rw [hp]; dsimp only; rw [hfd]
   rw [hst]
   simp only [Option.getD_none, Option.isSome_none]
   refine goL ?_
   exact tend0 rfl ⟨rfl, nvs, FsS.ext h hE02⟩
  | some k =>
   obtain ⟨i, rfl, hi⟩ := range_nat h.i.r hfd
   have hin : i < nvs.length := by omega
   obtain ⟨gN, cN, rfl, hgN, hgN2, hcN, _, _⟩ := OwnZ.go h.o.n (by omega)
   obtain ⟨x, hx⟩ : ∃ x, nvs[i]? = some x := ⟨_, List.getElem?_eq_getElem hin⟩
   have h2 := h.ext hE02.d
   have k5 : w2.drew.cell? ⟨g, 5, none⟩ = some (.slice (some ⟨gN, 0, none⟩) nvs.length cN) := h2.i.k.cell 5
   have hgg : gN ≠ g := h.i.a gN (.inr (.inl rfl))
   simp only [Option.getD_some, Option.isSome_some]
   refine goL ?_
   refine tdrawH [29] (fun w' => w'.cell? ⟨g, 5, none⟩ = some (.slice (some ⟨gN, 0, none⟩) nvs.length cN)) (by kernel_rfl) (by decide +kernel) k5 ?_
   refine gz18 ?_
   refine xcall rfl rfl (clock_does w2.drew g m vf _ _ h2.i.k) ?_ (fun v w' h => by rw [← h.2]; exact k5)
   rintro r w3 ⟨rfl, rfl⟩
   refine gz22 ?_
   refine xstc ndC_len i 4 h2.o.n rfl rfl (by omega) (by omega) (by kernel_rfl) rfl hx (ndC_time x m.calls) (fun w4 hO4 hF4 => ?_) (fun w' hF => hF.cell k5 (show ¬ g = gN from fun e => hgg e.symm))
   have hF24 : Fr (FsK g ve (.slice (some ⟨gN, 0, none⟩) nvs.length cN)) w2.drew w4 := hF4.mono fun b _ hb => .inr (.inr (by have : b = gN := hb; rw [this]; rfl))
   have hxi := h2.o.i x (List.mem_of_getElem? hx)
   have hst : stampT t p m.calls = ⟨t.es, t.ns.set i (timeN x.n m.calls)⟩ := by
    unfold stampT stampN
    rw [hp]; dsimp only; rw [hfd]; dsimp only
    rw [Int.toNat_natCast, hv.getD hx]
   have hxl : ∀ n ∈ t.ns.set i (timeN x.n m.calls), n ∈ t.ns ∨ n = timeN x.n m.calls := fun n hn => List.mem_or_eq_of_mem_set hn
   have hxt : x.n ∈ t.ns := List.mem_of_getElem? (hv.get hx)
   have key : FsO w4 B g m vf ve (.slice (some ⟨gN, 0, none⟩) nvs.length cN) (nvs.set i ⟨timeN x.n m.calls, x.va, x.vc, x.vd⟩) ⟨t.es, t.ns.set i (timeN x.n m.calls)⟩ :=
    h2.step hF24 rfl (h2.i.k.fr hF4 (fun e => hgg e.symm)) (h2.o.e.fr hF4 fun b hb e => h2.o.e.apart h2.o.n (by decide) hb (by have : b = gN := e; rw [this]; rfl)) hO4
     (fun y hy => (List.mem_or_eq_of_mem_set hy).elim (h2.o.i y) fun e => by rw [e]; exact ⟨hxi.a, hxi.c, hxi.d⟩) (by rw [List.map_set, h.o.m]) (by rw [List.length_set]; exact h.i.r) h.i.h
     (fun n hn => (hxl n hn).elim (h.i.l n) fun e => by rw [e]; exact ⟨(h.i.l _ hxt).a, (h.i.l _ hxt).c, (h.i.l _ hxt).d⟩) (fun n hn => (hxl n hn).elim (h.i.s n) fun e => by rw [e]; exact (show bytesP x.n.data ≤ 1000000 from h.i.s _ hxt)) h.i.le (by rw [List.length_set]; exact h.i.ln)
   have hS : FsS w B g vf ve (.slice (some ⟨gN, 0, none⟩) nvs.length cN) nvs w4 m (stampT t p m.calls) ve (.slice (some ⟨gN, 0, none⟩) nvs.length cN) (nvs.set i ⟨timeN x.n m.calls, x.va, x.vc, x.vd⟩) := by
    rw [hst]
    exact ⟨key, (show Ext w w2.drew from hE02.d).fr.t hF24, fun _ hb => .inl hb, fun y hy b hb => .inl ((List.mem_or_eq_of_mem_set hy).elim (fun hy => ⟨y, hy, hb⟩) fun e => ⟨x, List.mem_of_getElem? hx, by rw [e] at hb; exact hb⟩)⟩
   refine goL ?_
   exact tend0 rfl ⟨rfl, _, hS⟩
theorem enter_does (w : World) (B g : Nat) (m : FsM) (vf ve vn : Value) (nvs : List NdV) (t : Tre) (p : Str) (k : Nat) (h : FsO w B g m vf ve vn nvs t) (hk : k < t.ns.length) (hl : t.es.length ≤ 900000) : Does Tryz.prog 76 #[.pointer (some ⟨g, 0, none⟩), .string (su p), .int .i64 (k : Int)] w fun r w' => r = .tuple #[] ∧ ∃ ve' nvs', FsS w B g vf ve vn nvs w' m (enterT t p k m.calls) ve' vn nvs' := by
 refine does3 Tryz.func76 rfl (by kernel_rfl) ?_
 have h0 := h.i.h
 obtain ⟨gE, cE, rfl, hgE, hgE2, hcE, _, _⟩ := OwnZ.go h.o.e (by omega)
 obtain ⟨_, _, e0, _, _, hA⟩ := h.o.e.rw.op enC_len
 injection e0 with e0 _ _
 subst e0
 have hlen := h.i.tr.len
 refine tscope1 (α := Nat) 0 rfl (fun i => [(0, .pointer (some ⟨g, 0, none⟩)), (1, .string (su p)), (2, .int .i64 (k : Int)), (6, .int .i64 (i : Int))]) (fun i w' => Ext w w' ∧ i ≤ t.es.length ∧ i + atP p (t.es.drop i) = atP p t.es) (fun i => t.es.length - i) ?_ ?_
 ·rintro i w1 ⟨hE1, hi, hgo⟩
  have h1 := h.ext hE1
  have k4 : w1.cell? ⟨g, 4, none⟩ = some (.slice (some ⟨gE, 0, none⟩) t.es.length cE) := h1.i.k.cell 4
  have hgg : gE ≠ g := h.i.a gE (.inl rfl)
  have hS : ∀ (w3 w4 : World) (v3 : Value) (gv : Nat), Ext w w3 → Ow enC 2 w4 B 54 v3 (t.es.take (atP p t.es) ++ ⟨p, (k : Int)⟩ :: t.es.drop (atP p t.es)) → Fr (· = gE) w3 w4 → (∀ b, v3.ownBlock = some b → b = gE ∨ w3.heap.size ≤ b) → ∀ w5, Blk w5 g 109 (fsC m vf v3 vn) → Fr (· = g) w4 w5 → FsS w B g vf (.slice (some ⟨gE, 0, none⟩) t.es.length cE) vn nvs w5 m ⟨insP t.es p k, t.ns⟩ v3 vn nvs := fun w3 w4 v3 gv hE3 hO4 hF4 hv3 w5 hB5 hF5 => by
   have h3 := h.ext hE3
   have z3 := hE3.size
   have hF35 : Fr (FsK g (.slice (some ⟨gE, 0, none⟩) t.es.length cE) vn) w3 w5 := (hF4.mono fun b _ hb => .inr (.inl (by have : b = gE := hb; rw [this]; rfl))).t (hF5.mono fun b _ hb => .inl hb)
   have hne : ∀ b, v3.ownBlock = some b → ¬ b = g := fun b hb => by
    obtain ⟨cs, hcs⟩ := hO4.typ hb
    exact hcs.ne_ (h3.i.k.fr hF4 (fun e => hgg e.symm)) (by decide)
   have hnn : ∀ b, vn.ownBlock = some b → ¬ b = gE := fun b hb e => h.o.n.apart h.o.e (by decide) hb (by rw [e]; rfl)
   have hng : ∀ b, vn.ownBlock = some b → ¬ b = g := fun b hb => h.i.a b (.inr (.inl hb))
   refine ⟨h3.step hF35 rfl hB5 (hO4.fr hF5 hne) ((h3.o.n.fr hF4 hnn).fr hF5 hng) h3.o.i h.o.m (fun e he => ?_) (by rw [insP_len]; omega) h.i.l h.i.s (by rw [insP_len]; omega) h.i.ln, hE3.fr.t hF35, fun b hb => ?_, fun x hx _ hb => .inl ⟨x, hx, hb⟩⟩
   ·rcases insP_mem he with rfl | he
    ·exact ⟨Int.natCast_nonneg _, by dsimp only; omega⟩
    ·exact h.i.r e he
   ·rcases hb with hb | hb | hb
    ·exact .inl (.inl hb)
    ·rcases hv3 b hb with h9 | h9
     ·exact .inl (.inr (.inl (by rw [h9]; rfl)))
     ·exact .inr (by omega)
    ·exact .inl (.inr (.inr hb))
  by_cases hlt : i < t.es.length
  ·obtain ⟨b, o, e, heq, _, hx, hdr, hcell⟩ := hA.at_ hlt
   cases heq
   have q0 : w1.cell? ⟨gE, 0 + i * 2 + 0, none⟩ = some (.string (su e.path)) := hE1.cell (hcell 0 _ rfl)
   have hst := atP_step hdr hgo
   repeat' (first | refine xizq i (0 + i * 2) rfl rfl rfl rfl rfl hlt ?_ | refine go1L ?_ | fail)
   refine xcall rfl rfl (less_does w1 e.path p) ?_
   rintro r w2 ⟨rfl, hE2⟩
   have hE02 := hE1.t hE2
   cases hls : lessP e.path p with
   | true =>
    rw [hls, if_pos rfl] at hst
    refine goL ?_
    exact tgoto rfl ⟨_, by dsimp only; omega, rfl, i + 1, sub ⟨rfl, rfl, rfl, rfl⟩, ⟨hE02, hlt, hst⟩, rfl⟩
   | false =>
    rw [hls, if_neg (by decide)] at hst
    have k42 : w2.cell? ⟨g, 4, none⟩ = some (.slice (some ⟨gE, 0, none⟩) t.es.length cE) := hE2.cell k4
    refine goL ?_
    refine xbd (cells := (enC ⟨p, (k : Int)⟩).toArray) rfl (by kernel_rfl) ?_
    refine goL ?_
    refine xbz1 sl_ents rfl rfl (by decide) (by decide) (fun w3 hB3 hE3 hs3 => ?_)
    have hE03 := hE02.t hE3
    have z2 := hE02.size
    refine goL ?_
    refine xcall rfl rfl (insert_does w3 B gE w2.heap.size cE i t.es ⟨p, (k : Int)⟩ (h.o.e.ext hE03) hB3 (by omega) hi h0 h.i.le) ?_
    rintro r w4 ⟨hO4, hF4, hv4⟩
    rw [hst] at hO4
    have hB4 := (h.ext hE03).i.k.fr hF4 (fun e => hgg e.symm)
    obtain ⟨A4, c4, rfl, _, _⟩ := hO4.form
    refine goL ?_
    refine xstb hB4 rfl rfl (by kernel_rfl) rfl rfl (fun w5 hB5 hF5 => ?_)
    have hS5 := hS w3 w4 _ 0 hE03 hO4 hF4 hv4 w5 hB5 hF5
    exact y54
  ·obtain rfl : i = t.es.length := by omega
   have hst : t.es.length = atP p t.es := by rw [List.drop_length, atP] at hgo; omega
   refine goL ?_
   refine xbd (cells := (enC ⟨p, (k : Int)⟩).toArray) rfl (by kernel_rfl) ?_
   refine goL ?_
   refine xbz1 sl_ents rfl rfl (by decide) (by decide) (fun w3 hB3 hE3 hs3 => ?_)
   have hE03 := hE1.t hE3
   have z2 := hE1.size
   refine goL ?_
   refine xcall rfl rfl (insert_does w3 B gE w1.heap.size cE t.es.length t.es ⟨p, (k : Int)⟩ (h.o.e.ext hE03) hB3 (by omega) hi h0 h.i.le) ?_
   rintro r w4 ⟨hO4, hF4, hv4⟩
   have hO4' : Ow enC 2 w4 B 54 r (t.es.take (atP p t.es) ++ ⟨p, (k : Int)⟩ :: t.es.drop (atP p t.es)) := by rw [← hst]; exact hO4
   have hB4 := (h.ext hE03).i.k.fr hF4 (fun e => hgg e.symm)
   obtain ⟨A4, c4, rfl, _, _⟩ := hO4'.form
   refine goL ?_
   refine xstb hB4 rfl rfl (by kernel_rfl) rfl rfl (fun w5 hB5 hF5 => ?_)
   have hS5 := hS w3 w4 _ 0 hE03 hO4' hF4 hv4 w5 hB5 hF5
   exact y54
 ·intro H
  refine goL ?_
  refine tlabel ?_
  exact tweak (H 0 w ⟨Fr.refl _ _, Nat.zero_le _, by rw [List.drop_zero]; omega⟩) (sub ⟨rfl, rfl, rfl, rfl⟩)
theorem made_own (w : World) (B : Nat) (n : Nd) (c : Int) : NdO w B ⟨madeN n c, .slice none 0 0, .slice none 0 0, .slice none 0 0⟩ := ⟨Ow.nil _ _ _, Ow.nil _ _ _, Ow.nil _ _ _⟩
theorem make_does (w : World) (B g : Nat) (m : FsM) (vf ve vn : Value) (nvs : List NdV) (t : Tre) (p : Str) (x : NdV) (h : FsO w B g m vf ve vn nvs t) (hx : NdIn w x) (hxg : ∀ b, NdN x b → b ≠ g) (hb : bytesP x.n.data ≤ 1000000) (hc : 0 ≤ m.calls ∧ m.calls ≤ 4000000000000000000) (hl : t.es.length ≤ 900000) (hln : t.ns.length ≤ 900000) :
  Does Tryz.prog 31 #[.pointer (some ⟨g, 0, none⟩), .string (su p), .agg (ndC x).toArray] w fun r w' => r = .int .i64 (makeE m t p x.n) ∧ ∃ ve' vn' nvs', FsS w B g vf ve vn nvs w' (begM m).2.2 (makeT m t p x.n) ve' vn' nvs' := by
 refine does3 Tryz.func31 rfl (by kernel_rfl) ?_
 have hg := h.i.k.lt
 have hlen := h.i.tr.len
 obtain ⟨A, c, rfl, hc1, hc2, _⟩ := h.i.tr.e.op enC_len
 refine goL ?_
 refine xbox rfl (fun w1 hB1 hE1 hs1 => ?_)
 have hB1' : Blk w1 w.heap.size 67 (ndC x).toArray := hB1
 have h1 := h.ext hE1
 refine goL ?_
 refine xcall rfl rfl (begin_does w1 g m vf _ A _ c h1.i.k h1.i.h h1.i.f hc h1.i.af) ?_
 rintro r w2 ⟨rfl, hB2, hF2⟩
 have hi2 := h1.i.put hF2 hB2 (begM_flts m)
 have hS2 := (FsS.ext h hE1).t (FsS.put h1 hF2 hi2 (begM_flts m))
 have hBx2 := hB1'.fr hF2 (show ¬ w.heap.size = g by omega)
 unfold makeT makeE
 by_cases e : (begM m).2.1 = 0
 ·rw [if_neg (fun h => h e), e]
  refine goL ?_
  refine xcall rfl rfl (wrong_does w2 g _ vf _ _ nvs t p hi2) ?_
  rintro r w3 ⟨rfl, hE3⟩
  have hS3 := hS2.t (FsS.ext hS2.o hE3)
  have hBx3 := hBx2.ext hE3
  by_cases e1 : wrongM t p = 0
  ·rw [if_neg (fun h => h e1), e1]
   refine goL ?_
   refine xlda (t := 67) hBx3 rfl rfl ?_
   refine goL ?_
   have hx3 : NdIn w3 x := ((hx.frN hE1.fr fun _ _ h => h).frN hF2 fun b hb e => hxg b hb e).frN hE3.fr fun _ _ h => h
   refine xcall rfl rfl (nodemay_does w3 x hx3 hb) ?_
   rintro r w4 ⟨rfl, hE4⟩
   have hS4 := hS3.t (FsS.ext hS3.o hE4)
   have hBx4 := hBx3.ext hE4
   cases hno : nodeOK x.n with
   | false =>
    rw [if_pos rfl, if_neg (by decide)]
    refine goL ?_
    exact tret1 rfl rfl ⟨rfl, _, _, _, hS4⟩
   | true =>
   rw [if_neg (by decide)]
   refine goL ?_
   refine xcall rfl rfl (room_does w4 g _ vf _ _ nvs t p hS4.o.i) ?_
   rintro r w5 ⟨rfl, hE5⟩
   have hS5 := hS4.t (FsS.ext hS4.o hE5)
   have hBx5 := hBx4.ext hE5
   by_cases e5 : roomM t p = 0
   ·rw [e5, if_pos rfl]
    have q0 : w5.cell? ⟨w.heap.size, 0, none⟩ = some (.int .i64 x.n.kind) := hBx5.cell 0
    have q9 : w5.cell? ⟨w.heap.size, 9, none⟩ = some (.string (su x.n.target)) := hBx5.cell 9
    have q10 : w5.cell? ⟨w.heap.size, 10, none⟩ = some (.int .i64 x.n.major) := hBx5.cell 10
    have q11 : w5.cell? ⟨w.heap.size, 11, none⟩ = some (.int .i64 x.n.minor) := hBx5.cell 11
    obtain ⟨c9, hc9⟩ : ∃ c, c = (begM m).2.2.calls := ⟨_, rfl⟩
    rw [← hc9]
    have z5 := hS5.f.size
    refine goL ?_
    refine xbd (cells := (ndC ⟨⟨x.n.kind, 0, 0, 0, 0, [], [], 0, [], x.n.target, x.n.major, x.n.minor⟩, .slice none 0 0, .slice none 0 0, .slice none 0 0⟩).toArray) rfl (by kernel_rfl) ?_
    refine goL ?_
    refine xalloc (z := .agg nd0) (by kernel_rfl) (fun w6 hB6 hE6 hs6 => ?_)
    refine goL ?_
    refine xsta hB6 rfl rfl (by kernel_rfl) rfl (one_cells (l := ndC ⟨⟨x.n.kind, 0, 0, 0, 0, [], [], 0, [], x.n.target, x.n.major, x.n.minor⟩, .slice none 0 0, .slice none 0 0, .slice none 0 0⟩) rfl) (fun w7 hB7 hF7 => ?_)
    have hE57 : Ext w5 w7 := hE6.trans hF7 fun j hj e => by have : j = w5.heap.size := e; omega
    have hS7 := hS5.t (FsS.ext hS5.o hE57)
    have hS7d := hS7.t (FsS.ext hS7.o (Fr.drew noneB w7))
    have hBx7 := (hBx5.ext hE57).ext (Fr.drew noneB w7)
    have q1 : w7.drew.cell? ⟨w.heap.size, 1, none⟩ = some (.int .i64 x.n.mode) := hBx7.cell 1
    have hB7d := hB7.ext (Fr.drew noneB w7)
    refine goL ?_
    refine tdrawH [46] (fun w' => w'.cell? ⟨w.heap.size, 1, none⟩ = some (.int .i64 x.n.mode)) (by kernel_rfl) (by decide +kernel) q1 ?_
    refine gz18 ?_
    refine xcall rfl rfl (clock_does w7.drew g _ vf _ _ hS7d.o.i.k) ?_ (fun v w' h => by rw [← h.2]; exact q1)
    rintro r w8 ⟨rfl, rfl⟩
    rw [← hc9]
    refine gz18 ?_
    refine xbd (cells := (mtC ⟨madeN x.n c9, .slice none 0 0, .slice none 0 0, .slice none 0 0⟩).toArray) rfl (by kernel_rfl) ?_
    refine gz18 ?_
    refine xstk (q := 1) (vs := mtC ⟨madeN x.n c9, .slice none 0 0, .slice none 0 0, .slice none 0 0⟩) (nw := (ndC ⟨madeN x.n c9, .slice none 0 0, .slice none 0 0, .slice none 0 0⟩).toArray) hB7d rfl rfl (by kernel_rfl) (by show 7 ≤ 12; omega) (fun u hu => by
     simp only [mtC, List.mem_cons, List.not_mem_nil, or_false] at hu
     rcases hu with rfl | rfl | rfl | rfl | rfl | rfl <;> rfl) rfl (fun w9 hB9 hF9 => ?_) (fun w' hF => hF.cell q1 (show ¬ w.heap.size = w5.heap.size by have := hBx5.lt; omega))
    have hlt7 : ∀ b, b = g ∨ vf.ownBlock = some b ∨ TrK (.slice A t.es.length c) vn nvs b → b < w5.heap.size := fun b hb => (hS5.o.blk hb).2
    have ho9 := hS7d.o.fr hF9 fun b hb => by have := hlt7 b hb; show ¬ b = w5.heap.size; omega
    have z57 := hE57.size
    have z7d : w7.drew.heap.size = w7.heap.size := rfl
    have hF79 : Ext w5 w9 := (hE57.t (Fr.drew noneB w7)).trans hF9 fun j hj e => by have : j = w5.heap.size := e; omega
    have hS9 := hS5.t (FsS.ext hS5.o hF79)
    obtain ⟨An, cn, rfl, hcn, _⟩ := hS9.o.o.n.form
    have hS9d := hS9.t (FsS.ext hS9.o (Fr.drew noneB w9))
    have k5 : w9.drew.cell? ⟨g, 5, none⟩ = some (.slice An nvs.length cn) := hS9d.o.i.k.cell 5
    refine goL ?_
    refine tdrawC 9 [56] (fun w' => w'.cell? ⟨g, 5, none⟩ = some (.slice An nvs.length cn)) (by kernel_rfl) (by decide +kernel) k5 ?_
    refine gz18 ?_
    refine xlda (t := 67) (hB9.ext (Fr.drew noneB w9)) rfl rfl ?_
    refine goL ?_
    refine xbz1 sl_nds rfl rfl (by decide) (by decide) (fun w10 hB10 hE10 hs10 => ?_) (fun w' he => he.cell k5)
    have hS10 := hS9d.t (FsS.ext hS9d.o hE10)
    have z10 := hS10.f.size
    have hgn : ¬ (Value.slice An nvs.length cn).ownBlock = some g := fun e => h.i.a g (.inr (.inl e)) rfl
    refine xapz (B := B) (news := ndC ⟨madeN x.n c9, .slice none 0 0, .slice none 0 0, .slice none 0 0⟩) sl_nds rfl (by decide) rfl hS10.o.o.n rfl (blk_row hB10 (by decide) rfl) rfl (ndC_one (made_own w10 0 x.n c9).in) (by unfold maxLen; omega) (by omega) (by have := h.b; omega) (fun v11 w11 hO11 hF11 hv11 => ?_) (fun w' hF => hF.cell (hE10.cell k5) hgn)
    refine xnil ?_
    have hO11' : Ow ndC 12 w11 B 67 v11 (nvs ++ [⟨madeN x.n c9, .slice none 0 0, .slice none 0 0, .slice none 0 0⟩]) := Ow.ext1 (l' := ([⟨madeN x.n c9, .slice none 0 0, .slice none 0 0, .slice none 0 0⟩] : List NdV)) (by simpa using hO11)
    obtain ⟨A11, c11, rfl, _, _⟩ := hO11'.form
    have hB11 := hS10.o.i.k.fr hF11 hgn
    refine goL ?_
    refine xstb hB11 rfl rfl (by kernel_rfl) rfl rfl (fun w12 hB12 hF12 => ?_)
    have hng : ∀ b, (Value.slice A11 (nvs ++ [(⟨madeN x.n c9, .slice none 0 0, .slice none 0 0, .slice none 0 0⟩ : NdV)]).length c11).ownBlock = some b → ¬ b = g := fun b hb => by
     obtain ⟨cs, hcs⟩ := hO11'.typ hb
     exact hcs.ne_ hB11 (by decide)
    have hF1012 : Fr (FsK g (.slice A t.es.length c) (.slice An nvs.length cn)) w10 w12 := (hF11.mono fun b _ hb => .inr (.inr hb)).t (hF12.mono fun b _ hb => .inl hb)
    have hmem : ∀ n ∈ t.ns ++ [madeN x.n c9], n ∈ t.ns ∨ n = madeN x.n c9 := fun n hn => (List.mem_append.1 hn).imp id List.mem_singleton.1
    have hS12 : FsS w10 B g vf (.slice A t.es.length c) (.slice An nvs.length cn) nvs w12 (begM m).2.2 ⟨t.es, t.ns ++ [madeN x.n c9]⟩ (.slice A t.es.length c) (.slice A11 (nvs ++ [(⟨madeN x.n c9, .slice none 0 0, .slice none 0 0, .slice none 0 0⟩ : NdV)]).length c11) (nvs ++ [⟨madeN x.n c9, .slice none 0 0, .slice none 0 0, .slice none 0 0⟩]) :=
     ⟨hS10.o.step hF1012 rfl hB12 ((hS10.o.o.e.fr hF11 fun b hb e => hS10.o.o.e.apart hS10.o.o.n (by decide) hb e).fr hF12 fun b hb => h.i.a b (.inl hb)) (hO11'.fr hF12 hng) (fun y hy => (List.mem_append.1 hy).elim (hS10.o.o.i y) fun e => by rw [List.mem_singleton.1 e]; exact made_own _ _ _ _) (by rw [List.map_append, h.o.m]; rfl)
      (fun e he => by have := h.i.r e he; rw [List.length_append]; simp only [List.length_cons, List.length_nil]; omega) h.i.h (fun n hn => (hmem n hn).elim (h.i.l n) fun e => by rw [e]; exact ⟨Nat.zero_le _, Nat.zero_le _, Nat.zero_le _⟩) (fun n hn => (hmem n hn).elim (h.i.s n) fun e => by rw [e]; exact Nat.zero_le _) (by omega) (by rw [List.length_append]; simp only [List.length_cons, List.length_nil]; omega),
     hF1012, fun b hb => by
      rcases hb with hb | hb | hb
      ·exact .inl (.inl hb)
      ·exact .inl (.inr (.inl hb))
      ·rcases hv11 with h9 | h9
       ·exact .inl (.inr (.inr (by rw [← h9]; exact hb)))
       ·rw [h9] at hb; injection hb with hb; exact .inr (by omega), fun y hy b hb => (List.mem_append.1 hy).elim (fun hy => .inl ⟨y, hy, hb⟩) fun e => by
       rw [List.mem_singleton.1 e] at hb
       rcases hb with hb | hb | hb <;> cases hb⟩
    have hST := hS10.t hS12
    have hke : (((nvs ++ [(⟨madeN x.n c9, .slice none 0 0, .slice none 0 0, .slice none 0 0⟩ : NdV)]).length : Nat) : Int) - 1 = ((t.ns.length : Nat) : Int) := by rw [List.length_append]; simp only [List.length_cons, List.length_nil]; omega
    have k512 : w12.cell? ⟨g, 5, none⟩ = some (.slice A11 (nvs ++ [(⟨madeN x.n c9, .slice none 0 0, .slice none 0 0, .slice none 0 0⟩ : NdV)]).length c11) := hB12.cell 5
    refine goL ?_
    rw [hke]
    refine xcall rfl rfl (enter_does w12 B g (begM m).2.2 vf _ _ _ ⟨t.es, t.ns ++ [madeN x.n c9]⟩ p t.ns.length hST.o (by dsimp only; rw [List.length_append]; simp only [List.length_cons, List.length_nil]; omega) hl) ?_
    rintro r w13 ⟨rfl, ve13, nvs13, hS13⟩
    rw [← hc9] at hS13
    refine goL ?_
    exact tret1 rfl rfl ⟨rfl, _, _, _, hST.t hS13⟩
   ·rw [if_neg e5]
    refine goL ?_
    exact tret1 rfl rfl ⟨rfl, _, _, _, hS5⟩
  ·rw [if_pos e1, if_neg e1]
   refine goL ?_
   exact tret1 rfl rfl ⟨rfl, _, _, _, hS3⟩
 ·rw [if_pos e, if_neg e]
  refine goL ?_
  exact tret1 rfl rfl ⟨rfl, _, _, _, hS2⟩
end
end Go.Proofs.YtiebbecknfpdeaaGreatDoor.Eng
