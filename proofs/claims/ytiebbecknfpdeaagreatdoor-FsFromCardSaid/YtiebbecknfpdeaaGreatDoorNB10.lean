/-
  Parts of the proof: Zk, Zl, Zm, Wz, Zn, Yd, Yf, Yg.
-/
import Derived.Test.YtiebbecknfpdeaaGreatDoorNB0b
import Derived.Test.YtiebbecknfpdeaaGreatDoorNB2
import Derived.Test.YtiebbecknfpdeaaGreatDoorNB4
import Derived.Test.YtiebbecknfpdeaaGreatDoorNB9
import Derived.Test.YtiebbecknfpdeaaGreatDoorNWp
import Derived.Test.YtiebbecknfpdeaaGreatDoorNWt
import Derived.Test.YtiebbecknfpdeaaGreatDoorNWv
import Derived.Test.YtiebbecknfpdeaaGreatDoorNYa
set_option maxRecDepth 100000
set_option maxHeartbeats 64000000
namespace Go.Proofs.YtiebbecknfpdeaaGreatDoor.Eng
open Go.RowKit
section
def TrK (ve vn : Value) (nvs : List NdV) (b : Nat) : Prop := ve.ownBlock = some b ∨ vn.ownBlock = some b ∨ ∃ x ∈ nvs, x.va.ownBlock = some b ∨ x.vc.ownBlock = some b ∨ x.vd.ownBlock = some b
theorem TrV.fr {S : Nat → Prop} {w w' : World} {ve vn : Value} {nvs : List NdV} {t : Tre} (h : TrV w ve vn nvs t) (hF : Fr S w w') (hS : ∀ b, TrK ve vn nvs b → ¬ S b) : TrV w' ve vn nvs t :=
 ⟨h.e.fr hF fun b hb => hS b (.inl hb), h.n.fr hF fun b hb => hS b (.inr (.inl hb)), fun x hx => ⟨(h.i x hx).a.fr hF fun b hb => hS b (.inr (.inr ⟨x, hx, .inl hb⟩)), (h.i x hx).c.fr hF fun b hb => hS b (.inr (.inr ⟨x, hx, .inr (.inl hb)⟩)), (h.i x hx).d.fr hF fun b hb => hS b (.inr (.inr ⟨x, hx, .inr (.inr hb)⟩))⟩, h.m⟩
structure FsI (w : World) (g : Nat) (m : FsM) (vf ve vn : Value) (nvs : List NdV) (t : Tre) : Prop where
 k : Blk w g 109 (fsC m vf ve vn)
 f : Rw flC w vf m.flts
 tr : TrV w ve vn nvs t
 af : vf.ownBlock ≠ some g
 a : ∀ b, TrK ve vn nvs b → b ≠ g
 r : ∀ e ∈ t.es, 0 ≤ e.node ∧ e.node < t.ns.length
 h : 0 < t.es.length
 l : ∀ n ∈ t.ns, NdL n
 s : NsOK t.ns
 le : t.es.length ≤ 1000000
 ln : t.ns.length ≤ 1000000
 lt : ∀ b, vf.ownBlock = some b ∨ TrK ve vn nvs b → b < w.heap.size
theorem FsI.ext {w w' : World} {g : Nat} {m : FsM} {vf ve vn : Value} {nvs : List NdV} {t : Tre} (h : FsI w g m vf ve vn nvs t) (hE : Ext w w') : FsI w' g m vf ve vn nvs t := ⟨h.k.ext hE, h.f.ext hE, h.tr.ext hE, h.af, h.a, h.r, h.h, h.l, h.s, h.le, h.ln, fun b hb => Nat.lt_of_lt_of_le (h.lt b hb) hE.size⟩
theorem FsI.fr {S : Nat → Prop} {w w' : World} {g : Nat} {m : FsM} {vf ve vn : Value} {nvs : List NdV} {t : Tre} (h : FsI w g m vf ve vn nvs t) (hF : Fr S w w') (hS : ∀ b, b = g ∨ vf.ownBlock = some b ∨ TrK ve vn nvs b → ¬ S b) : FsI w' g m vf ve vn nvs t :=
 ⟨h.k.fr hF (hS g (.inl rfl)), h.f.fr hF fun b hb => hS b (.inr (.inl hb)), h.tr.fr hF fun b hb => hS b (.inr (.inr hb)), h.af, h.a, h.r, h.h, h.l, h.s, h.le, h.ln, fun b hb => Nat.lt_of_lt_of_le (h.lt b hb) hF.size⟩
theorem FsI.put {w w' : World} {g : Nat} {m m' : FsM} {vf ve vn : Value} {nvs : List NdV} {t : Tre} (h : FsI w g m vf ve vn nvs t) (hF : Fr (· = g) w w') (hk : Blk w' g 109 (fsC m' vf ve vn)) (hf : m'.flts = m.flts) : FsI w' g m' vf ve vn nvs t :=
 ⟨hk, by rw [hf]; exact h.f.fr hF fun b hb e => h.af (by rw [hb, e]), h.tr.fr hF fun b hb e => h.a b hb e, h.af, h.a, h.r, h.h, h.l, h.s, h.le, h.ln, fun b hb => Nat.lt_of_lt_of_le (h.lt b hb) hF.size⟩
theorem FsI.off {w w' : World} {g k : Nat} {m : FsM} {vf ve vn : Value} {nvs : List NdV} {t : Tre} (h : FsI w g m vf ve vn nvs t) (hF : Fr (· = k) w w') (hg : g < k) (hl : ∀ b, vf.ownBlock = some b ∨ TrK ve vn nvs b → b < k) : FsI w' g m vf ve vn nvs t :=
 h.fr hF fun b hb => by
  rcases hb with rfl | hb
  ·show ¬ _ = k; omega
  ·have := hl b hb
   show ¬ _ = k; omega
theorem begM_flts (m : FsM) : (begM m).2.2.flts = m.flts := by
 unfold begM
 split
 ·rfl
 ·split
  ·rfl
  ·split <;> rfl
theorem fs_tree {w : World} {g : Nat} {m : FsM} {vf ve vn : Value} (h : Blk w g 109 (fsC m vf ve vn)) : ∀ j u, [ve, vn][j]? = some u → w.cell? ⟨g, 4 + j, none⟩ = some u := by
 intro j u hu
 rcases j with _ | _ | j
 ·injection hu with hu; subst hu; exact h.cell 4
 ·injection hu with hu; subst hu; exact h.cell 5
 ·simp at hu
theorem range_nat {t : Tre} (hr : ∀ e ∈ t.es, 0 ≤ e.node ∧ e.node < t.ns.length) {p : Str} {k : Int} (h : findT t.es p = some k) : ∃ i : Nat, k = i ∧ i < t.ns.length := by
 obtain ⟨e, he, _, h2⟩ := findT_mem h
 have := hr e he
 rw [h2] at this
 exact ⟨k.toNat, by omega, by omega⟩
attribute [local irreducible] xs T
theorem metacopy_does (w : World) (x : NdV) (ha : Rw attC w x.va x.n.attrs) (hc : Rw acC w x.vc x.n.acl) (la : x.n.attrs.length ≤ 1000000) (lc : x.n.acl.length ≤ 1000000) : Does Tryz.prog 79 #[.agg (mtC x).toArray] w fun r w' => ∃ va vc, r = .agg (mtC ⟨x.n, va, vc, x.vd⟩).toArray ∧ Ow attC 2 w' w.heap.size 101 va x.n.attrs ∧ Ow acC 3 w' w.heap.size 103 vc x.n.acl ∧ Ext w w' := by
 refine does1 Tryz.func79 rfl (by kernel_rfl) ?_
 obtain ⟨n, va, vc, vd⟩ := x
 dsimp only at ha hc la lc ⊢
 obtain ⟨A1, c1, rfl, _, _, _⟩ := ha.op attC_len
 obtain ⟨A2, c2, rfl, _, _, _⟩ := hc.op acC_len
 refine goL ?_
 refine xbox rfl (fun w1 hB1 hE1 hs1 => ?_)
 refine goL ?_
 refine xalloc (z := .agg #[.int .i64 0, .int .i64 0, .int .i64 0, .int .i64 0, .slice none 0 0, .slice none 0 0]) (by kernel_rfl) (fun w2 hB2 hE2 hs2 => ?_)
 have hB : Blk w2 w.heap.size 64 (mtC ⟨n, .slice A1 n.attrs.length c1, .slice A2 n.acl.length c2, vd⟩).toArray := Blk.ext hB1 hE2
 have k1 : w2.cell? ⟨w.heap.size, 4, none⟩ = some (.slice A1 n.attrs.length c1) := hB.cell 4
 refine goL ?_
 refine xapz (B := w2.heap.size) (news := n.attrs.flatMap attC) sl_atts rfl (by decide) rfl (OwnZ.nil _ _ _ _) rfl (Row.ext ha (hE1.t hE2)) (flat_len attC_len _) (attC_one _) (by unfold maxLen; omega) (by omega) (Nat.le_refl _) (fun v1 w3 hO3 hF3 _ => ?_)
 have hE3 : Ext w2 w3 := hF3.mono fun _ _ h => by cases h
 have hN : ∀ {a b c : World} {g : Nat}, Ext a b → Fr (· = g) b c → a.heap.size ≤ g → Ext a c := fun h1 h2 hg => h1.trans h2 fun j hj e => absurd hj (by omega)
 rw [Nat.zero_add] at hO3
 obtain ⟨B1, d1, rfl, _, _⟩ := hO3.form
 refine goL ?_
 refine xstb (Blk.ext hB hE3) rfl rfl (by kernel_rfl) rfl rfl (fun w4 hB4 hF4 => ?_)
 have k2 : w4.cell? ⟨w.heap.size, 5, none⟩ = some (.slice A2 n.acl.length c2) := hB4.cell 5
 have hE04 : Ext w w4 := hN ((hE1.t hE2).t hE3) hF4 (Nat.le_refl _)
 refine goL ?_
 refine xapz (B := w4.heap.size) (news := n.acl.flatMap acC) sl_acs rfl (by decide) rfl (OwnZ.nil _ _ _ _) rfl (Row.ext hc hE04) (flat_len acC_len _) (acC_one _) (by unfold maxLen; omega) (by omega) (Nat.le_refl _) (fun v2 w5 hO5 hF5 _ => ?_)
 have hE5 : Ext w4 w5 := hF5.mono fun _ _ h => by cases h
 rw [Nat.zero_add] at hO5
 obtain ⟨B2, d2, rfl, _, _⟩ := hO5.form
 refine goL ?_
 refine xstb (Blk.ext hB4 hE5) rfl rfl (by kernel_rfl) rfl rfl (fun w6 hB6 hF6 => ?_)
 have hB6' : Blk w6 w.heap.size 64 (mtC ⟨n, .slice B1 n.attrs.length d1, .slice B2 n.acl.length d2, vd⟩).toArray := by
  simp only [Nat.zero_add] at hB6
  exact hB6
 have z1 := hE1.size; have z2 := hE2.size; have z3 := hE3.size; have z4 := hF4.size; have z5 := hE5.size; have z6 := hF6.size
 refine goL ?_
 refine xlda (t := 64) hB6' rfl rfl ?_
 have hB7 := ((((Blk.ext hB2 hE3).fr hF4 (show ¬ w1.heap.size = w.heap.size by omega)).ext hE5).fr hF6 (show ¬ w1.heap.size = w.heap.size by omega))
 refine goL ?_
 refine xsta hB7 rfl rfl (by kernel_rfl) rfl (one_cells (l := mtC ⟨n, .slice B1 n.attrs.length d1, .slice B2 n.acl.length d2, vd⟩) rfl) (fun w7 hB7 hF7 => ?_)
 have hE06 : Ext w w6 := hN (hE04.t hE5) hF6 (Nat.le_refl _)
 refine goL ?_
 have ne : ∀ {w' : World} {B : Nat} {e : TypeId} {z m : Nat} {v : Value} {vs : List Value}, OwnZ w' B e z v m vs → w.heap.size < B → ∀ b, v.ownBlock = some b → ¬ b = w.heap.size := fun h hlt b hb => by have := (h.blk hb).1; omega
 have ne' : ∀ {w' : World} {B : Nat} {e : TypeId} {z m : Nat} {v : Value} {vs : List Value}, OwnZ w' B e z v m vs → w1.heap.size < B → ∀ b, v.ownBlock = some b → ¬ b = w1.heap.size := fun h hlt b hb => by have := (h.blk hb).1; omega
 exact tretc rfl rfl hB7 (by kernel_rfl) ⟨_, _, rfl, OwnZ.mono (((((hO3.fr hF4 (ne hO3 (by omega))).ext hE5).fr hF6 (ne hO3 (by omega))).fr hF7 (ne' hO3 (by omega)))) (by omega), OwnZ.mono ((hO5.fr hF6 (ne hO5 (by omega))).fr hF7 (ne' hO5 (by omega))) (by omega), hN hE06 hF7 (by omega)⟩
theorem wrong_does (w : World) (g : Nat) (m : FsM) (vf ve vn : Value) (nvs : List NdV) (t : Tre) (p : Str) (h : FsI w g m vf ve vn nvs t) : Does Tryz.prog 73 #[.pointer (some ⟨g, 0, none⟩), .string (su p)] w fun r w' => r = .int .i64 (wrongM t p) ∧ Ext w w' := by
 refine does2 Tryz.func73 rfl (by kernel_rfl) ?_
 have hv := h.tr
 obtain ⟨A, c, rfl, hc1, hc2, hA⟩ := hv.e.op enC_len
 obtain ⟨A', c', rfl, hc1', hc2', hA'⟩ := hv.n.op ndC_len
 have hlen := hv.len
 refine goL ?_
 refine tscope1 (α := Option Str × Int × Nat) 0 rfl (fun x => [(0, .pointer (some ⟨g, 0, none⟩)), (5, .int .i64 x.2.1), (6, .string (su (x.1.getD []))), (7, .bool x.1.isSome)])
  (fun x w' => Ext w w' ∧ (∀ q, x.1 = some q → q.length < x.2.2) ∧ wrongU t x.2.2 x.1 x.2.1 = wrongM t p) (fun x => x.2.2) ?_ ?_
 ·rintro ⟨o, bad, f⟩ w1 ⟨hE, hf, hgo⟩
  dsimp only at hE hf hgo ⊢
  have hB1 := h.k.ext hE
  have k5 : w1.cell? ⟨g, 5, none⟩ = some (.slice A' nvs.length c') := hB1.cell 5
  cases o with
  | none =>
   have hb : wrongU t f none bad = bad := by cases f <;> rfl
   rw [hb] at hgo
   refine goL ?_
   exact tret1 rfl rfl ⟨by rw [hgo], hE⟩
  | some q =>
   obtain ⟨f, rfl⟩ : ∃ f', f = f' + 1 := ⟨f - 1, by have := hf q rfl; omega⟩
   have hf' : ∀ r, parP q = some r → r.length < f := fun r hr => by have h1 := parP_len hr; have h2 := hf q rfl; omega
   rw [wrongU] at hgo
   simp only [Option.getD_some, Option.isSome_some]
   refine goL ?_
   refine xldz (cs := [.slice A t.es.length c, .slice A' nvs.length c']) rfl (by kernel_rfl) (fs_tree hB1) ?_
   refine goL ?_
   refine xcall rfl rfl (find_does w1 _ _ t.es q (hv.e.ext hE)) ?_
   rintro r w2 ⟨rfl, hE2⟩
   have hE02 : Ext w w2 := hE.t hE2
   have k5' : w2.cell? ⟨g, 5, none⟩ = some (.slice A' nvs.length c') := hE2.cell k5
   cases hfd : findT t.es q with
   | none =>
    rw [hfd] at hgo
    dsimp only at hgo
    simp only [Option.getD_none, Option.isSome_none]
    refine goL ?_
    refine xcall rfl rfl (parent_does w2 q) ?_
    rintro r w3 ⟨rfl, hE3⟩
    refine goL ?_
    exact tgoto rfl ⟨_, by dsimp only; omega, rfl, (parP q, 7, f), sub ⟨rfl, rfl, rfl, rfl⟩, ⟨hE02.t hE3, hf', hgo⟩, rfl⟩
   | some k =>
    obtain ⟨i, rfl, hi⟩ := range_nat h.r hfd
    rw [hfd] at hgo
    simp only [Int.toNat_natCast] at hgo
    obtain ⟨b, o, y, rfl, _, hy, _, hcell⟩ := hA'.at_ (i := i) (by omega)
    have hk0 : w2.cell? ⟨b, o + i * 12 + 0, none⟩ = some (.int .i64 y.n.kind) := hE02.cell (hcell 0 _ rfl)
    have hkk : (t.ns.getD i default).kind = y.n.kind := by rw [hv.getD hy]
    simp only [Option.getD_some, Option.isSome_some]
    by_cases hk0 : (t.ns.getD i default).kind = 1
    ·have hk : y.n.kind = 1 := hkk ▸ hk0
     rw [if_pos hk0] at hgo
     refine gz5 ?_
     refine xcall rfl rfl (parent_does w2 q) ?_
     rintro r w3 ⟨rfl, hE3⟩
     refine goL ?_
     exact tgoto rfl ⟨_, by dsimp only; omega, rfl, (parP q, bad, f), sub ⟨rfl, rfl, rfl, rfl⟩, ⟨hE02.t hE3, hf', hgo⟩, rfl⟩
    ·have hk : ¬ y.n.kind = 1 := fun e => hk0 (hkk.trans e)
     rw [if_neg hk0] at hgo
     refine gz5 ?_
     exact tret1 rfl rfl ⟨by rw [hgo], hE02⟩
 ·intro H
  refine goL ?_
  refine xcall rfl rfl (may_does w p) ?_
  rintro r w1 ⟨rfl, hE1⟩
  cases hm : mayP p with
  | false =>
   refine goL ?_
   exact tret1 rfl rfl ⟨by unfold wrongM; rw [hm]; rfl, hE1⟩
  | true =>
   refine goL ?_
   refine xcall rfl rfl (parent_does w1 p) ?_
   rintro r w2 ⟨rfl, hE2⟩
   refine goL ?_
   refine tlabel ?_
   exact tweak (H (parP p, 0, p.length + 1) w2 ⟨hE1.t hE2, fun q hq => by have := parP_len hq; dsimp only; omega, by unfold wrongM; rw [hm]; rfl⟩) (sub ⟨rfl, rfl, rfl, rfl⟩)
theorem fsfind_does (w : World) (g : Nat) (m : FsM) (vf ve vn : Value) (nvs : List NdV) (t : Tre) (p : Str) (h : FsI w g m vf ve vn nvs t) : Does Tryz.prog 65 #[.pointer (some ⟨g, 0, none⟩), .string (su p)] w fun r w' => r = .tuple #[.int .i64 (findM t p).1, .int .i64 (findM t p).2] ∧ Ext w w' := by
 refine does2 Tryz.func65 rfl (by kernel_rfl) ?_
 have hv := h.tr
 obtain ⟨A, c, rfl, hc1, hc2, hA⟩ := hv.e.op enC_len
 obtain ⟨A', c', rfl, hc1', hc2', hA'⟩ := hv.n.op ndC_len
 refine goL ?_
 refine xcall rfl rfl (wrong_does w g m vf _ _ nvs t p h) ?_
 rintro r w1 ⟨rfl, hE1⟩
 unfold findM
 by_cases h0 : wrongM t p = 0
 ·rw [if_neg (fun h => h h0), h0]
  refine goL ?_
  refine xldz (cs := [.slice A t.es.length c, .slice A' nvs.length c']) rfl (by kernel_rfl) (fs_tree (h.k.ext hE1)) ?_
  refine goL ?_
  refine xcall rfl rfl (find_does w1 _ _ t.es p (hv.e.ext hE1)) ?_
  rintro r w2 ⟨rfl, hE2⟩
  cases hfd : findT t.es p with
  | none =>
   simp only [Option.getD_none, Option.isSome_none]
   exact y74
  | some k =>
   simp only [Option.getD_some, Option.isSome_some]
   exact y74
 ·rw [if_pos h0]
  refine goL ?_
  exact tret2 rfl rfl rfl ⟨rfl, hE1⟩
end
section
def getE (m : FsM) (t : Tre) (p : Str) : Int := if (begM m).2.1 = 0 then (findM t p).2 else (begM m).2.1
def nodeAt (t : Tre) (k : Int) : Nd := t.ns.getD k.toNat default
def nilD : NdV := ⟨default, .slice none 0 0, .slice none 0 0, .slice none 0 0⟩
theorem nilD_own (w : World) (B : Nat) : NdO w B nilD := ⟨Ow.nil _ _ _, Ow.nil _ _ _, Ow.nil _ _ _⟩
theorem find_range {t : Tre} (hr : ∀ e ∈ t.es, 0 ≤ e.node ∧ e.node < t.ns.length) {p : Str} (h : (findM t p).2 = 0) : ∃ i : Nat, (findM t p).1 = i ∧ i < t.ns.length := by
 unfold findM at h ⊢
 by_cases h0 : wrongM t p = 0
 ·rw [if_neg (fun h => h h0)] at h ⊢
  cases hf : findT t.es p with
  | none => rw [hf] at h; exact absurd h (by decide)
  | some k => exact range_nat hr hf
 ·rw [if_pos h0] at h
  exact absurd h h0
attribute [local irreducible] xs T
theorem get_does (w : World) (g : Nat) (m : FsM) (vf ve vn : Value) (nvs : List NdV) (t : Tre) (p : Str) (h : FsI w g m vf ve vn nvs t) (hc : 0 ≤ m.calls ∧ m.calls ≤ 4000000000000000000) :
  Does Tryz.prog 34 #[.pointer (some ⟨g, 0, none⟩), .string (su p)] w fun r w' => ∃ x', r = .tuple #[.agg (ndC x').toArray, .int .i64 (getE m t p)] ∧ NdO w' w.heap.size x' ∧ x'.n = (if getE m t p = 0 then nodeAt t (findM t p).1 else default) ∧ FsI w' g (begM m).2.2 vf ve vn nvs t ∧ Fr (· = g) w w' := by
 refine does2 Tryz.func34 rfl (by kernel_rfl) ?_
 have hv := h.tr
 obtain ⟨A, c, rfl, hc1, hc2, hA⟩ := hv.e.op enC_len
 obtain ⟨A', c', rfl, hc1', hc2', hA'⟩ := hv.n.op ndC_len
 have hlen := hv.len
 have hg := h.k.lt
 refine goL ?_
 refine xalloc (z := .agg nd0) (by kernel_rfl) (fun w1 hB1 hE1 hs1 => ?_)
 have h1 := h.ext hE1
 refine goL ?_
 refine xcall rfl rfl (begin_does w1 g m vf _ A _ c h1.k h1.h h1.f hc h1.af) ?_
 rintro r w2 ⟨rfl, hB2, hF2⟩
 have h2 := h1.put hF2 hB2 (begM_flts m)
 have hF02 : Fr (· = g) w w2 := hE1.fr.t hF2
 have hR2 : Blk w2 w.heap.size 67 nd0 := Blk.fr hB1 hF2 (show ¬ w.heap.size = g by omega)
 have z2 := hF02.size
 by_cases e : (begM m).2.1 = 0
 ·have hge : getE m t p = (findM t p).2 := by unfold getE; rw [if_pos e]
  rw [hge, e]
  refine goL ?_
  refine xcall rfl rfl (fsfind_does w2 g _ vf _ _ nvs t p h2) ?_
  rintro r w3 ⟨rfl, hE3⟩
  have h3 := h2.ext hE3
  have hF03 := hF02.te hE3
  have hR3 := hR2.ext hE3
  by_cases e' : (findM t p).2 = 0
  ·obtain ⟨i, hi, hil⟩ := find_range h.r e'
   rw [hi, e', if_pos rfl]
   obtain ⟨b, o, y, rfl, hb, hy, _, hcell⟩ := hA'.at_ (i := i) (by omega)
   have hbg : b ≠ g := h.a b (.inr (.inl rfl))
   have hyI := h.tr.i y (List.mem_of_getElem? hy)
   have hyn : nodeAt t (i : Int) = y.n := by unfold nodeAt; rw [Int.toNat_natCast]; exact hv.getD hy
   have hyl := h.l y.n (List.mem_of_getElem? (hv.get hy))
   have hy3 := h3.tr.i y (List.mem_of_getElem? hy)
   have k5 : w3.cell? ⟨g, 5, none⟩ = some (.slice (some ⟨b, o, none⟩) nvs.length c') := h3.k.cell 5
   refine gz5 ?_
   refine xldz (cs := ndC y) rfl (by kernel_rfl) (fun j u hu => hF03.cell (hcell j u hu) hbg) ?_
   refine goL ?_
   refine xalloc (z := .agg nd0) (by kernel_rfl) (fun w4 hB4 hE4 hs4 => ?_)
   refine goL ?_
   refine xsta hB4 rfl rfl (by kernel_rfl) rfl (one_cells (l := ndC y) (List.all_eq_true.2 (ndC_one hy3))) (fun w5 hB5 hF5 => ?_)
   have hE45 : Ext w3 w5 := hE4.trans hF5 fun j hj e => by have : j = w3.heap.size := e; omega
   have hE35 : Ext w3 w5 := hE45
   have hcell5 : ∀ j u, (mtC y)[j]? = some u → w5.cell? ⟨w3.heap.size, 1 + j, none⟩ = some u := fun j u hu => by
    rw [hB5.cell, List.getElem?_toArray]
    rcases j with _ | _ | _ | _ | _ | _ | j
    all_goals first | exact hu | simp [mtC] at hu
   refine goL ?_
   refine xldz (cs := mtC y) rfl (by kernel_rfl) hcell5 ?_
   have hy5 := hy3.ext hE35
   refine xcall rfl rfl (metacopy_does w5 y hy5.a hy5.c hyl.a hyl.c) ?_
   rintro r w6 ⟨va, vc, rfl, hOa, hOc, hE6⟩
   obtain ⟨A1, c1, rfl, _, _⟩ := hOa.form
   obtain ⟨A2, c2, rfl, _, _⟩ := hOc.form
   have hB6 := hB5.ext hE6
   refine goL ?_
   refine xstk (q := 1) (vs := mtC ⟨y.n, .slice A1 y.n.attrs.length c1, .slice A2 y.n.acl.length c2, y.vd⟩) (nw := (ndC ⟨y.n, .slice A1 y.n.attrs.length c1, .slice A2 y.n.acl.length c2, y.vd⟩).toArray) hB6 rfl rfl (by kernel_rfl) (by show 7 ≤ 12; omega) (fun u hu => by
    simp only [mtC, List.mem_cons, List.not_mem_nil, or_false] at hu
    rcases hu with rfl | rfl | rfl | rfl | rfl | rfl <;> rfl) rfl (fun w7 hB7 hF7 => ?_)
   obtain ⟨A3, c3, hvd, _, _, _⟩ := hy5.d.op pcC_len
   have k8 : w7.cell? ⟨w3.heap.size, 8, none⟩ = some (.slice A3 y.n.data.length c3) := by rw [← hvd]; exact hB7.cell 8
   have z3 := hE3.size; have z4 := hE4.size; have z5 := hF5.size; have z6 := hE6.size; have z7 := hF7.size
   have hE37 : Ext w3 w7 := (hE35.t hE6).trans hF7 fun j hj e => by have : j = w3.heap.size := e; omega
   have hd7 := hy3.d.ext hE37
   rw [hvd] at hd7
   refine goL ?_
   refine xapz (B := w7.heap.size) (news := y.n.data.flatMap pcC) sl_pcs rfl (by decide) rfl (OwnZ.nil _ _ _ _) rfl hd7 (flat_len pcC_len _) (pcC_one _) (by have := hyl.d; unfold maxLen; omega) (by have := hyl.d; omega) (Nat.le_refl _) (fun v8 w8 hO8 hF8 _ => ?_)
   have hE8 : Ext w7 w8 := hF8.mono fun _ _ h => by cases h
   rw [Nat.zero_add] at hO8
   obtain ⟨B3, d3, rfl, _, _⟩ := hO8.form
   refine goL ?_
   refine xstb (Blk.ext hB7 hE8) rfl rfl (by kernel_rfl) rfl rfl (fun w9 hB9 hF9 => ?_)
   have hB9' : Blk w9 w3.heap.size 67 (ndC ⟨y.n, .slice A1 y.n.attrs.length c1, .slice A2 y.n.acl.length c2, .slice B3 y.n.data.length d3⟩).toArray := by
    simp only [Nat.zero_add] at hB9
    exact hB9
   have z8 := hE8.size; have z9 := hF9.size
   have hE39 : Ext w3 w9 := (hE37.t hE8).trans hF9 fun j hj e => by have : j = w3.heap.size := e; omega
   refine goL ?_
   refine xlda (t := 67) hB9' rfl rfl ?_
   refine goL ?_
   refine xsta (hR3.ext hE39) rfl rfl (by kernel_rfl) rfl (one_cells (l := ndC ⟨y.n, .slice A1 y.n.attrs.length c1, .slice A2 y.n.acl.length c2, .slice B3 y.n.data.length d3⟩) rfl) (fun w10 hB10 hF10 => ?_)
   have hOa' := ((((hOa.fr hF7 fun b hb => by have := (hOa.blk hb).1; show ¬ b = w3.heap.size; omega).ext hE8).fr hF9 fun b hb => by have := (hOa.blk hb).1; show ¬ b = w3.heap.size; omega).fr hF10 fun b hb => by have := (hOa.blk hb).1; show ¬ b = w.heap.size; omega)
   have hOc' := ((((hOc.fr hF7 fun b hb => by have := (hOc.blk hb).1; show ¬ b = w3.heap.size; omega).ext hE8).fr hF9 fun b hb => by have := (hOc.blk hb).1; show ¬ b = w3.heap.size; omega).fr hF10 fun b hb => by have := (hOc.blk hb).1; show ¬ b = w.heap.size; omega)
   have hOd' := ((hO8.fr hF9 fun b hb => by have := (hO8.blk hb).1; show ¬ b = w3.heap.size; omega).fr hF10 fun b hb => by have := (hO8.blk hb).1; show ¬ b = w.heap.size; omega)
   refine goL ?_
   refine tretc2 rfl rfl rfl hB10 (by kernel_rfl) ⟨_, rfl, ⟨hOa'.mono (by omega), hOc'.mono (by omega), OwnZ.mono hOd' (by omega)⟩, hyn.symm, ?_, ?_⟩
   ·exact (h3.ext hE39).off hF10 hg h.lt
   ·exact ((hF03.te hE39).trans hF10 fun j hj e => by have : j = w.heap.size := e; omega)
  ·rw [if_neg e']
   refine goL ?_
   refine xbd (parts := []) (cells := nd0) rfl (by kernel_rfl) ?_
   refine goL ?_
   refine xsta hR3 rfl rfl (by kernel_rfl) rfl (one_cells (l := ndC nilD) rfl) (fun w4 hB4 hF4 => ?_)
   refine goL ?_
   refine tretc2 rfl rfl rfl hB4 (by kernel_rfl) ⟨nilD, rfl, nilD_own _ _, rfl, ?_, ?_⟩
   ·exact h3.off hF4 hg h.lt
   ·exact (hF03.trans hF4 fun j hj e => by have : j = w.heap.size := e; omega)
 ·have hge : getE m t p = (begM m).2.1 := by unfold getE; rw [if_neg e]
  rw [hge, if_neg e]
  refine goL ?_
  refine xbd (parts := []) (cells := nd0) rfl (by kernel_rfl) ?_
  refine goL ?_
  refine xsta hR2 rfl rfl (by kernel_rfl) rfl (one_cells (l := ndC nilD) rfl) (fun w4 hB4 hF4 => ?_)
  refine goL ?_
  refine tretc2 rfl rfl rfl hB4 (by kernel_rfl) ⟨nilD, rfl, nilD_own _ _, rfl, ?_, ?_⟩
  ·exact h2.off hF4 hg h.lt
  ·exact (hF02.trans hF4 fun j hj e => by have : j = w.heap.size := e; omega)
theorem tree_does (w : World) (g : Nat) (m : FsM) (vf ve vn : Value) (nvs : List NdV) (t u : Tre) (h : FsI w g m vf ve vn nvs t) (hu : normT t = some u) :
  Does Tryz.prog 25 #[.pointer (some ⟨g, 0, none⟩)] w fun r w' => ∃ ve' vn' nvs', r = .agg #[ve', vn'] ∧ TrO w' w.heap.size ve' vn' nvs' u ∧ Ext w w' := by
 refine does1 Tryz.func25 rfl (by kernel_rfl) ?_
 have hv := h.tr
 obtain ⟨A, c, rfl, hc1, hc2, hA⟩ := hv.e.op enC_len
 obtain ⟨A', c', rfl, hc1', hc2', hA'⟩ := hv.n.op ndC_len
 refine goL ?_
 refine xalloc (z := .agg #[.slice none 0 0, .slice none 0 0]) (by kernel_rfl) (fun w1 hB1 hE1 hs1 => ?_)
 have h1 := h.ext hE1
 refine goL ?_
 refine xcall rfl rfl (fsnone_does w1 g m vf _ A _ c h1.k h1.h) ?_
 rintro r w2 ⟨rfl, rfl⟩
 refine goL ?_
 refine xldz (cs := [.slice A t.es.length c, .slice A' nvs.length c']) rfl (by kernel_rfl) (fs_tree h1.k) ?_
 refine goL ?_
 refine xcall rfl rfl (norm_doesO w1 _ _ nvs t h1.tr h.s h.l) ?_
 rintro r w2 ⟨hE2, hr⟩
 rw [hu] at hr
 obtain ⟨ve', vn', nvs', rfl, hT⟩ := hr
 obtain ⟨A2, c2, rfl, _, _⟩ := hT.e.form
 obtain ⟨A3, c3, rfl, _, _⟩ := hT.n.form
 refine goL ?_
 refine xalloc (z := .agg #[.slice none 0 0, .slice none 0 0]) (by kernel_rfl) (fun w3 hB3 hE3 hs3 => ?_)
 refine goL ?_
 refine xsta hB3 rfl rfl (by kernel_rfl) rfl (one_cells (l := [.slice A2 u.es.length c2, .slice A3 nvs'.length c3]) rfl) (fun w4 hB4 hF4 => ?_)
 have hE24 : Ext w2 w4 := hE3.trans hF4 fun j hj e => by have : j = w2.heap.size := e; omega
 refine goL ?_
 refine xlda (t := 29) hB4 rfl rfl ?_
 refine goL ?_
 refine xsta ((Blk.ext hB1 hE2).ext hE24) rfl rfl (by kernel_rfl) rfl (one_cells (l := [.slice A2 u.es.length c2, .slice A3 nvs'.length c3]) rfl) (fun w5 hB5 hF5 => ?_)
 have hT4 := hT.ext hE24
 have hE04 : Ext w w4 := (hE1.t hE2).t hE24
 refine goL ?_
 refine tretc rfl rfl hB5 (by kernel_rfl) ⟨_, _, nvs', rfl, ?_, hE04.trans hF5 fun j hj e => by have : j = w.heap.size := e; omega⟩
 have ne : ∀ {w' : World} {B : Nat} {e : TypeId} {z m : Nat} {v : Value} {vs : List Value}, OwnZ w' B e z v m vs → w.heap.size < B → ∀ b, v.ownBlock = some b → ¬ b = w.heap.size := fun h hlt b hb => by have := (h.blk hb).1; omega
 have hT5 : TrO w5 w1.heap.size _ _ nvs' u := ⟨hT4.e.fr hF5 (ne hT4.e (by omega)), hT4.n.fr hF5 (ne hT4.n (by omega)), fun x hx => (hT4.i x hx).fr hF5 fun b hb => by have := (hT4.i x hx).f b hb; show ¬ b = w.heap.size; omega, hT4.m⟩
 exact hT5.mono (by omega)
theorem calls_does (w : World) (g : Nat) (m : FsM) (vf ve vn : Value) (h : Blk w g 109 (fsC m vf ve vn)) : Does Tryz.prog 21 #[.pointer (some ⟨g, 0, none⟩)] w fun r w' => r = .int .i64 m.calls ∧ w = w' := by
 refine does1 Tryz.func21 rfl (by kernel_rfl) ?_
 have k2 : w.cell? ⟨g, 2, none⟩ = some (.int .i64 m.calls) := h.cell 2
 refine goL ?_
 exact y10
theorem clock_does (w : World) (g : Nat) (m : FsM) (vf ve vn : Value) (h : Blk w g 109 (fsC m vf ve vn)) : Does Tryz.prog 72 #[.pointer (some ⟨g, 0, none⟩)] w fun r w' => r = .int .i64 m.calls ∧ w = w' := by
 refine does1 Tryz.func72 rfl (by kernel_rfl) ?_
 refine goL ?_
 refine xcall rfl rfl (calls_does w g m vf ve vn h) ?_
 rintro r w1 ⟨rfl, rfl⟩
 refine goL ?_
 exact y10
end
section
structure FsO (w : World) (B g : Nat) (m : FsM) (vf ve vn : Value) (nvs : List NdV) (t : Tre) : Prop where
 i : FsI w g m vf ve vn nvs t
 o : TrO w B ve vn nvs t
 f : Ow flC 2 w B 51 vf m.flts
 b : B ≤ g
theorem TrO.lt {w : World} {B : Nat} {ve vn : Value} {nvs : List NdV} {t : Tre} (h : TrO w B ve vn nvs t) {b : Nat} (hb : TrK ve vn nvs b) : B ≤ b ∧ b < w.heap.size := by
 rcases hb with hb | hb | ⟨x, hx, hb | hb | hb⟩
 ·exact h.e.blk hb
 ·exact h.n.blk hb
 ·exact (h.i x hx).a.blk hb
 ·exact (h.i x hx).c.blk hb
 ·exact (h.i x hx).d.blk hb
theorem TrO.fr {S : Nat → Prop} {w w' : World} {B : Nat} {ve vn : Value} {nvs : List NdV} {t : Tre} (h : TrO w B ve vn nvs t) (hF : Fr S w w') (hS : ∀ b, TrK ve vn nvs b → ¬ S b) : TrO w' B ve vn nvs t :=
 ⟨h.e.fr hF fun b hb => hS b (.inl hb), h.n.fr hF fun b hb => hS b (.inr (.inl hb)), fun x hx => (h.i x hx).fr hF fun b hb => hS b (.inr (.inr ⟨x, hx, hb⟩)), h.m⟩
theorem FsO.ext {w w' : World} {B g : Nat} {m : FsM} {vf ve vn : Value} {nvs : List NdV} {t : Tre} (h : FsO w B g m vf ve vn nvs t) (hE : Ext w w') : FsO w' B g m vf ve vn nvs t := ⟨h.i.ext hE, h.o.ext hE, h.f.ext hE, h.b⟩
theorem FsO.fr {S : Nat → Prop} {w w' : World} {B g : Nat} {m : FsM} {vf ve vn : Value} {nvs : List NdV} {t : Tre} (h : FsO w B g m vf ve vn nvs t) (hF : Fr S w w') (hS : ∀ b, b = g ∨ vf.ownBlock = some b ∨ TrK ve vn nvs b → ¬ S b) : FsO w' B g m vf ve vn nvs t :=
 ⟨h.i.fr hF hS, h.o.fr hF fun b hb => hS b (.inr (.inr hb)), h.f.fr hF fun b hb => hS b (.inr (.inl hb)), h.b⟩
theorem FsO.blk {w : World} {B g : Nat} {m : FsM} {vf ve vn : Value} {nvs : List NdV} {t : Tre} (h : FsO w B g m vf ve vn nvs t) {b : Nat} (hb : b = g ∨ vf.ownBlock = some b ∨ TrK ve vn nvs b) : B ≤ b ∧ b < w.heap.size := by
 rcases hb with rfl | hb | hb
 ·exact ⟨h.b, h.i.k.lt⟩
 ·exact h.f.blk hb
 ·exact h.o.lt hb
theorem FsO.put {w w' : World} {B g : Nat} {m m' : FsM} {vf ve vn : Value} {nvs : List NdV} {t : Tre} (h : FsO w B g m vf ve vn nvs t) (hF : Fr (· = g) w w') (hi : FsI w' g m' vf ve vn nvs t) (hf : m'.flts = m.flts) : FsO w' B g m' vf ve vn nvs t :=
 ⟨hi, h.o.fr hF fun b hb e => h.i.a b hb e, by rw [hf]; exact h.f.fr hF fun b hb e => h.i.af (by rw [hb, e]), h.b⟩
def fromE (q : Int) (t : Tre) : Int := if q < 0 ∨ 1048576 < q ∨ mayT t = false then 1 else if q < (totalT t.ns : Int) then 10 else 0
def FromR (q : Int) (fl : List (Int × Int)) (t : Tre) (e : Int) (w : World) (p : Value) (w' : World) : Prop :=
 Ext w w' ∧ (e ≠ 0 ∧ p = .pointer none ∨ e = 0 ∧ ∃ g vf ve vn nvs, p = .pointer (some ⟨g, 0, none⟩) ∧ FsO w' w.heap.size g ⟨q, fl, 0, false⟩ vf ve vn nvs t)
theorem sl_flts : SlT 23 51 (.agg #[.int .i64 0, .int .i64 0]) 2 16 := slT Tryz.underlying23 (by kernel_rfl)
theorem flC_one (l : List (Int × Int)) : ∀ u ∈ l.flatMap flC, u.oneCell' = true := fun u hu => by
 obtain ⟨x, _, hx⟩ := List.mem_flatMap.1 hu
 simp only [flC, List.mem_cons, List.not_mem_nil, or_false] at hx
 rcases hx with rfl | rfl <;> rfl
def rootN : Nd := ⟨1, 493, 0, 0, 0, [], [], 0, [], [], 0, 0⟩
def rootT : Tre := ⟨[⟨[], 0⟩], [rootN]⟩
def rootV : NdV := ⟨rootN, .slice none 0 0, .slice none 0 0, .slice none 0 0⟩
theorem rootT_may : mayT rootT = true := by decide +kernel
theorem rootT_total : totalT rootT.ns = 0 := rfl
def newE (q : Int) : Int := if q < 0 ∨ 1048576 < q then 1 else 0
theorem newE_eq (q : Int) : fromE q rootT = newE q := by
 unfold fromE newE
 rw [rootT_may, rootT_total]
 by_cases h : q < 0 ∨ 1048576 < q
 ·rw [if_pos h, if_pos (h.elim .inl fun h => .inr (.inl h))]
 ·rw [if_neg h, if_neg (fun hh => hh.elim (fun a => h (.inl a)) fun hh => hh.elim (fun a => h (.inr a)) fun a => by cases a), if_neg (show ¬ q < ((0 : Nat) : Int) from fun a => h (.inl a))]
attribute [local irreducible] xs T
theorem from_does (w : World) (ve vn vf : Value) (nvs : List NdV) (t : Tre) (q : Int) (fl : List (Int × Int)) (hv : TrV w ve vn nvs t) (hf : Rw flC w vf fl) (hL : ∀ n ∈ t.ns, NdL n) (hs : NsOK t.ns) (le : t.es.length ≤ 1000000) (ln : t.ns.length ≤ 1000000) (hfl : fl.length ≤ 1000000) :
  Does Tryz.prog 16 #[.agg #[ve, vn], .int .i64 q, vf] w fun r w' => ∃ p, r = .tuple #[p, .int .i64 (fromE q t)] ∧ FromR q fl t (fromE q t) w p w' := by
 refine does3 Tryz.func16 rfl (by kernel_rfl) ?_
 obtain ⟨A, c, rfl, hc1, hc2, hA⟩ := hv.e.op enC_len
 obtain ⟨A', c', rfl, hc1', hc2', hA'⟩ := hv.n.op ndC_len
 obtain ⟨AF, cF, rfl, hcF1, hcF2, hAF⟩ := hf.op flC_len
 refine goL ?_
 refine xbox rfl (fun w1 hB1 hE1 hs1 => ?_)
 have hB1' : Blk w1 w.heap.size 29 #[.slice A t.es.length c, .slice A' nvs.length c'] := hB1
 by_cases h1 : q < 0
 ·have he : fromE q t = 1 := by unfold fromE; rw [if_pos (.inl h1)]
  rw [he]
  refine goL ?_
  exact tret2 rfl rfl rfl ⟨_, rfl, hE1, .inl ⟨by decide, rfl⟩⟩
 by_cases h2 : 1048576 < q
 ·have he : fromE q t = 1 := by unfold fromE; rw [if_pos (.inr (.inl h2))]
  rw [he]
  refine goL ?_
  exact tret2 rfl rfl rfl ⟨_, rfl, hE1, .inl ⟨by decide, rfl⟩⟩
 refine goL ?_
 refine xlda (t := 29) hB1' rfl rfl ?_
 refine goL ?_
 refine xcallE rfl rfl (tmay_does w1 _ _ nvs t (hv.ext hE1) hs) (fun r w2 h => ?_)
 obtain ⟨rfl, hE2⟩ := h
 have hE02 := hE1.t hE2
 cases hm : mayT t with
 | false =>
  have he : fromE q t = 1 := by unfold fromE; rw [if_pos (.inr (.inr hm))]
  rw [he]
  refine goL ?_
  exact tret2 rfl rfl rfl ⟨_, rfl, hE02, .inl ⟨by decide, rfl⟩⟩
 | true =>
  have hnot : ¬ (q < 0 ∨ 1048576 < q ∨ mayT t = false) := by
   rintro (a | a | a)
   ·exact h1 a
   ·exact h2 a
   ·rw [hm] at a; cases a
  refine goL ?_
  refine xlda (t := 29) (Blk.ext hB1' hE2) rfl rfl ?_
  refine goL ?_
  refine xcallE rfl rfl (tbytes_does w2 _ _ nvs t (hv.ext hE02) hs ln) (fun r w3 h => ?_)
  obtain ⟨rfl, hE3⟩ := h
  have hE03 := hE02.t hE3
  by_cases h3 : q < (totalT t.ns : Int)
  ·have he : fromE q t = 10 := by unfold fromE; rw [if_neg hnot, if_pos h3]
   rw [he]
   refine goL ?_
   exact tret2 rfl rfl rfl ⟨_, rfl, hE03, .inl ⟨by decide, rfl⟩⟩
  have he : fromE q t = 0 := by unfold fromE; rw [if_neg hnot, if_neg h3]
  rw [he]
  refine goL ?_
  refine xlda (t := 29) ((Blk.ext hB1' hE2).ext hE3) rfl rfl ?_
  refine goL ?_
  refine xcall rfl rfl (norm_doesO w3 _ _ nvs t (hv.ext hE03) hs hL) ?_
  rintro r w4 ⟨hE4, hr⟩
  rw [norm_same hm] at hr
  obtain ⟨ve', vn', nvs', rfl, hT⟩ := hr
  obtain ⟨A2, c2, rfl, _, _⟩ := hT.e.form
  obtain ⟨A3, c3, rfl, _, _⟩ := hT.n.form
  refine goL ?_
  refine xalloc (z := .agg #[.slice none 0 0, .slice none 0 0]) (by kernel_rfl) (fun w5 hB5 hE5 hs5 => ?_)
  refine goL ?_
  refine xsta hB5 rfl rfl (by kernel_rfl) rfl (one_cells (l := [.slice A2 t.es.length c2, .slice A3 nvs'.length c3]) rfl) (fun w6 hB6 hF6 => ?_)
  have hE46 : Ext w4 w6 := hE5.trans hF6 fun j hj e => by have : j = w4.heap.size := e; omega
  have hE06 : Ext w w6 := (hE03.t hE4).t hE46
  refine gz0 ?_
  refine tdrawH [36] (fun w' => Blk w' w4.heap.size 29 #[.slice A2 t.es.length c2, .slice A3 nvs'.length c3]) (by kernel_rfl) (by decide +kernel) hB6.drew ?_
  have hE6d : Ext w w6.drew := hE06.d
  refine goL ?_
  refine xapz (B := w6.drew.heap.size) (news := fl.flatMap flC) sl_flts rfl (by decide) rfl (OwnZ.nil _ _ _ _) rfl (Row.ext hf hE6d) (flat_len flC_len _) (flC_one _) (by unfold maxLen; omega) (by omega) (Nat.le_refl _) (fun v7 w7 hO7 hF7 _ => ?_) (fun w7 hF7 => Blk.fr hB6.drew hF7 fun h => by cases h)
  have hE7 : Ext w6.drew w7 := hF7.mono fun _ _ h => by cases h
  rw [Nat.zero_add] at hO7
  obtain ⟨A7, c7, rfl, _, _⟩ := hO7.form
  have hB7 := Blk.ext hB6.drew hE7
  have hE67 : Ext w6 w7 := (Fr.drew noneB w6).t hE7
  refine goL ?_
  refine xldzh (cs := [.slice A2 t.es.length c2, .slice A3 nvs'.length c3]) rfl (by kernel_rfl) (fun w' (h : Blk w' _ _ _) j u hu => by rw [Nat.zero_add, h.cell, List.getElem?_toArray]; exact hu) ?_
  refine goL ?_
  refine xbd (cells := fsC ⟨q, fl, 0, false⟩ (.slice A7 fl.length c7) (.slice A2 t.es.length c2) (.slice A3 nvs'.length c3)) rfl (by first | rfl | kernel_rfl) ?_
  refine goL ?_
  refine xbox rfl (fun w8 hB8 hE8 hs8 => ?_) (fun w8 hE8 => hB7.ext hE8)
  have hE68 := hE67.t hE8
  have hT8 : TrO w8 w3.heap.size _ _ nvs' t := (hT.ext hE46).ext hE68
  have hO8 := hO7.ext hE8
  have z3 := hE03.size
  have z6 := hE06.size
  have z4 := (hE46.t hE68).size
  have zd : w6.drew.heap.size = w6.heap.size := rfl
  have hTlt : ∀ b, TrK (.slice A2 t.es.length c2) (.slice A3 nvs'.length c3) nvs' b → b < w7.heap.size := fun b hb => by
   have := (hT.lt hb).2
   have h6 := (hE46.t hE67).size
   omega
  have hFlt : ∀ b, (Value.slice A7 fl.length c7).ownBlock = some b → b < w7.heap.size := fun b hb => (hO7.blk hb).2
  have hg := may_good hm
  have z7 := hE67.size
  refine goL ?_
  refine tret2 rfl rfl rfl ⟨_, rfl, (hE06.t hE68), .inr ⟨rfl, w7.heap.size, _, _, _, nvs', rfl, ⟨⟨hB8, hO8.row, hT8.v, fun e => by have := hFlt _ e; omega, fun b hb e => by have := hTlt b hb; omega, hg.inr, by unfold mayT at hm; simp only [Bool.and_eq_true, decide_eq_true_eq] at hm; exact hm.1.1.1.1, hL, hs, le, ln, fun b hb => by
   have h8 := hE8.size
   rcases hb with hb | hb
   ·have := hFlt b hb; omega
   ·have := hTlt b hb; omega⟩, hT8.mono (by omega), OwnZ.mono hO8 (by omega), by omega⟩⟩⟩
theorem new_does (w : World) (vf : Value) (q : Int) (fl : List (Int × Int)) (hf : Rw flC w vf fl) (hfl : fl.length ≤ 1000000) :
  Does Tryz.prog 32 #[.int .i64 q, vf] w fun r w' => FromR q fl rootT (newE q) w r w' := by
 refine does2 Tryz.func32 rfl (by kernel_rfl) ?_
 refine goL ?_
 refine xbd (cells := #[.int .i64 493, .int .i64 0, .int .i64 0, .int .i64 0, .slice none 0 0, .slice none 0 0]) rfl (by kernel_rfl) ?_
 refine xbd (cells := (ndC rootV).toArray) rfl (by kernel_rfl) ?_
 refine goL ?_
 refine xalloc (z := .agg nd0) (by kernel_rfl) (fun w1 hB1 hE1 hs1 => ?_)
 refine goL ?_
 refine xsta hB1 rfl rfl (by kernel_rfl) rfl (one_cells (l := ndC rootV) rfl) (fun w2 hB2 hF2 => ?_)
 have hE2 : Ext w w2 := hE1.trans hF2 fun j hj e => by have : j = w.heap.size := e; omega
 refine goL ?_
 refine xbd (cells := (enC ⟨[], 0⟩).toArray) rfl (by kernel_rfl) ?_
 refine xbz1 sl_ents rfl rfl (by decide) (by decide) (fun w3 hB3 hE3 hs3 => ?_)
 refine goL ?_
 refine xlda (t := 67) (Blk.ext hB2 hE3) rfl rfl ?_
 refine goL ?_
 refine xbz1 sl_nds rfl rfl (by decide) (by decide) (fun w4 hB4 hE4 hs4 => ?_)
 refine goL ?_
 refine xbd (cells := #[.slice (some ⟨w2.heap.size, 0, none⟩) 1 1, .slice (some ⟨w3.heap.size, 0, none⟩) 1 1]) rfl (by kernel_rfl) ?_
 refine goL ?_
 refine xalloc (z := .agg #[.slice none 0 0, .slice none 0 0]) (by kernel_rfl) (fun w5 hB5 hE5 hs5 => ?_)
 refine goL ?_
 refine xsta hB5 rfl rfl (by kernel_rfl) rfl (one_cells (l := [.slice (some ⟨w2.heap.size, 0, none⟩) 1 1, .slice (some ⟨w3.heap.size, 0, none⟩) 1 1]) rfl) (fun w6 hB6 hF6 => ?_)
 have hE46 : Ext w4 w6 := hE5.trans hF6 fun j hj e => by have : j = w4.heap.size := e; omega
 have hE06 : Ext w w6 := ((hE2.t hE3).t hE4).t hE46
 have hT : TrV w6 (.slice (some ⟨w2.heap.size, 0, none⟩) 1 1) (.slice (some ⟨w3.heap.size, 0, none⟩) 1 1) [rootV] rootT :=
  ⟨blk_row (n := 1) ((Blk.ext hB3 hE4).ext hE46) (by decide) rfl, blk_row (n := 1) (Blk.ext hB4 hE46) (by decide) rfl, fun x hx => by
   rw [List.mem_singleton.1 hx]; exact ⟨Rw.nil _ _ (by decide), Rw.nil _ _ (by decide), Rw.nil _ _ (by decide)⟩, rfl⟩
 refine goL ?_
 refine xlda (t := 29) hB6 rfl rfl ?_
 refine goL ?_
 refine xcall rfl rfl (from_does w6 _ _ vf [rootV] rootT q fl hT (hf.ext hE06) (fun n hn => by rw [List.mem_singleton.1 hn]; exact ⟨by decide, by decide, by decide⟩) (fun n hn => by rw [List.mem_singleton.1 hn]; decide) (by decide) (by decide) hfl) ?_
 rintro r w7 ⟨p, rfl, hE7, hR⟩
 rw [newE_eq] at hR ⊢
 have z6 := hE06.size
 have key : FromR q fl rootT (newE q) w p w7 := ⟨hE06.t hE7, hR.imp id fun ⟨a, g, vf, ve, vn, nvs, b, c⟩ => ⟨a, g, vf, ve, vn, nvs, b, c.i, c.o.mono z6, OwnZ.mono c.f z6, Nat.le_trans z6 c.b⟩⟩
 refine goL ?_
 exact tret1 rfl rfl key
end
section
section
variable {hs : List Nat} {H : World → Prop} {full : Array Oper} {K : Env → World → Prop} {rest : List Oper} {env : Env} {w : World} {d : Tmp} {ty : TypeId} {pos : String} {af : Array Edge}
theorem xmkf {f : FuncId} {caps : List Operand} {vs : List Value} (hc : evs env caps = some vs) (h : xs Tryz.prog isI isS hs H full K rest ((d, .func (.func f) #[] vs.toArray) :: env) w) :
  xs Tryz.prog isI isS hs H full K (⟨some d, .makeFunc (.func f) #[] caps.toArray, ty, pos, af, none⟩ :: rest) env w := by
 obtain ⟨h1, h2⟩ := evs_spec hc
 refine x_gen rfl (by simpa [opsOK, Op.operands] using h2) ⟨_, fun w' => ?_, h⟩
 simp [execOp, Instr.makeFunc, h1]
end
attribute [local irreducible] xs T
end
section
theorem begM_calls (m : FsM) : m.calls ≤ (begM m).2.2.calls ∧ (begM m).2.2.calls ≤ m.calls + 1 := by
 unfold begM
 split
 ·exact ⟨Int.le_refl _, by dsimp only; omega⟩
 ·split
  ·exact ⟨by dsimp only; omega, by dsimp only; omega⟩
  ·split <;> exact ⟨by dsimp only; omega, by dsimp only; omega⟩
theorem NdO.ne {w : World} {B b : Nat} {x : NdV} {e : TypeId} {cs : Array Value} (h : NdO w B x) (hB : Blk w b e cs) (h1 : 101 ≠ e) (h2 : 103 ≠ e) (h3 : 134 ≠ e) {b' : Nat} (hb : x.va.ownBlock = some b' ∨ x.vc.ownBlock = some b' ∨ x.vd.ownBlock = some b') : b' ≠ b := by
 rintro rfl
 rcases hb with hb | hb | hb
 ·obtain ⟨c, hc⟩ := h.a.typ hb; exact hc.ne_ hB h1 rfl
 ·obtain ⟨c, hc⟩ := h.c.typ hb; exact hc.ne_ hB h2 rfl
 ·obtain ⟨c, hc⟩ := h.d.typ hb; exact hc.ne_ hB h3 rfl
attribute [local irreducible] xs T
end
section
section
variable {hs : List Nat} {H : World → Prop} {full : Array Oper} {K : Env → World → Prop} {rest : List Oper} {env : Env} {w : World} {d : Tmp} {ty : TypeId} {pos : String} {af : Array Edge}
theorem fill_many {size : Nat} {css : List (List Value)} (hn : ∀ cs ∈ css, cs.length = size) (h0 : 0 < size) (init : Array Value) (hi : init.size = css.length * size) : Instr.fill (fun i => some (i * size, size)) init ((css.zipIdx 0).map fun x => (x.2, Value.agg x.1.toArray)) = some css.flatten.toArray := by
 obtain ⟨r, hr, hsz, hk⟩ := Great.fill_dense (s := size) h0 (css.map fun cs => Value.agg cs.toArray) 0 init (fun v hv => by
  obtain ⟨cs, hcs, rfl⟩ := List.mem_map.1 hv
  exact hn cs hcs) (by rw [hi, List.length_map]; simp)
 have e1 : (((css.map fun cs => Value.agg cs.toArray).zipIdx 0).map fun x => (x.2, x.1)) = ((css.zipIdx 0).map fun x => (x.2, Value.agg x.1.toArray)) := by
  rw [List.zipIdx_map, List.map_map]; rfl
 rw [e1] at hr
 rw [hr]
 congr 1
 have hfl : ∀ (l : List (List Value)), (∀ cs ∈ l, cs.length = size) → l.flatten.length = l.length * size := by
  intro l
  induction l with
  | nil => intro _; simp
  | cons x l ih => intro h; rw [List.flatten_cons, List.length_append, ih (fun cs hcs => h cs (by simp [hcs])), h x (by simp), List.length_cons, Nat.succ_mul]; omega
 have hget : ∀ (l : List (List Value)), (∀ cs ∈ l, cs.length = size) → ∀ k, k < l.length * size → l.flatten[k]? = (l[k / size]?).bind fun cs => cs[k % size]? := by
  intro l
  induction l with
  | nil => intro _ k hk; simp at hk
  | cons x l ih =>
   intro h k hk
   have hx := h x (by simp)
   rw [List.flatten_cons]
   by_cases hlt : k < size
   ·rw [List.getElem?_append_left (by omega), Nat.div_eq_of_lt hlt, Nat.mod_eq_of_lt hlt]; rfl
   ·rw [List.length_cons, Nat.succ_mul] at hk
    rw [List.getElem?_append_right (by omega), hx, ih (fun cs hcs => h cs (by simp [hcs])) (k - size) (by omega)]
    have e2 : k / size = (k - size) / size + 1 := by
     rw [← Nat.add_div_right _ h0, Nat.sub_add_cancel (by omega)]
    have e3 : k % size = (k - size) % size := by
     conv => lhs; rw [← Nat.sub_add_cancel (show size ≤ k by omega), Nat.add_mod_right]
    rw [e2, e3]; rfl
 apply Array.ext_getElem?
 intro k
 rw [hk k, List.length_map]
 simp only [Nat.zero_mul, Nat.zero_le, true_and, Nat.zero_add, Nat.sub_zero, List.getElem?_toArray]
 by_cases hlt : k < css.length * size
 ·rw [if_pos hlt, hget css hn k hlt, List.getElem?_map]
  cases css[k / size]? with
  | none => rfl
  | some cs => simp [Value.cells]
 ·rw [if_neg hlt, Array.getElem?_eq_none (by omega), List.getElem?_eq_none (by rw [hfl css hn]; omega)]
def evz (env : Env) : Nat → List (Nat × Operand) → Option (List (List Value))
 | _, [] => some []
 | k, (j, x) :: r => match Nat.beq j k, evo env x, evz env (k + 1) r with
  | true, some (.agg cs), some css => some (cs.toList :: css)
  | _, _, _ => none
theorem evz_spec : ∀ {l : List (Nat × Operand)} {k : Nat} {css : List (List Value)}, evz env k l = some css → (l.map fun p => (p.1, ev env p.2)) = (css.zipIdx k).map (fun x => (x.2, Value.agg x.1.toArray)) ∧ ∀ p ∈ l, (evo env p.2).isSome = true
 | [], k, css, h => by injection h with h; subst h; exact ⟨rfl, by simp⟩
 | (j, x) :: r, k, css, h => by
  simp only [evz] at h
  split at h
  ·rename_i cs css' hb hv hvs; injection h with h; subst h
   obtain ⟨h1, h2⟩ := evz_spec hvs
   have hj := Nat.eq_of_beq_eq_true hb
   subst hj
   refine ⟨by simp [ev_of hv, h1, List.zipIdx_cons], fun p hp => (List.mem_cons.1 hp).elim (fun e => by rw [e, hv]; rfl) (h2 p)⟩
  ·cases h
theorem xbzn {t e : TypeId} {z : Value} {size bytes n : Nat} {parts : List (Nat × Operand)} {css : List (List Value)} (hT : SlT t e z size bytes) (hx : evz env 0 parts = some css) (hn : ∀ cs ∈ css, cs.length = size) (hl : css.length = n) (h0 : 0 < size) (h1 : 0 < n) (hs2 : n * size ≤ 10000)
  (h : ∀ w', Blk w' w.heap.size e css.flatten.toArray → Ext w w' → w'.heap.size = w.heap.size + 1 → xs Tryz.prog isI isS hs H full K rest ((d, .slice (some ⟨w.heap.size, 0, none⟩) n n) :: env) w') (hH : ∀ w', Ext w w' → H w' := by intros; trivial) :
  xs Tryz.prog isI isS hs H full K (⟨some d, .buildSlice t n parts.toArray, ty, pos, af, none⟩ :: rest) env w := by
 obtain ⟨hu, i, hi, hz, hsi, hby⟩ := hT
 obtain ⟨he, ho⟩ := evz_spec hx
 refine xw (by simp only [opsOK, Op.operands]; rw [List.all_eq_true]; intro x hx; simp at hx; obtain ⟨j, hj⟩ := hx; exact ho _ hj) rfl (v := .slice (some ⟨w.heap.size, 0, none⟩) n n) (w' := w.alloc (.cells css.flatten.toArray e)) ?_ (h _ (Blk.new _ _ _) (Fr.alloc _ _ _) (by simp)) (hH _ (Fr.alloc _ _ _))
 have hns : n ≤ n * size := Nat.le_mul_of_pos_right n h0
 have hr := run_buildSlice (P := Tryz.prog) w t e n ((parts.map fun p => (p.1, ev env p.2)).toArray) css.flatten.toArray i z hu hi hz (by rw [hsi]; omega) (by rw [hsi]; have : 0 < n * size := Nat.mul_pos h1 h0; omega) (by
  rw [hsi]
  show Instr.fill _ _ (parts.map fun p => (p.1, ev env p.2)) = _
  rw [he]
  exact fill_many hn h0 _ (by simp [hl]))
 have e2 : (parts.toArray.map fun x => match x with | (i, x) => (i, ev env x)) = (parts.map fun p => (p.1, ev env p.2)).toArray := by simp
 simp only [execOp]
 rw [e2]
 simp [hr]
end
attribute [local irreducible] xs T
theorem node_small {n : Nd} (h : nodeOK n = true) : bytesP n.data ≤ 4000 ∧ n.target.length ≤ 200 := by
 by_cases h2 : n.kind = 2
 ·have hf := node_file h h2
  have := (file_iff n).1 hf
  refine ⟨this.2.2.2.1, ?_⟩
  unfold nodeOK at h
  rw [h2] at h
  simp [noText] at h
  rw [h.2.1.2]
  simp
 ·have key : n.data = [] ∧ n.target.length ≤ 200 := by
   unfold nodeOK at h
   rw [if_neg h2] at h
   split at h
   ·simp [noData, noText] at h
    exact ⟨h.2.1.1.2, by rw [h.2.1.2]; simp⟩
   ·split at h
    ·simp [noData] at h
     exact ⟨h.2.1.1.1.1.2, h.2.1.2⟩
    ·split at h
     ·simp [noData, noText] at h
      exact ⟨h.2.1.1.1.1.1.2, by rw [h.2.1.1.1.1.2]; simp⟩
     ·simp at h
  rw [key.1]
  exact ⟨by simp [bytesP], key.2⟩
end
section
attribute [local irreducible] xs T
theorem NdL.nil {n : Nd} (h : n.attrs = [] ∧ n.acl = [] ∧ n.data = []) : NdL n := ⟨by rw [h.1]; decide, by rw [h.2.1]; decide, by rw [h.2.2]; decide⟩
end
section
attribute [local irreducible] xs T
theorem may_nodes {t : Tre} (h : mayT t = true) : ∀ n ∈ t.ns, nodeOK n = true := by
 obtain ⟨es, ns⟩ := t
 unfold mayT at h
 simp only [Bool.and_eq_true, decide_eq_true_eq] at h
 have := ((ordB_iff ns es none 0 (Nat.zero_le _)).1 h.1.1.2).2.2.2.1
 intro n hn
 obtain ⟨i, hi, rfl⟩ := List.getElem_of_mem hn
 have h2 := this i (Nat.zero_le _) hi
 rwa [List.getD_eq_getElem?_getD, List.getElem?_eq_getElem hi] at h2
theorem node_rows {n : Nd} (h : nodeOK n = true) : NdL n := by
 have hm : metaOK n = true := by
  unfold nodeOK at h
  rw [Bool.and_eq_true] at h
  exact h.1
 unfold metaOK aclOK at hm
 simp only [Bool.and_eq_true, decide_eq_true_eq] at hm
 refine ⟨by omega, by omega, ?_⟩
 by_cases h2 : n.kind = 2
 ·have := (file_pc (node_file h h2)).2.2.2.2; omega
 ·have hb := (node_small h).1
  have key : n.data = [] := by
   unfold nodeOK at h
   rw [if_neg h2] at h
   split at h
   ·simp [noData, noText] at h
    exact h.2.1.1.2
   ·split at h
    ·simp [noData] at h
     exact h.2.1.1.1.1.2
    ·split at h
     ·simp [noData, noText] at h
      exact h.2.1.1.1.1.1.2
     ·simp at h
  rw [key]; exact Nat.zero_le _
theorem may_ok {t : Tre} (h : mayT t = true) : NsOK t.ns ∧ (∀ n ∈ t.ns, NdL n) ∧ TsOK t := by
 have hn := may_nodes h
 have h1 : NsOK t.ns := fun n hnn => by have := (node_small (hn n hnn)).1; omega
 exact ⟨h1, fun n hnn => node_rows (hn n hnn), ⟨h1, fun n hnn => by have := (node_small (hn n hnn)).2; omega, fun e he => by have := mayP_len (mayT_path h e he); omega⟩⟩
theorem may_ns {t : Tre} (h : mayT t = true) : t.ns.length ≤ t.es.length := by
 rw [← first_all h]
 have key : ∀ (l : List En) (u : Nat), finU u l ≤ u + l.length := by
  intro l
  induction l with
  | nil => intro u; exact Nat.le_refl _
  | cons e l ih =>
   intro u
   rw [finU]
   have := ih (if e.node < u then u else u + 1)
   rw [List.length_cons]
   split at this <;> rename_i hh
   ·rw [if_pos hh]; omega
   ·rw [if_neg hh]; omega
 have := key t.es 0
 omega
end
end Go.Proofs.YtiebbecknfpdeaaGreatDoor.Eng
