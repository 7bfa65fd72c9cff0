/-
  Parts of the proof: Zr.
-/
import Derived.Test.YtiebbecknfpdeaaGreatDoorNB0b
import Derived.Test.YtiebbecknfpdeaaGreatDoorNB10
import Derived.Test.YtiebbecknfpdeaaGreatDoorNB2
import Derived.Test.YtiebbecknfpdeaaGreatDoorNB9
import Derived.Test.YtiebbecknfpdeaaGreatDoorNWc
import Derived.Test.YtiebbecknfpdeaaGreatDoorNWp
set_option maxRecDepth 100000
set_option maxHeartbeats 64000000
namespace Go.Proofs.YtiebbecknfpdeaaGreatDoor.Eng
open Go.RowKit
section
def rsC (m : FsM) (vf ve vn : Value) : Array Value := #[ve, vn, .int .i64 m.quota, vf, .int .i64 m.calls, .bool m.down]
structure RsI (w : World) (g : Nat) (m : FsM) (vf ve vn : Value) (nvs : List NdV) (t : Tre) : Prop where
 k : Blk w g 43 (rsC m vf ve vn)
 f : Rw flC w vf m.flts
 tr : TrV w ve vn nvs t
 af : ∀ b, RwK vf m.flts b → b ≠ g
 a : ∀ b, TrN ve vn nvs t b → b ≠ g
 r : ∀ e ∈ t.es, 0 ≤ e.node ∧ e.node < t.ns.length
 s : TsOK t
 le : t.es.length ≤ 1000000
 ln : t.ns.length ≤ 1000000
theorem RsI.lt {w : World} {g : Nat} {m : FsM} {vf ve vn : Value} {nvs : List NdV} {t : Tre} (h : RsI w g m vf ve vn nvs t) : ∀ b, RwK vf m.flts b ∨ TrN ve vn nvs t b → b < w.heap.size := fun _ hb => hb.elim (fun hb => h.f.ltN hb) fun hb => h.tr.ltN hb
theorem RsI.ext {w w' : World} {g : Nat} {m : FsM} {vf ve vn : Value} {nvs : List NdV} {t : Tre} (h : RsI w g m vf ve vn nvs t) (hE : Ext w w') : RsI w' g m vf ve vn nvs t := ⟨h.k.ext hE, h.f.ext hE, h.tr.ext hE, h.af, h.a, h.r, h.s, h.le, h.ln⟩
theorem RsI.fr {S : Nat → Prop} {w w' : World} {g : Nat} {m : FsM} {vf ve vn : Value} {nvs : List NdV} {t : Tre} (h : RsI w g m vf ve vn nvs t) (hF : Fr S w w') (hS : ∀ b, b = g ∨ RwK vf m.flts b ∨ TrN ve vn nvs t b → ¬ S b) : RsI w' g m vf ve vn nvs t :=
 ⟨h.k.fr hF (hS g (.inl rfl)), h.f.frN hF fun b hb => hS b (.inr (.inl hb)), h.tr.frN hF fun b hb => hS b (.inr (.inr hb)), h.af, h.a, h.r, h.s, h.le, h.ln⟩
theorem RsI.put {w w' : World} {g : Nat} {m m' : FsM} {vf ve vn : Value} {nvs : List NdV} {t : Tre} (h : RsI w g m vf ve vn nvs t) (hF : Fr (· = g) w w') (hk : Blk w' g 43 (rsC m' vf ve vn)) (hf : m'.flts = m.flts) : RsI w' g m' vf ve vn nvs t :=
 ⟨hk, by rw [hf]; exact h.f.frN hF fun b hb e => h.af b hb e, h.tr.frN hF fun b hb e => h.a b hb e, by rw [hf]; exact h.af, h.a, h.r, h.s, h.le, h.ln⟩
theorem RsI.off {w w' : World} {g k : Nat} {m : FsM} {vf ve vn : Value} {nvs : List NdV} {t : Tre} (h : RsI w g m vf ve vn nvs t) (hF : Fr (· = k) w w') (hg : g < k) (hl : ∀ b, RwK vf m.flts b ∨ TrN ve vn nvs t b → b < k) : RsI w' g m vf ve vn nvs t :=
 h.fr hF fun b hb => by
  rcases hb with rfl | hb
  ·show ¬ _ = k; omega
  ·have := hl b hb
   show ¬ _ = k; omega
theorem rs_tree {w : World} {g : Nat} {m : FsM} {vf ve vn : Value} (h : Blk w g 43 (rsC m vf ve vn)) : ∀ j u, [ve, vn][j]? = some u → w.cell? ⟨g, 0 + j, none⟩ = some u := by
 intro j u hu
 rcases j with _ | _ | j
 ·injection hu with hu; subst hu; exact h.cell 0
 ·injection hu with hu; subst hu; exact h.cell 1
 ·simp at hu
theorem any_take {α : Type} (f : α → Bool) (l : List α) (i : Nat) (x : α) (hx : l[i]? = some x) (h : (l.take i).any f = false) : (l.take (i + 1)).any f = f x := by
 rw [List.take_add_one, List.any_append, h, hx]
 simp
theorem any_of {α : Type} (f : α → Bool) (l : List α) (i : Nat) (x : α) (hx : l[i]? = some x) (h : f x = true) : l.any f = true := List.any_eq_true.2 ⟨x, List.mem_of_getElem? hx, h⟩
attribute [local irreducible] xs T
theorem rcall_does (w : World) (g : Nat) (m : FsM) (vf ve vn : Value) (hB : Blk w g 43 (rsC m vf ve vn)) (hf : Rw flC w vf m.flts) (hc : 0 ≤ m.calls ∧ m.calls ≤ 4000000000000000000) :
  Does Tryz.prog 144 #[.pointer (some ⟨g, 0, none⟩)] w fun r w' => r = .int .i64 (rcal m) ∧ Blk w' g 43 (rsC (begM m).2.2 vf ve vn) ∧ Fr (· = g) w w' := by
 refine does1 Tryz.func144 rfl (by kernel_rfl) ?_
 obtain ⟨AF, cF, rfl, hcF1, hcF2, hAF⟩ := hf.op flC_len
 have k5 : w.cell? ⟨g, 5, none⟩ = some (.bool m.down) := hB.cell 5
 rcases Bool.eq_false_or_eq_true m.down with hd | hd
 ·rw [hd] at k5
  refine goL ?_
  exact tret1 rfl rfl ⟨by rw [(rcal_down hd).1], by rw [(rcal_down hd).2]; exact hB, Fr.refl _ _⟩
 ·rw [hd] at k5
  have k3 : w.cell? ⟨g, 3, none⟩ = some (.slice AF m.flts.length cF) := hB.cell 3
  refine goL ?_
  refine tloop (α := Int × Nat) (fun x => [(0, .pointer (some ⟨g, 0, none⟩)), (3, .int .i64 x.1), (4, .int .i64 ((x.2 : Int) - 1))]) (fun x w' => Ext w w' ∧ x.2 ≤ m.flts.length ∧ x.1 = rcalK (m.flts.drop x.2) m.calls) (fun x => x.2) (0, m.flts.length) (sub ⟨rfl, rfl, rfl⟩) ⟨Fr.refl _ _, Nat.le_refl _, by rw [List.drop_length]; rfl⟩ ?_
  rintro ⟨k, j⟩ w1 ⟨hE, hj, hk⟩
  dsimp only at hE hj hk ⊢
  rcases j with _ | j
  ·rw [List.drop_zero] at hk
   have hB1 := hB.ext hE
   have k4 : w1.cell? ⟨g, 4, none⟩ = some (.int .i64 m.calls) := hB1.cell 4
   have hz : ¬ (((0 : Nat) : Int) - 1 ≥ 0) := by omega
   have hr := rcal_up hd
   by_cases h3 : k = 3
   ·have hk3 : rcalK m.flts m.calls = 3 := by rw [← hk, h3]
    rw [hr, hk3, decide_eq_true rfl]
    have hrc : rcal m = -1 := by unfold rcal; rw [if_neg (by rw [hd]; decide), if_pos hk3]
    refine goL ?_
    refine xstb hB1 rfl rfl (by kernel_rfl) rfl rfl (fun w2 hB2 hF2 => ?_)
    refine goL ?_
    refine xstb hB2 rfl rfl (by kernel_rfl) rfl rfl (fun w3 hB3 hF3 => ?_)
    refine goL ?_
    exact tret1 rfl rfl ⟨by rw [hrc], hB3, (hE.fr.t hF2).t hF3⟩
   ·have hk3 : rcalK m.flts m.calls ≠ 3 := by rw [← hk]; exact h3
    have hst : (begM m).2.2 = { m with calls := m.calls + 1 } := by rw [hr, decide_eq_false hk3, ← hd]
    rw [hst]
    have hrc : rcal m = k := by unfold rcal; rw [if_neg (by rw [hd]; decide), if_neg hk3, hk]
    refine goL ?_
    refine xstb hB1 rfl rfl (by kernel_rfl) rfl rfl (fun w2 hB2 hF2 => ?_)
    refine goL ?_
    exact tret1 rfl rfl ⟨by rw [hrc], hB2, hE.fr.t hF2⟩
  ·obtain ⟨b, o, a, rfl, _, hx, hdr, hcell⟩ := hAF.at_ (i := j) (by omega)
   have hE1 : Ext w w1.drew := hE.d
   have hB1 := hB.ext hE1
   have k3' : w1.drew.cell? ⟨g, 3, none⟩ = some (.slice (some ⟨b, o, none⟩) m.flts.length cF) := hB1.cell 3
   have k4 : w1.drew.cell? ⟨g, 4, none⟩ = some (.int .i64 m.calls) := hB1.cell 4
   have q0 : w1.drew.cell? ⟨b, o + j * 2 + 0, none⟩ = some (.int .i64 a.1) := hE1.cell (hcell 0 _ rfl)
   have q1 : w1.drew.cell? ⟨b, o + j * 2 + 1, none⟩ = some (.int .i64 a.2) := hE1.cell (hcell 1 _ rfl)
   have hkd : rcalK (m.flts.drop j) m.calls = if a.1 = m.calls then clK a.2 else k := by rw [hdr, rcalK_cons, hk]
   by_cases h1 : a.1 = m.calls
   ·rw [if_pos h1] at hkd
    by_cases h2 : a.2 < 1
    ·have hc1 : clK a.2 = 1 := by unfold clK; rw [if_pos (.inl h2)]
     exact y88
    ·by_cases h3 : 3 < a.2
     ·have hc1 : clK a.2 = 1 := by unfold clK; rw [if_pos (.inr h3)]
      exact y88
     ·have hc1 : clK a.2 = a.2 := by unfold clK; rw [if_neg (by omega)]
      refine gz26 ?_
      exact tfin ⟨(a.2, j), sub ⟨rfl, rfl, ieq (by omega)⟩, ⟨hE1, by omega, by rw [hkd, hc1]⟩, (by show j < j + 1; omega)⟩
   ·rw [if_neg h1] at hkd
    refine gz26 ?_
    exact tfin ⟨(k, j), sub ⟨rfl, rfl, ieq (by omega)⟩, ⟨hE1, by omega, hkd.symm⟩, (by show j < j + 1; omega)⟩
theorem rfault_does (w : World) (g : Nat) (m : FsM) (vf ve vn : Value) (hB : Blk w g 43 (rsC m vf ve vn)) (hf : Rw flC w vf m.flts) (hc : 0 ≤ m.calls ∧ m.calls ≤ 4000000000000000000) :
  Does Tryz.prog 102 #[.pointer (some ⟨g, 0, none⟩)] w fun r w' => r = .int .i64 (begM m).2.1 ∧ Blk w' g 43 (rsC (begM m).2.2 vf ve vn) ∧ Fr (· = g) w w' := by
 refine does1 Tryz.func102 rfl (by kernel_rfl) ?_
 refine goL ?_
 refine xcall rfl rfl (rcall_does w g m vf ve vn hB hf hc) ?_
 rintro r w1 ⟨rfl, hB1, hF1⟩
 rcases rcal_cases m with ⟨h1, h2, _⟩ | ⟨h1, h2, _⟩ | ⟨h1, h2, _⟩
 ·rw [h1]
  refine goL ?_
  exact tret1 rfl rfl ⟨by rw [h2], hB1, hF1⟩
 ·refine goL ?_
  exact tret1 rfl rfl ⟨by rw [h2], hB1, hF1⟩
 ·rw [h1]
  refine goL ?_
  exact tret1 rfl rfl ⟨by rw [h2], hB1, hF1⟩
structure UpI (w : World) (p : Str) (x : Option Str × Nat × List Str × Value) (w' : World) : Prop where
 e : Ext w w'
 q : ∀ q, x.1 = some q → q.length < x.2.1
 l : parsP p = x.2.2.1.reverse ++ parsF x.2.1 x.1
 o : Ow stC 1 w' w.heap.size 9 x.2.2.2 x.2.2.1
 n : x.2.2.1.length + x.2.1 ≤ p.length + 1
theorem rup_does (w : World) (g : Nat) (m : FsM) (vf ve vn : Value) (nvs : List NdV) (t : Tre) (p : Str) (h : RsI w g m vf ve vn nvs t) (hp : p.length ≤ 1000000) : Does Tryz.prog 141 #[.pointer (some ⟨g, 0, none⟩), .string (su p)] w fun r w' => r = .int .i64 (wrongM t p) ∧ Ext w w' := by
 refine does2 Tryz.func141 rfl (by kernel_rfl) ?_
 have hv := h.tr
 obtain ⟨A, c, rfl, hc1, hc2, hA⟩ := hv.e.op enC_len
 obtain ⟨A', c', rfl, hc1', hc2', hA'⟩ := hv.n.op ndC_len
 have hlen := hv.len
 have hone : ∀ (l : List Str), ∀ u ∈ l.flatMap stC, u.oneCell' = true := fun l u hu => by
  obtain ⟨x, _, hx⟩ := List.mem_flatMap.1 hu
  rw [List.mem_singleton.1 hx]; rfl
 rw [wrongM_eq]
 refine goL ?_
 refine xcall rfl rfl (rmay_does w p hp) ?_
 rintro r w1 ⟨rfl, hE1⟩
 cases hm : mayP p with
 | false =>
  exact y44
 | true =>
  rw [if_pos rfl]
  refine goL ?_
  refine xcall rfl rfl (rparent_does w1 p hp) ?_
  rintro r w2 ⟨rfl, hE2⟩
  have hE02 : Ext w w2 := hE1.t hE2
  refine goL ?_
  refine tloop (α := Option Str × Nat × List Str × Value) (fun x => [(0, .pointer (some ⟨g, 0, none⟩)), (5, x.2.2.2), (6, .string (su (x.1.getD []))), (7, .bool x.1.isSome)]) (UpI w p) (fun x => x.2.1) (parP p, p.length + 1, [], .slice none 0 0) (sub ⟨rfl, rfl, rfl, rfl⟩) ⟨hE02, fun q hq => by have := parP_len hq; dsimp only; omega, rfl, Ow.nil _ _ _, by dsimp only; simp⟩ ?_
  rintro ⟨o, f, acc, vl⟩ w3 hI
  have hE3 := hI.e
  have hq := hI.q
  have hl := hI.l
  have hO := hI.o
  have hn := hI.n
  dsimp only at hE3 hq hl hO hn ⊢
  obtain ⟨Al, cl, rfl, hl1, hl2, hAl⟩ := hO.rw.op stC_len
  cases o with
  | some q =>
   obtain ⟨f, rfl⟩ : ∃ f', f = f' + 1 := ⟨f - 1, by have := hq q rfl; omega⟩
   have hql := hq q rfl
   simp only [Option.getD_some, Option.isSome_some]
   refine goL ?_
   refine xbs sl_strs rfl rfl (by decide) (by decide) (fun u hu => by rw [List.mem_singleton.1 hu]; rfl) (fun w4 hB4 hE4 hs4 => ?_)
   have hO4 : Ow stC 1 w4 w.heap.size 9 (.slice (some ⟨w3.heap.size, 0, none⟩) 1 1) [q] := Ow.of_blk stC_len hB4 rfl hE3.size rfl (by decide)
   have hE34 := hE3.t hE4
   refine goL ?_
   refine xapz (news := acc.flatMap stC) sl_strs rfl (by decide) rfl hO4 rfl (hO.rw.ext hE4) (flat_len stC_len _) (hone _) (by rw [List.length_singleton]; unfold maxLen; omega) (by rw [List.length_singleton]; omega) hE34.size (fun v5 w5 hO5 hF5 _ => ?_)
   have hO5' : Ow stC 1 w5 w.heap.size 9 v5 (q :: acc) := Ow.ext1 (l := [q]) (l' := acc) hO5
   have hE35 : Ext w3 w5 := hE4.trans hF5 fun j hj e => by have e' : w3.heap.size = j := Option.some.inj e; omega
   refine goL ?_
   refine xcall rfl rfl (rparent_does w5 q (by omega)) ?_
   rintro r w6 ⟨rfl, hE6⟩
   refine goL ?_
   exact tfin ⟨(parP q, f, q :: acc, v5), sub ⟨rfl, rfl, rfl, rfl⟩, ⟨(hE3.t hE35).t hE6, fun r hr => by have := parP_len hr; dsimp only; omega, by dsimp only; rw [hl, parsF, List.reverse_cons, List.append_assoc]; rfl, hO5'.ext hE6, by dsimp only; rw [List.length_cons]; omega⟩, (by show f < f + 1; omega)⟩
  | none =>
   have hps : parsP p = acc.reverse := by
    rw [hl, show parsF f none = [] by cases f <;> rfl, List.append_nil]
   have e1 : (parsP p).any (fileQ t) = acc.any (fileQ t) := by rw [hps, List.any_reverse]
   have e2 : (parsP p).any (missQ t) = acc.any (missQ t) := by rw [hps, List.any_reverse]
   rw [e1, e2]
   have hal : acc.length ≤ 1000001 := by omega
   simp only [Option.getD_none, Option.isSome_none]
   refine goL ?_
   refine tloop (α := Nat) (fun i => [(0, .pointer (some ⟨g, 0, none⟩)), (5, .slice Al acc.length cl), (8, .int .i64 (i : Int))]) (fun i w' => Ext w3 w' ∧ i ≤ acc.length ∧ (acc.take i).any (fileQ t) = false) (fun i => acc.length - i) 0 (sub ⟨rfl, rfl, rfl⟩) ⟨Fr.refl _ _, Nat.zero_le _, rfl⟩ ?_
   rintro i w4 ⟨hE4, hi, hno⟩
   by_cases hlt : i < acc.length
   ·obtain ⟨b, o, q, rfl, _, hx, _, hcell⟩ := hAl.at_ hlt
    have hE4d : Ext w3 w4.drew := hE4.d
    have hE04 : Ext w w4.drew := hE3.t hE4d
    have q0 : w4.drew.cell? ⟨b, o + i, none⟩ = some (.string (su q)) := by
     have := hE4d.cell (hcell 0 _ rfl)
     rwa [Nat.mul_one, Nat.add_zero] at this
    have hat := any_take (fileQ t) acc i q hx hno
    repeat' (first | refine xisq i (o + i) rfl rfl rfl rfl rfl hlt ?_ | refine xldz (cs := [.slice A t.es.length c, .slice A' nvs.length c']) rfl (by kernel_rfl) (rs_tree (h.k.ext hE04)) ?_ | refine go1L ?_ | fail)
    refine xcall rfl rfl (rfind_does w4.drew _ _ t.es q (hv.e.ext hE04)) ?_
    rintro r w5 ⟨rfl, hE5⟩
    have hE35 : Ext w3 w5 := hE4d.t hE5
    have hE05 : Ext w w5 := hE04.t hE5
    cases hfd : findT t.es q with
    | none =>
     have hf0 : fileQ t q = false := by unfold fileQ; rw [hfd]
     simp only [Option.getD_none, Option.isSome_none]
     refine goL ?_
     exact y93
    | some k =>
     obtain ⟨j, rfl, hj⟩ := range_nat h.r hfd
     obtain ⟨b2, o2, y, rfl, _, hy, _, hcell2⟩ := hA'.at_ (i := j) (by omega)
     have k1 : w5.cell? ⟨g, 1, none⟩ = some (.slice (some ⟨b2, o2, none⟩) nvs.length c') := (h.k.ext hE05).cell 1
     have hk0 : w5.cell? ⟨b2, o2 + j * 12 + 0, none⟩ = some (.int .i64 y.n.kind) := hE05.cell (hcell2 0 _ rfl)
     have hkk : (t.ns.getD j default).kind = y.n.kind := by rw [hv.getD hy]
     simp only [Option.getD_some, Option.isSome_some]
     by_cases hk : y.n.kind = 1
     ·have hf0 : fileQ t q = false := by unfold fileQ; rw [hfd]; dsimp only; rw [Int.toNat_natCast, hkk, hk]; rfl
      repeat' (first | refine xizq j (o2 + j * 12) rfl rfl rfl rfl rfl (by omega) ?_ | refine go1L ?_ | fail)
      exact y93
     ·have hf0 : fileQ t q = true := by unfold fileQ; rw [hfd]; dsimp only; rw [Int.toNat_natCast, hkk]; exact decide_eq_true hk
      repeat' (first | refine xizq j (o2 + j * 12) rfl rfl rfl rfl rfl (by omega) ?_ | refine go1L ?_ | fail)
      exact tret1 rfl rfl ⟨by rw [any_of (fileQ t) acc i q hx hf0]; rfl, hE05⟩
   ·obtain rfl : i = acc.length := by omega
    rw [List.take_length] at hno
    rw [hno, if_neg (by decide)]
    refine goL ?_
    refine tloop (α := Nat) (fun i => [(0, .pointer (some ⟨g, 0, none⟩)), (5, .slice Al acc.length cl), (11, .int .i64 (i : Int))]) (fun i w' => Ext w3 w' ∧ i ≤ acc.length ∧ (acc.take i).any (missQ t) = false) (fun i => acc.length - i) 0 (sub ⟨rfl, rfl, rfl⟩) ⟨hE4, Nat.zero_le _, rfl⟩ ?_
    rintro i w5 ⟨hE5, hi5, hno5⟩
    by_cases hlt5 : i < acc.length
    ·obtain ⟨b, o, q, rfl, _, hx, _, hcell⟩ := hAl.at_ hlt5
     have hE5d : Ext w3 w5.drew := hE5.d
     have hE05 : Ext w w5.drew := hE3.t hE5d
     have q0 : w5.drew.cell? ⟨b, o + i, none⟩ = some (.string (su q)) := by
      have := hE5d.cell (hcell 0 _ rfl)
      rwa [Nat.mul_one, Nat.add_zero] at this
     have hat := any_take (missQ t) acc i q hx hno5
     repeat' (first | refine xisq i (o + i) rfl rfl rfl rfl rfl hlt5 ?_ | refine xldz (cs := [.slice A t.es.length c, .slice A' nvs.length c']) rfl (by kernel_rfl) (rs_tree (h.k.ext hE05)) ?_ | refine go1L ?_ | fail)
     refine xcall rfl rfl (rfind_does w5.drew _ _ t.es q (hv.e.ext hE05)) ?_
     rintro r w6 ⟨rfl, hE6⟩
     have hE36 : Ext w3 w6 := hE5d.t hE6
     cases hfd : findT t.es q with
     | none =>
      have hf0 : missQ t q = true := by unfold missQ; rw [hfd]; rfl
      simp only [Option.getD_none, Option.isSome_none]
      refine goL ?_
      exact tret1 rfl rfl ⟨by rw [any_of (missQ t) acc i q hx hf0]; rfl, hE05.t hE6⟩
     | some k =>
      have hf0 : missQ t q = false := by unfold missQ; rw [hfd]; rfl
      simp only [Option.getD_some, Option.isSome_some]
      refine goL ?_
      exact tfin ⟨i + 1, sub ⟨rfl, rfl, rfl⟩, ⟨hE36, hlt5, by rw [hat, hf0]⟩, (by show acc.length - (i + 1) < acc.length - i; omega)⟩
    ·obtain rfl : i = acc.length := by omega
     rw [List.take_length] at hno5
     rw [hno5, if_neg (by decide)]
     refine goL ?_
     exact tret1 rfl rfl ⟨rfl, hE3.t hE5⟩
theorem rsfind_does (w : World) (g : Nat) (m : FsM) (vf ve vn : Value) (nvs : List NdV) (t : Tre) (p : Str) (h : RsI w g m vf ve vn nvs t) (hp : p.length ≤ 1000000) : Does Tryz.prog 103 #[.pointer (some ⟨g, 0, none⟩), .string (su p)] w fun r w' => r = .tuple #[.int .i64 (findM t p).1, .int .i64 (findM t p).2] ∧ Ext w w' := by
 refine does2 Tryz.func103 rfl (by kernel_rfl) ?_
 have hv := h.tr
 obtain ⟨A, c, rfl, hc1, hc2, hA⟩ := hv.e.op enC_len
 obtain ⟨A', c', rfl, hc1', hc2', hA'⟩ := hv.n.op ndC_len
 refine goL ?_
 refine xcall rfl rfl (rup_does w g m vf _ _ nvs t p h hp) ?_
 rintro r w1 ⟨rfl, hE1⟩
 unfold findM
 by_cases h0 : wrongM t p = 0
 ·rw [if_neg (fun h => h h0), h0]
  refine goL ?_
  refine xldz (cs := [.slice A t.es.length c, .slice A' nvs.length c']) rfl (by kernel_rfl) (rs_tree (h.k.ext hE1)) ?_
  refine goL ?_
  refine xcall rfl rfl (rfind_does w1 _ _ t.es p (hv.e.ext hE1)) ?_
  rintro r w2 ⟨rfl, hE2⟩
  cases hfd : findT t.es p with
  | none =>
   simp only [Option.getD_none, Option.isSome_none]
   exact y74
  | some k =>
   simp only [Option.getD_some, Option.isSome_some]
   exact y74
 ·rw [if_pos h0]
  refine goL ?_
  exact tret2 rfl rfl rfl ⟨rfl, hE1⟩
end
end Go.Proofs.YtiebbecknfpdeaaGreatDoor.Eng
