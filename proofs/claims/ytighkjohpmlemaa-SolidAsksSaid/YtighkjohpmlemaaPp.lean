/-
  Laws of packed forms: PackTurned.
-/
import Derived.Test.YtighkjohpmlemaaPo
namespace Go.Proofs.Ytighkjohpmlemaa
open Go.RowKit
namespace Eng

section
variable {hs : List Nat} {H : World → Prop} {full : Array Oper} {K : Env → World → Prop} {rest : List Oper} {env : Env} {w : World} {d : Tmp} {ty : TypeId} {pos : String} {af : Array Edge}
/-- Storing into a row of the call's own. -/
theorem xsto {t e : TypeId} {x y : Operand} {B g n c i : Nat} {vs : List Value} {u : Value} (hown : Own w B e (.slice (some ⟨g, 0, none⟩) n c) vs) (hx : evo env x = some (.pointer (some ⟨g, i, none⟩))) (hy : evo env y = some u) (ht : one t = true) (hu : u.oneCell' = true) (hi : i < vs.length)
    (h : ∀ w', Own w' B e (.slice (some ⟨g, 0, none⟩) n c) (vs.set i u) → Fr (· = g) w w' → xs Try.prog isI isS hs H full K rest env w') (hH : ∀ w', Fr (· = g) w w' → H w' := by intros; trivial) : xs Try.prog isI isS hs H full K (⟨none, .store t x y, ty, pos, af, none⟩ :: rest) env w := by
  obtain ⟨h1, h2⟩ := hown
  rcases h2 with ⟨e1, _⟩ | ⟨g', cap, cur, e1, hg, hh, h3, h4, h5, h6⟩
  · cases e1
  injection e1 with e1 e2 e3
  injection e1 with e1
  injection e1 with e1
  subst e1; subst e3
  rw [Nat.mul_one] at h5 h6
  refine xstb (bt := e) (cs := cur) hh hx hy ht hu (by rw [decide_eq_true_eq]; omega) (fun w' hB' hF' => h w' ⟨by simp, .inr ⟨g, c, _, by rw [List.length_set, e2], hg, hB', by rw [List.length_set]; exact h3, h4, by simp [h5], ?_⟩⟩ hF') hH
  rw [List.length_set, Nat.mul_one, Array.toList_setIfInBounds, List.take_set, h6]
end

attribute [local irreducible] xs T

theorem getD_set_ne {l : List Int} {k : Nat} {z : Int} (hk : k < l.length) (h : z ≠ l.getD k 0) : l.set k z ≠ l := fun e => by
  have := congrArg (fun m : List Int => m.getD k 0) e
  simp only [List.getD_eq_getElem?_getD, List.getElem?_set_self hk] at this
  rw [List.getD_eq_getElem?_getD] at h
  exact h this
theorem byts_set {l : List Int} {k : Nat} {z : Int} (hl : Byts l) (hz : 0 ≤ z ∧ z < 256) : Byts (l.set k z) := fun y hy => by
  rcases List.mem_or_eq_of_mem_set hy with h | rfl
  · exact hl y h
  · exact hz
theorem byts_at {l : List Int} {k : Nat} (hl : Byts l) (hk : k < l.length) : 0 ≤ l.getD k 0 ∧ l.getD k 0 < 256 := by
  rw [List.getD_eq_getElem?_getD, List.getElem?_eq_getElem hk]
  exact hl _ (List.getElem_mem _)
theorem Own.cell {w : World} {B : Nat} {e : TypeId} {zs : List Int} {g n c k : Nat} (h : Own w B e (.slice (some ⟨g, 0, none⟩) n c) (zs.map (Value.int .u8))) (hk : k < zs.length) : w.cell? ⟨g, k, none⟩ = some (.int .u8 (zs.getD k 0)) := by
  obtain ⟨A, c', e1, _, _, hA⟩ := h.row
  injection e1 with e1
  subst e1
  obtain ⟨b, o, e2, _, hc⟩ := hA (by rw [List.length_map]; omega)
  injection e2 with e2
  injection e2 with e2 e3
  subst e2; subst e3
  have := hc k (.int .u8 (zs.getD k 0)) (by rw [List.getElem?_map, List.getD_eq_getElem?_getD, List.getElem?_eq_getElem hk]; rfl)
  rwa [Nat.zero_add] at this

set_option maxRecDepth 20000 in
set_option maxHeartbeats 4000000 in
theorem packTurned_does (w : World) (v : Value) (zs : List Int) (hv : IRow w v zs) (at_ : Int) (_ha : -9223372036854775808 ≤ at_ ∧ at_ ≤ 9223372036854775807) (turn : Int) (htu : 0 ≤ turn ∧ turn < 256) :
    Does Try.prog 9 #[v, .int .i64 at_, .int .u8 turn] w fun r w' => r = .bool true ∧ Ext w w' := by
  refine does3 Try.func9 rfl (by kernel_rfl) ?_
  refine goL ?_
  refine xcall rfl rfl (text_does w _ zs 400 hv (by decide)) (fun r w1 h1 => ?_)
  obtain ⟨x, rx, hx, lx, hE1⟩ := h1
  obtain ⟨A1, c1, rfl, hc1, hm1⟩ := rx.form
  refine goL ?_
  refine xcall rfl rfl (put_does w1 _ x rx hx) (fun r w2 h2 => ?_)
  obtain ⟨v2, rfl, hown2, hE2⟩ := h2
  rw [ptE_ok (by omega)]
  rw [ptB_ok (by omega)] at hown2
  have hpl := putB_len x
  have hpb := putB_byts hx (show x.length ≤ 12000 by omega)
  obtain ⟨p, hp⟩ : ∃ p, p = putB x := ⟨_, rfl⟩
  rw [← hp] at hown2 hpl hpb
  obtain ⟨A2, c2, rfl, hc2, hm2⟩ := hown2.bform
  by_cases h0 : turn = 0
  · subst h0
    refine goL ?_
    refine xcall rfl rfl (ptold_does w2) (fun r w3 h3 => ?_)
    obtain ⟨rfl, hE3⟩ := h3
    refine goL ?_
    exact tret1 rfl rfl ⟨rfl, (hE1.t hE2).t hE3⟩
  refine goL ?_
  refine xbs0 sl_bytes (fun w3 hB3 hE3 hs3 => ?_)
  have hown3 : Own w3 w2.heap.size 5 (.slice (some ⟨w2.heap.size, 0, none⟩) 0 0) [] := Own.of_blk (vs := []) hB3 (Nat.le_refl _) rfl (by decide)
  refine goL ?_
  have r3 : Row w3 (.slice A2 p.length c2) p.length (p.map (Value.int .u8)) := (hown2.ext hE3).brow
  refine xap sl_bytes rfl rfl hown3 rfl r3 (by rw [List.length_map]) map_u8_one (by unfold maxLen; simp; omega) (by simp; omega) (by omega) (fun v4 w4 hown4 hF4 hv4 => ?_)
  rw [List.nil_append] at hown4
  have hE24 : Ext w2 w4 := Ext.te hE3 hF4 fun j hj e => by have e' : (some w2.heap.size : Option Nat) = some j := e; injection e' with e'; omega
  obtain ⟨g, c4, e4, hg4, hgl4⟩ := hown4.lt_of (by rw [List.length_map]; omega)
  rw [List.length_map] at e4
  subst e4
  have hub := uw_bd at_
  have q1 := Int.emod_nonneg (uw at_) (show (p.length : Int) ≠ 0 by omega)
  have q2 := Int.emod_lt_of_pos (uw at_) (show 0 < (p.length : Int) by omega)
  obtain ⟨k, hk⟩ := Int.eq_ofNat_of_zero_le q1
  have hkl : k < p.length := by omega
  have hz := byts_at hpb hkl
  have hxb := xor_bd hz htu h0
  obtain ⟨z, hzz⟩ : ∃ z, z = bits .xor .u8 (p.getD k 0) turn := ⟨_, rfl⟩
  rw [← hzz] at hxb
  have hc4 := hown4.cell hkl
  repeat' (first | refine xisq k k rfl rfl rfl hk (by omega) hkl ?_ | refine go1LU ?_ | fail)
  refine xbits (r := z) rfl rfl (.inr (.inr rfl)) hzz.symm ?_
  repeat' (first | refine xisq k k rfl rfl rfl hk (by omega) hkl ?_ | refine go1L ?_ | fail)
  refine xsto hown4 rfl rfl rfl rfl (by rw [List.length_map]; exact hkl) (fun w5 hown5 hF5 => ?_)
  rw [← List.map_set] at hown5
  have hE25 : Ext w2 w5 := Ext.te hE24 hF5 fun j hj e => by have e' : j = g := e; omega
  have hqb : Byts (p.set k z) := byts_set hpb ⟨hxb.1, hxb.2.1⟩
  have hne := getD_set_ne hkl hxb.2.2
  obtain ⟨q, hq⟩ : ∃ q, q = p.set k z := ⟨_, rfl⟩
  have hql : q.length = p.length := by rw [hq, List.length_set]
  rw [← hq] at hown5 hqb hne
  rw [← hql]
  rw [← hql] at hown5
  refine goL ?_
  refine xcall rfl rfl (gget_does w5 _ q 12000 hown5.brow hqb) (fun r w6 h6 => ?_)
  obtain ⟨v6, rfl, hown6, hE6⟩ := h6
  rcases gt_op hqb 12000 with hgt | ⟨y, hy, ly, hpy, hgt⟩
  · rw [hgt] at hown6 ⊢
    dsimp only at hown6 ⊢
    obtain ⟨A6, c6, rfl, hm6⟩ := hown6.bform0
    refine goL ?_
    refine xcall rfl rfl (ptold_does w6) (fun r w7 h7 => ?_)
    obtain ⟨rfl, hE7⟩ := h7
    refine goL ?_
    exact tret1 rfl rfl ⟨rfl, (hE1.t hE2).t ((hE25.t hE6).t hE7)⟩
  · rw [if_neg (by omega)] at hgt
    rw [hgt] at hown6 ⊢
    dsimp only at hown6 ⊢
    obtain ⟨A6, c6, rfl, hc6, hm6⟩ := hown6.bform
    refine goL ?_
    refine xcall rfl rfl (put_does w6 _ y hown6.brow hy) (fun r w7 h7 => ?_)
    obtain ⟨v7, rfl, hown7, hE7⟩ := h7
    rw [ptE_ok ly]
    rw [ptB_ok ly, hpy] at hown7
    obtain ⟨A7, c7, rfl, hc7, hm7⟩ := hown7.bform
    refine goL ?_
    refine xcall rfl rfl (ptold_does w7) (fun r w8 h8 => ?_)
    obtain ⟨rfl, hE8⟩ := h8
    have hE58 : Ext w5 w8 := (hE6.t hE7).t hE8
    have r7 := (hown7.ext hE8).brow
    have r5 := (hown5.ext hE58).brow
    have r6 := ((hown6.ext hE7).ext hE8).brow
    have r1 := rx.ext (hE2.t (hE25.t hE58))
    refine goL ?_
    refine xcbs rfl r7 ?_
    refine goL ?_
    refine xcbs rfl r5 ?_
    refine goL ?_
    refine xseqb rfl rfl (r := true) (by rw [str_eq hqb hqb]; simp) ?_
    refine goL ?_
    refine xcbs rfl r6 ?_
    refine goL ?_
    refine xcbs rfl r1 ?_
    refine goL ?_
    refine xsneb rfl rfl (r := true) (by rw [str_ne hy hx, decide_eq_true_eq]; intro e; apply hne; rw [hp, ← hpy, e]) ?_
    refine goL ?_
    exact tret1 rfl rfl ⟨rfl, (hE1.t hE2).t (hE25.t hE58)⟩
end Eng
end Go.Proofs.Ytighkjohpmlemaa
