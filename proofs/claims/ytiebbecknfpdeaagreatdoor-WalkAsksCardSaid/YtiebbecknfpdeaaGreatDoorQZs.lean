/-
  The reference's filesystem: New, From.
-/
import Derived.Test.YtiebbecknfpdeaaGreatDoorQB0a
import Derived.Test.YtiebbecknfpdeaaGreatDoorQB10a
import Derived.Test.YtiebbecknfpdeaaGreatDoorQWy
import Derived.Test.YtiebbecknfpdeaaGreatDoorQZr
namespace Go.Proofs.YtiebbecknfpdeaaGreatDoor
open Go.RowKit
namespace Eng
def RsNew (q : Int) (fl : List (Int × Int)) (w : World) (r : Value) (w' : World) : Prop :=
  Ext w w' ∧ (newE q ≠ 0 ∧ r = .pointer none ∨ newE q = 0 ∧ ∃ g vf ve vn, r = .pointer (some ⟨g, 0, none⟩) ∧ RsI w' g ⟨q, fl, 0, false⟩ vf ve vn [rootV] rootT ∧ w.heap.size ≤ g ∧ ∀ b, RwK vf fl b → w.heap.size ≤ b)
def RsFrom (q : Int) (fl : List (Int × Int)) (nvs : List NdV) (t : Tre) (w : World) (p : Value) (w' : World) : Prop :=
  Ext w w' ∧ (fromE q t ≠ 0 ∧ p = .pointer none ∨ fromE q t = 0 ∧ ∃ g vf ve vn nvs', p = .pointer (some ⟨g, 0, none⟩) ∧ RsI w' g ⟨q, fl, 0, false⟩ vf ve vn nvs' t ∧ w.heap.size ≤ g ∧ (∀ b, RwK vf fl b ∨ RwK ve t.es b ∨ RwK vn nvs' b → w.heap.size ≤ b) ∧ ∀ y ∈ nvs', y ∈ nvs)
theorem rootT_ts : TsOK rootT := ⟨fun n hn => by rw [List.mem_singleton.1 hn]; decide, fun n hn => by rw [List.mem_singleton.1 hn]; decide, fun n hn => by rw [List.mem_singleton.1 hn]; decide⟩
attribute [local irreducible] xs T
set_option maxRecDepth 20000 in
set_option maxHeartbeats 16000000 in
theorem rsnew_does (w : World) (vf : Value) (q : Int) (fl : List (Int × Int)) (hf : Rw flC w vf fl) (hfl : fl.length ≤ 1000000) :
    Does Tryz.prog 46 #[.int .i64 q, vf] w (RsNew q fl w) := by
  refine does2 Tryz.func46 rfl (by kernel_rfl) ?_
  obtain ⟨AF, cF, rfl, hcF1, hcF2, hAF⟩ := hf.op flC_len
  by_cases h1 : q < 0
  · refine goL ?_
    exact tret1 rfl rfl ⟨Fr.refl _ _, .inl ⟨by unfold newE; rw [if_pos (.inl h1)]; decide, rfl⟩⟩
  by_cases h2 : 1048576 < q
  · refine goL ?_
    exact tret1 rfl rfl ⟨Fr.refl _ _, .inl ⟨by unfold newE; rw [if_pos (.inr h2)]; decide, rfl⟩⟩
  have he : newE q = 0 := by unfold newE; rw [if_neg (by omega)]
  refine goL ?_
  refine xbd (cells := #[.int .i64 493, .int .i64 0, .int .i64 0, .int .i64 0, .slice none 0 0, .slice none 0 0]) rfl (by kernel_rfl) ?_
  refine xbd (cells := (ndC rootV).toArray) rfl (by kernel_rfl) ?_
  refine goL ?_
  refine xalloc (z := .agg nd0) (by kernel_rfl) (fun w1 hB1 hE1 hs1 => ?_)
  refine goL ?_
  refine xsta hB1 rfl rfl (by kernel_rfl) rfl (one_cells (l := ndC rootV) rfl) (fun w2 hB2 hF2 => ?_)
  have hE2 : Ext w w2 := hE1.trans hF2 fun j hj e => by have : j = w.heap.size := e; omega
  have hf2 := hf.ext hE2
  have z2 := hE2.size
  have fin : ∀ (w9 w10 : World) (E N : Nat) (va : Value), Blk w9 E 54 (enC ⟨[], 0⟩).toArray → Blk w9 N 67 (ndC rootV).toArray → Ow flC 2 w9 w2.heap.size 51 va fl → Ext w2 w9 → Blk w10 w9.heap.size 43 (rsC ⟨q, fl, 0, false⟩ va (.slice (some ⟨E, 0, none⟩) 1 1) (.slice (some ⟨N, 0, none⟩) 1 1)) → Ext w9 w10 → w2.heap.size ≤ E → w2.heap.size ≤ N → RsNew q fl w (.pointer (some ⟨w9.heap.size, 0, none⟩)) w10 := fun w9 w10 E N va hE hN ha hx hg hy h3 h4 => by
    have s9 := hx.size
    have hT : TrV w10 (.slice (some ⟨E, 0, none⟩) 1 1) (.slice (some ⟨N, 0, none⟩) 1 1) [rootV] rootT :=
      ⟨blk_row (n := 1) (hE.ext hy) (by decide) rfl, blk_row (n := 1) (hN.ext hy) (by decide) rfl, fun x hx => by
        rw [List.mem_singleton.1 hx]; exact ⟨Rw.nil _ _ (by decide), Rw.nil _ _ (by decide), Rw.nil _ _ (by decide)⟩, rfl⟩
    refine ⟨(hE2.t hx).t hy, .inr ⟨he, w9.heap.size, va, _, _, rfl, ⟨hg, ha.rw.ext hy, hT, fun b hb => ?_, fun b hb => ?_, fun e he => by rw [List.mem_singleton.1 he]; decide, rootT_ts, by decide, by decide⟩, by omega, fun b hb => ?_⟩⟩
    · have := (ha.blk hb.2).2; omega
    · rcases hb with hb | hb | ⟨x, hx, hb⟩
      · have e1 : E = b := Option.some.inj hb.2
        have := hE.lt; omega
      · have e1 : N = b := Option.some.inj hb.2
        have := hN.lt; omega
      · rw [List.mem_singleton.1 hx] at hb
        rcases hb with hb | hb | hb <;> exact absurd hb.1 (by decide)
    · have := (ha.blk hb.2).1; omega
  have hH0 : ∀ w', Ext w2 w' → Blk w' w.heap.size 67 (ndC rootV).toArray := fun w' hE => hB2.ext hE
  repeat' (first | refine xmv rfl ?_ | refine xas rfl ?_ | refine xld rfl rfl (by with_reducible assumption) ?_ | refine xixn rfl rfl rfl (by omega) ?_ | refine xfa rfl rfl rfl ?_ | refine xln rfl rfl ?_ | refine xnil ?_ | refine xpk rfl rfl rfl rfl ?_ | refine xgy' rfl ?_ | refine xgn' rfl ?_ | refine xex rfl rfl ?_ | refine xnot rfl ?_ | refine xnc rfl ?_ | refine xeqn rfl rfl rfl ?_ | refine xnen rfl rfl rfl ?_ | refine xadd rfl rfl (by omega) (by omega) ?_ | refine xsub rfl rfl (by omega) (by omega) ?_ | refine xmul rfl rfl (by omega) (by omega) ?_ | refine xaddu rfl rfl (by omega) (by omega) ?_ | refine xsubu rfl rfl (by omega) (by omega) ?_ | refine xquo rfl rfl (by omega) (by omega) (by omega) ?_ | refine xrem rfl rfl (by omega) (by omega) (by omega) ?_ | refine xt_eql rfl rfl (by omega) ?_ | refine xf_eql rfl rfl (by omega) ?_ | refine xt_neq rfl rfl (by omega) ?_ | refine xf_neq rfl rfl (by omega) ?_ | refine xt_lss rfl rfl (by omega) ?_ | refine xf_lss rfl rfl (by omega) ?_ | refine xt_leq rfl rfl (by omega) ?_ | refine xf_leq rfl rfl (by omega) ?_ | refine xt_gtr rfl rfl (by omega) ?_ | refine xf_gtr rfl rfl (by omega) ?_ | refine xt_geq rfl rfl (by omega) ?_ | refine xf_geq rfl rfl (by omega) ?_ | refine tseq ?_ | refine tct rfl ?_ | refine tcf rfl ?_ | refine tskip ?_ | refine treg (by kernel_rfl) ?_ | refine tdraw (by kernel_rfl) (by decide +kernel) ?_ | refine texit rfl ?_ | fail)
  refine tdrawQ 12 [16] (fun w' => Blk w' w.heap.size 67 (ndC rootV).toArray) rfl (by kernel_rfl) (by decide +kernel) (hH0 _ (Fr.drew _ _)) (fun hR => ?_)
  obtain ⟨a00, ha0⟩ : ∃ a, a = w2.drew := ⟨_, rfl⟩
  have fa00 : Ext w2 a00 := by rw [ha0]; exact Fr.drew _ _
  have sa00 := fa00.size
  rw [← ha0]
  · skip
    refine grun [0, 2, 5, 7] [1, 3, 4, 6, 8, 9, 10, 11] hR (by decide +kernel) (by decide +kernel) rfl ?_
    repeat' (first | refine xldzh (cs := ndC rootV) rfl (by kernel_rfl) (fun w' (h : Blk w' _ _ _) j u hu => by rw [Nat.zero_add, h.cell, List.getElem?_toArray]; exact hu) ?_ | refine go1L ?_ | fail)
    refine xbd (cells := (enC ⟨[], 0⟩).toArray) rfl (by kernel_rfl) ?_
    repeat' (first | refine xldzh (cs := ndC rootV) rfl (by kernel_rfl) (fun w' (h : Blk w' _ _ _) j u hu => by rw [Nat.zero_add, h.cell, List.getElem?_toArray]; exact hu) ?_ | refine go1L ?_ | fail)
    refine gbr3 1 3 6 [3, 4, 6, 8, 9, 10, 11] [1, 4, 6, 8, 9, 10, 11] [1, 3, 4, 8, 9, 10, 11] hR (by decide +kernel) rfl rfl rfl rfl rfl rfl ?_ ?_ ?_
    · skip
      repeat' (first | refine xldzh (cs := ndC rootV) rfl (by kernel_rfl) (fun w' (h : Blk w' _ _ _) j u hu => by rw [Nat.zero_add, h.cell, List.getElem?_toArray]; exact hu) ?_ | refine go1L ?_ | fail)
      refine xbz1 sl_ents rfl rfl (by decide) (by decide) (fun a2 hBa2 hEa2 hsa2 => ?_) (fun w' he => hH0 w' (fa00.t he))
      have fa2 : Ext w2 a2 := fa00.t hEa2
      have sa2 := fa2.size
      have ea2 : Blk a2 a00.heap.size 54 (enC ⟨[], 0⟩).toArray := hBa2
      repeat' (first | refine xldzh (cs := ndC rootV) rfl (by kernel_rfl) (fun w' (h : Blk w' _ _ _) j u hu => by rw [Nat.zero_add, h.cell, List.getElem?_toArray]; exact hu) ?_ | refine go1L ?_ | fail)
      refine gbr2 3 6 [4, 6, 8, 9, 10, 11] [3, 4, 8, 9, 10, 11] hR (by decide +kernel) rfl rfl rfl rfl ?_ ?_
      · skip
        repeat' (first | refine xldzh (cs := ndC rootV) rfl (by kernel_rfl) (fun w' (h : Blk w' _ _ _) j u hu => by rw [Nat.zero_add, h.cell, List.getElem?_toArray]; exact hu) ?_ | refine go1L ?_ | fail)
        refine xbz1 sl_nds rfl rfl (by decide) (by decide) (fun a3 hBa3 hEa3 hsa3 => ?_) (fun w' he => hH0 w' (fa2.t he))
        have fa3 : Ext w2 a3 := fa2.t hEa3
        have sa3 := fa3.size
        have ea3 := ea2.ext hEa3
        have na3 : Blk a3 a2.heap.size 67 (ndC rootV).toArray := hBa3
        repeat' (first | refine xldzh (cs := ndC rootV) rfl (by kernel_rfl) (fun w' (h : Blk w' _ _ _) j u hu => by rw [Nat.zero_add, h.cell, List.getElem?_toArray]; exact hu) ?_ | refine go1L ?_ | fail)
        refine grun [4, 6, 8, 9, 10, 11] [] hR (by decide +kernel) (by decide +kernel) rfl ?_
        repeat' (first | refine xldzh (cs := ndC rootV) rfl (by kernel_rfl) (fun w' (h : Blk w' _ _ _) j u hu => by rw [Nat.zero_add, h.cell, List.getElem?_toArray]; exact hu) ?_ | refine go1L ?_ | fail)
        refine xbd (cells := #[.slice (some ⟨a00.heap.size, 0, none⟩) 1 1, .slice (some ⟨a2.heap.size, 0, none⟩) 1 1]) rfl (by kernel_rfl) ?_
        repeat' (first | refine xldzh (cs := ndC rootV) rfl (by kernel_rfl) (fun w' (h : Blk w' _ _ _) j u hu => by rw [Nat.zero_add, h.cell, List.getElem?_toArray]; exact hu) ?_ | refine go1L ?_ | fail)
        refine xbz0 sl_flts (fun a5 hOa5 hEa5 hsa5 => ?_) (fun w' he => hH0 w' (fa3.t he))
        have fa5 : Ext w2 a5 := fa3.t hEa5
        have sa5 := fa5.size
        have ea5 := ea3.ext hEa5
        have na5 := na3.ext hEa5
        have za5 : OwnZ a5 w2.heap.size 51 2 (.slice (some ⟨a3.heap.size, 0, none⟩) 0 0) 0 [] := hOa5.mono fa3.size
        repeat' (first | refine xldzh (cs := ndC rootV) rfl (by kernel_rfl) (fun w' (h : Blk w' _ _ _) j u hu => by rw [Nat.zero_add, h.cell, List.getElem?_toArray]; exact hu) ?_ | refine go1L ?_ | fail)
        refine xapz (B := w2.heap.size) (news := fl.flatMap flC) sl_flts rfl (by decide) rfl za5 rfl (hf2.ext fa5) (flat_len flC_len _) (flC_one _) (by unfold maxLen; omega) (by omega) fa5.size (fun va6 a6 hOa6 hFa6 _ => ?_) (fun w' hF => hH0 w' (fa5.trans hF fun j hj h => by have hq : a3.heap.size = j := Option.some.inj h; omega))
        have fa6 : Ext w2 a6 := fa5.trans hFa6 fun j hj h => by have hq : a3.heap.size = j := Option.some.inj h; omega
        have sa6 := fa6.size
        have ga6 := hFa6.size
        have ea6 := Blk.fr ea5 hFa6 (fun h => by have hq : a3.heap.size = _ := Option.some.inj h; omega)
        have na6 := Blk.fr na5 hFa6 (fun h => by have hq : a3.heap.size = _ := Option.some.inj h; omega)
        have aa6 : Ow flC 2 a6 w2.heap.size 51 va6 fl := by rw [Nat.zero_add] at hOa6; exact hOa6
        obtain ⟨Aa6, ca6, rfl, _, _⟩ := aa6.form
        repeat' (first | refine xldzh (cs := ndC rootV) rfl (by kernel_rfl) (fun w' (h : Blk w' _ _ _) j u hu => by rw [Nat.zero_add, h.cell, List.getElem?_toArray]; exact hu) ?_ | refine go1L ?_ | fail)
        refine xbd (cells := rsC ⟨q, fl, 0, false⟩ (.slice Aa6 fl.length ca6) (.slice (some ⟨a00.heap.size, 0, none⟩) 1 1) (.slice (some ⟨a2.heap.size, 0, none⟩) 1 1)) rfl (by kernel_rfl) ?_
        repeat' (first | refine xldzh (cs := ndC rootV) rfl (by kernel_rfl) (fun w' (h : Blk w' _ _ _) j u hu => by rw [Nat.zero_add, h.cell, List.getElem?_toArray]; exact hu) ?_ | refine go1L ?_ | fail)
        refine xbox rfl (fun a8 hBa8 hEa8 hsa8 => ?_) (fun w' he => hH0 w' (fa6.t he))
        have hfin := fin a6 a8 a00.heap.size a2.heap.size _ ea6 na6 aa6 fa6 hBa8 hEa8 (by omega) (by omega)
        repeat' (first | refine xldzh (cs := ndC rootV) rfl (by kernel_rfl) (fun w' (h : Blk w' _ _ _) j u hu => by rw [Nat.zero_add, h.cell, List.getElem?_toArray]; exact hu) ?_ | refine go1L ?_ | fail)
        refine xg_end ?_
        refine goL ?_
        exact tret1 rfl rfl hfin
      · skip
        repeat' (first | refine xldzh (cs := ndC rootV) rfl (by kernel_rfl) (fun w' (h : Blk w' _ _ _) j u hu => by rw [Nat.zero_add, h.cell, List.getElem?_toArray]; exact hu) ?_ | refine go1L ?_ | fail)
        refine xbz0 sl_flts (fun a9 hOa9 hEa9 hsa9 => ?_) (fun w' he => hH0 w' (fa2.t he))
        have fa9 : Ext w2 a9 := fa2.t hEa9
        have sa9 := fa9.size
        have ea9 := ea2.ext hEa9
        have za9 : OwnZ a9 w2.heap.size 51 2 (.slice (some ⟨a2.heap.size, 0, none⟩) 0 0) 0 [] := hOa9.mono fa2.size
        repeat' (first | refine xldzh (cs := ndC rootV) rfl (by kernel_rfl) (fun w' (h : Blk w' _ _ _) j u hu => by rw [Nat.zero_add, h.cell, List.getElem?_toArray]; exact hu) ?_ | refine go1L ?_ | fail)
        refine gbr2 3 8 [4, 8, 9, 10, 11] [3, 4, 9, 10, 11] hR (by decide +kernel) rfl rfl rfl rfl ?_ ?_
        · skip
          repeat' (first | refine xldzh (cs := ndC rootV) rfl (by kernel_rfl) (fun w' (h : Blk w' _ _ _) j u hu => by rw [Nat.zero_add, h.cell, List.getElem?_toArray]; exact hu) ?_ | refine go1L ?_ | fail)
          refine xbz1 sl_nds rfl rfl (by decide) (by decide) (fun a10 hBa10 hEa10 hsa10 => ?_) (fun w' he => hH0 w' (fa9.t he))
          have fa10 : Ext w2 a10 := fa9.t hEa10
          have sa10 := fa10.size
          have ea10 := ea9.ext hEa10
          have za10 := za9.ext hEa10
          have na10 : Blk a10 a9.heap.size 67 (ndC rootV).toArray := hBa10
          repeat' (first | refine xldzh (cs := ndC rootV) rfl (by kernel_rfl) (fun w' (h : Blk w' _ _ _) j u hu => by rw [Nat.zero_add, h.cell, List.getElem?_toArray]; exact hu) ?_ | refine go1L ?_ | fail)
          refine grun [4, 8, 9, 10, 11] [] hR (by decide +kernel) (by decide +kernel) rfl ?_
          repeat' (first | refine xldzh (cs := ndC rootV) rfl (by kernel_rfl) (fun w' (h : Blk w' _ _ _) j u hu => by rw [Nat.zero_add, h.cell, List.getElem?_toArray]; exact hu) ?_ | refine go1L ?_ | fail)
          refine xbd (cells := #[.slice (some ⟨a00.heap.size, 0, none⟩) 1 1, .slice (some ⟨a9.heap.size, 0, none⟩) 1 1]) rfl (by kernel_rfl) ?_
          repeat' (first | refine xldzh (cs := ndC rootV) rfl (by kernel_rfl) (fun w' (h : Blk w' _ _ _) j u hu => by rw [Nat.zero_add, h.cell, List.getElem?_toArray]; exact hu) ?_ | refine go1L ?_ | fail)
          refine xapz (B := w2.heap.size) (news := fl.flatMap flC) sl_flts rfl (by decide) rfl za10 rfl (hf2.ext fa10) (flat_len flC_len _) (flC_one _) (by unfold maxLen; omega) (by omega) fa10.size (fun va12 a12 hOa12 hFa12 _ => ?_) (fun w' hF => hH0 w' (fa10.trans hF fun j hj h => by have hq : a2.heap.size = j := Option.some.inj h; omega))
          have fa12 : Ext w2 a12 := fa10.trans hFa12 fun j hj h => by have hq : a2.heap.size = j := Option.some.inj h; omega
          have sa12 := fa12.size
          have ga12 := hFa12.size
          have ea12 := Blk.fr ea10 hFa12 (fun h => by have hq : a2.heap.size = _ := Option.some.inj h; omega)
          have na12 := Blk.fr na10 hFa12 (fun h => by have hq : a2.heap.size = _ := Option.some.inj h; omega)
          have aa12 : Ow flC 2 a12 w2.heap.size 51 va12 fl := by rw [Nat.zero_add] at hOa12; exact hOa12
          obtain ⟨Aa12, ca12, rfl, _, _⟩ := aa12.form
          repeat' (first | refine xldzh (cs := ndC rootV) rfl (by kernel_rfl) (fun w' (h : Blk w' _ _ _) j u hu => by rw [Nat.zero_add, h.cell, List.getElem?_toArray]; exact hu) ?_ | refine go1L ?_ | fail)
          refine xbd (cells := rsC ⟨q, fl, 0, false⟩ (.slice Aa12 fl.length ca12) (.slice (some ⟨a00.heap.size, 0, none⟩) 1 1) (.slice (some ⟨a9.heap.size, 0, none⟩) 1 1)) rfl (by kernel_rfl) ?_
          repeat' (first | refine xldzh (cs := ndC rootV) rfl (by kernel_rfl) (fun w' (h : Blk w' _ _ _) j u hu => by rw [Nat.zero_add, h.cell, List.getElem?_toArray]; exact hu) ?_ | refine go1L ?_ | fail)
          refine xbox rfl (fun a14 hBa14 hEa14 hsa14 => ?_) (fun w' he => hH0 w' (fa12.t he))
          have hfin := fin a12 a14 a00.heap.size a9.heap.size _ ea12 na12 aa12 fa12 hBa14 hEa14 (by omega) (by omega)
          repeat' (first | refine xldzh (cs := ndC rootV) rfl (by kernel_rfl) (fun w' (h : Blk w' _ _ _) j u hu => by rw [Nat.zero_add, h.cell, List.getElem?_toArray]; exact hu) ?_ | refine go1L ?_ | fail)
          refine xg_end ?_
          refine goL ?_
          exact tret1 rfl rfl hfin
        · skip
          repeat' (first | refine xldzh (cs := ndC rootV) rfl (by kernel_rfl) (fun w' (h : Blk w' _ _ _) j u hu => by rw [Nat.zero_add, h.cell, List.getElem?_toArray]; exact hu) ?_ | refine go1L ?_ | fail)
          refine xapz (B := w2.heap.size) (news := fl.flatMap flC) sl_flts rfl (by decide) rfl za9 rfl (hf2.ext fa9) (flat_len flC_len _) (flC_one _) (by unfold maxLen; omega) (by omega) fa9.size (fun va15 a15 hOa15 hFa15 _ => ?_) (fun w' hF => hH0 w' (fa9.trans hF fun j hj h => by have hq : a2.heap.size = j := Option.some.inj h; omega))
          have fa15 : Ext w2 a15 := fa9.trans hFa15 fun j hj h => by have hq : a2.heap.size = j := Option.some.inj h; omega
          have sa15 := fa15.size
          have ga15 := hFa15.size
          have ea15 := Blk.fr ea9 hFa15 (fun h => by have hq : a2.heap.size = _ := Option.some.inj h; omega)
          have aa15 : Ow flC 2 a15 w2.heap.size 51 va15 fl := by rw [Nat.zero_add] at hOa15; exact hOa15
          obtain ⟨Aa15, ca15, rfl, _, _⟩ := aa15.form
          repeat' (first | refine xldzh (cs := ndC rootV) rfl (by kernel_rfl) (fun w' (h : Blk w' _ _ _) j u hu => by rw [Nat.zero_add, h.cell, List.getElem?_toArray]; exact hu) ?_ | refine go1L ?_ | fail)
          refine grun [3, 4, 9, 10, 11] [] hR (by decide +kernel) (by decide +kernel) rfl ?_
          repeat' (first | refine xldzh (cs := ndC rootV) rfl (by kernel_rfl) (fun w' (h : Blk w' _ _ _) j u hu => by rw [Nat.zero_add, h.cell, List.getElem?_toArray]; exact hu) ?_ | refine go1L ?_ | fail)
          refine xbz1 sl_nds rfl rfl (by decide) (by decide) (fun a16 hBa16 hEa16 hsa16 => ?_) (fun w' he => hH0 w' (fa15.t he))
          have fa16 : Ext w2 a16 := fa15.t hEa16
          have sa16 := fa16.size
          have ea16 := ea15.ext hEa16
          have aa16 := aa15.ext hEa16
          have na16 : Blk a16 a15.heap.size 67 (ndC rootV).toArray := hBa16
          repeat' (first | refine xldzh (cs := ndC rootV) rfl (by kernel_rfl) (fun w' (h : Blk w' _ _ _) j u hu => by rw [Nat.zero_add, h.cell, List.getElem?_toArray]; exact hu) ?_ | refine go1L ?_ | fail)
          refine xbd (cells := #[.slice (some ⟨a00.heap.size, 0, none⟩) 1 1, .slice (some ⟨a15.heap.size, 0, none⟩) 1 1]) rfl (by kernel_rfl) ?_
          repeat' (first | refine xldzh (cs := ndC rootV) rfl (by kernel_rfl) (fun w' (h : Blk w' _ _ _) j u hu => by rw [Nat.zero_add, h.cell, List.getElem?_toArray]; exact hu) ?_ | refine go1L ?_ | fail)
          refine xbd (cells := rsC ⟨q, fl, 0, false⟩ (.slice Aa15 fl.length ca15) (.slice (some ⟨a00.heap.size, 0, none⟩) 1 1) (.slice (some ⟨a15.heap.size, 0, none⟩) 1 1)) rfl (by kernel_rfl) ?_
          repeat' (first | refine xldzh (cs := ndC rootV) rfl (by kernel_rfl) (fun w' (h : Blk w' _ _ _) j u hu => by rw [Nat.zero_add, h.cell, List.getElem?_toArray]; exact hu) ?_ | refine go1L ?_ | fail)
          refine xbox rfl (fun a19 hBa19 hEa19 hsa19 => ?_) (fun w' he => hH0 w' (fa16.t he))
          have hfin := fin a16 a19 a00.heap.size a15.heap.size _ ea16 na16 aa16 fa16 hBa19 hEa19 (by omega) (by omega)
          repeat' (first | refine xldzh (cs := ndC rootV) rfl (by kernel_rfl) (fun w' (h : Blk w' _ _ _) j u hu => by rw [Nat.zero_add, h.cell, List.getElem?_toArray]; exact hu) ?_ | refine go1L ?_ | fail)
          refine xg_end ?_
          refine goL ?_
          exact tret1 rfl rfl hfin
    · skip
      repeat' (first | refine xldzh (cs := ndC rootV) rfl (by kernel_rfl) (fun w' (h : Blk w' _ _ _) j u hu => by rw [Nat.zero_add, h.cell, List.getElem?_toArray]; exact hu) ?_ | refine go1L ?_ | fail)
      refine xbz1 sl_nds rfl rfl (by decide) (by decide) (fun a20 hBa20 hEa20 hsa20 => ?_) (fun w' he => hH0 w' (fa00.t he))
      have fa20 : Ext w2 a20 := fa00.t hEa20
      have sa20 := fa20.size
      have na20 : Blk a20 a00.heap.size 67 (ndC rootV).toArray := hBa20
      repeat' (first | refine xldzh (cs := ndC rootV) rfl (by kernel_rfl) (fun w' (h : Blk w' _ _ _) j u hu => by rw [Nat.zero_add, h.cell, List.getElem?_toArray]; exact hu) ?_ | refine go1L ?_ | fail)
      refine gbr2 1 6 [4, 6, 8, 9, 10, 11] [1, 4, 8, 9, 10, 11] hR (by decide +kernel) rfl rfl rfl rfl ?_ ?_
      · skip
        repeat' (first | refine xldzh (cs := ndC rootV) rfl (by kernel_rfl) (fun w' (h : Blk w' _ _ _) j u hu => by rw [Nat.zero_add, h.cell, List.getElem?_toArray]; exact hu) ?_ | refine go1L ?_ | fail)
        refine xbz1 sl_ents rfl rfl (by decide) (by decide) (fun a21 hBa21 hEa21 hsa21 => ?_) (fun w' he => hH0 w' (fa20.t he))
        have fa21 : Ext w2 a21 := fa20.t hEa21
        have sa21 := fa21.size
        have na21 := na20.ext hEa21
        have ea21 : Blk a21 a20.heap.size 54 (enC ⟨[], 0⟩).toArray := hBa21
        repeat' (first | refine xldzh (cs := ndC rootV) rfl (by kernel_rfl) (fun w' (h : Blk w' _ _ _) j u hu => by rw [Nat.zero_add, h.cell, List.getElem?_toArray]; exact hu) ?_ | refine go1L ?_ | fail)
        refine grun [4, 6, 8, 9, 10, 11] [] hR (by decide +kernel) (by decide +kernel) rfl ?_
        repeat' (first | refine xldzh (cs := ndC rootV) rfl (by kernel_rfl) (fun w' (h : Blk w' _ _ _) j u hu => by rw [Nat.zero_add, h.cell, List.getElem?_toArray]; exact hu) ?_ | refine go1L ?_ | fail)
        refine xbd (cells := #[.slice (some ⟨a20.heap.size, 0, none⟩) 1 1, .slice (some ⟨a00.heap.size, 0, none⟩) 1 1]) rfl (by kernel_rfl) ?_
        repeat' (first | refine xldzh (cs := ndC rootV) rfl (by kernel_rfl) (fun w' (h : Blk w' _ _ _) j u hu => by rw [Nat.zero_add, h.cell, List.getElem?_toArray]; exact hu) ?_ | refine go1L ?_ | fail)
        refine xbz0 sl_flts (fun a23 hOa23 hEa23 hsa23 => ?_) (fun w' he => hH0 w' (fa21.t he))
        have fa23 : Ext w2 a23 := fa21.t hEa23
        have sa23 := fa23.size
        have ea23 := ea21.ext hEa23
        have na23 := na21.ext hEa23
        have za23 : OwnZ a23 w2.heap.size 51 2 (.slice (some ⟨a21.heap.size, 0, none⟩) 0 0) 0 [] := hOa23.mono fa21.size
        repeat' (first | refine xldzh (cs := ndC rootV) rfl (by kernel_rfl) (fun w' (h : Blk w' _ _ _) j u hu => by rw [Nat.zero_add, h.cell, List.getElem?_toArray]; exact hu) ?_ | refine go1L ?_ | fail)
        refine xapz (B := w2.heap.size) (news := fl.flatMap flC) sl_flts rfl (by decide) rfl za23 rfl (hf2.ext fa23) (flat_len flC_len _) (flC_one _) (by unfold maxLen; omega) (by omega) fa23.size (fun va24 a24 hOa24 hFa24 _ => ?_) (fun w' hF => hH0 w' (fa23.trans hF fun j hj h => by have hq : a21.heap.size = j := Option.some.inj h; omega))
        have fa24 : Ext w2 a24 := fa23.trans hFa24 fun j hj h => by have hq : a21.heap.size = j := Option.some.inj h; omega
        have sa24 := fa24.size
        have ga24 := hFa24.size
        have ea24 := Blk.fr ea23 hFa24 (fun h => by have hq : a21.heap.size = _ := Option.some.inj h; omega)
        have na24 := Blk.fr na23 hFa24 (fun h => by have hq : a21.heap.size = _ := Option.some.inj h; omega)
        have aa24 : Ow flC 2 a24 w2.heap.size 51 va24 fl := by rw [Nat.zero_add] at hOa24; exact hOa24
        obtain ⟨Aa24, ca24, rfl, _, _⟩ := aa24.form
        repeat' (first | refine xldzh (cs := ndC rootV) rfl (by kernel_rfl) (fun w' (h : Blk w' _ _ _) j u hu => by rw [Nat.zero_add, h.cell, List.getElem?_toArray]; exact hu) ?_ | refine go1L ?_ | fail)
        refine xbd (cells := rsC ⟨q, fl, 0, false⟩ (.slice Aa24 fl.length ca24) (.slice (some ⟨a20.heap.size, 0, none⟩) 1 1) (.slice (some ⟨a00.heap.size, 0, none⟩) 1 1)) rfl (by kernel_rfl) ?_
        repeat' (first | refine xldzh (cs := ndC rootV) rfl (by kernel_rfl) (fun w' (h : Blk w' _ _ _) j u hu => by rw [Nat.zero_add, h.cell, List.getElem?_toArray]; exact hu) ?_ | refine go1L ?_ | fail)
        refine xbox rfl (fun a26 hBa26 hEa26 hsa26 => ?_) (fun w' he => hH0 w' (fa24.t he))
        have hfin := fin a24 a26 a20.heap.size a00.heap.size _ ea24 na24 aa24 fa24 hBa26 hEa26 (by omega) (by omega)
        repeat' (first | refine xldzh (cs := ndC rootV) rfl (by kernel_rfl) (fun w' (h : Blk w' _ _ _) j u hu => by rw [Nat.zero_add, h.cell, List.getElem?_toArray]; exact hu) ?_ | refine go1L ?_ | fail)
        refine xg_end ?_
        refine goL ?_
        exact tret1 rfl rfl hfin
      · skip
        repeat' (first | refine xldzh (cs := ndC rootV) rfl (by kernel_rfl) (fun w' (h : Blk w' _ _ _) j u hu => by rw [Nat.zero_add, h.cell, List.getElem?_toArray]; exact hu) ?_ | refine go1L ?_ | fail)
        refine xbz0 sl_flts (fun a27 hOa27 hEa27 hsa27 => ?_) (fun w' he => hH0 w' (fa20.t he))
        have fa27 : Ext w2 a27 := fa20.t hEa27
        have sa27 := fa27.size
        have na27 := na20.ext hEa27
        have za27 : OwnZ a27 w2.heap.size 51 2 (.slice (some ⟨a20.heap.size, 0, none⟩) 0 0) 0 [] := hOa27.mono fa20.size
        repeat' (first | refine xldzh (cs := ndC rootV) rfl (by kernel_rfl) (fun w' (h : Blk w' _ _ _) j u hu => by rw [Nat.zero_add, h.cell, List.getElem?_toArray]; exact hu) ?_ | refine go1L ?_ | fail)
        refine gbr2 1 8 [4, 8, 9, 10, 11] [1, 4, 9, 10, 11] hR (by decide +kernel) rfl rfl rfl rfl ?_ ?_
        · skip
          repeat' (first | refine xldzh (cs := ndC rootV) rfl (by kernel_rfl) (fun w' (h : Blk w' _ _ _) j u hu => by rw [Nat.zero_add, h.cell, List.getElem?_toArray]; exact hu) ?_ | refine go1L ?_ | fail)
          refine xbz1 sl_ents rfl rfl (by decide) (by decide) (fun a28 hBa28 hEa28 hsa28 => ?_) (fun w' he => hH0 w' (fa27.t he))
          have fa28 : Ext w2 a28 := fa27.t hEa28
          have sa28 := fa28.size
          have na28 := na27.ext hEa28
          have za28 := za27.ext hEa28
          have ea28 : Blk a28 a27.heap.size 54 (enC ⟨[], 0⟩).toArray := hBa28
          repeat' (first | refine xldzh (cs := ndC rootV) rfl (by kernel_rfl) (fun w' (h : Blk w' _ _ _) j u hu => by rw [Nat.zero_add, h.cell, List.getElem?_toArray]; exact hu) ?_ | refine go1L ?_ | fail)
          refine grun [4, 8, 9, 10, 11] [] hR (by decide +kernel) (by decide +kernel) rfl ?_
          repeat' (first | refine xldzh (cs := ndC rootV) rfl (by kernel_rfl) (fun w' (h : Blk w' _ _ _) j u hu => by rw [Nat.zero_add, h.cell, List.getElem?_toArray]; exact hu) ?_ | refine go1L ?_ | fail)
          refine xbd (cells := #[.slice (some ⟨a27.heap.size, 0, none⟩) 1 1, .slice (some ⟨a00.heap.size, 0, none⟩) 1 1]) rfl (by kernel_rfl) ?_
          repeat' (first | refine xldzh (cs := ndC rootV) rfl (by kernel_rfl) (fun w' (h : Blk w' _ _ _) j u hu => by rw [Nat.zero_add, h.cell, List.getElem?_toArray]; exact hu) ?_ | refine go1L ?_ | fail)
          refine xapz (B := w2.heap.size) (news := fl.flatMap flC) sl_flts rfl (by decide) rfl za28 rfl (hf2.ext fa28) (flat_len flC_len _) (flC_one _) (by unfold maxLen; omega) (by omega) fa28.size (fun va30 a30 hOa30 hFa30 _ => ?_) (fun w' hF => hH0 w' (fa28.trans hF fun j hj h => by have hq : a20.heap.size = j := Option.some.inj h; omega))
          have fa30 : Ext w2 a30 := fa28.trans hFa30 fun j hj h => by have hq : a20.heap.size = j := Option.some.inj h; omega
          have sa30 := fa30.size
          have ga30 := hFa30.size
          have ea30 := Blk.fr ea28 hFa30 (fun h => by have hq : a20.heap.size = _ := Option.some.inj h; omega)
          have na30 := Blk.fr na28 hFa30 (fun h => by have hq : a20.heap.size = _ := Option.some.inj h; omega)
          have aa30 : Ow flC 2 a30 w2.heap.size 51 va30 fl := by rw [Nat.zero_add] at hOa30; exact hOa30
          obtain ⟨Aa30, ca30, rfl, _, _⟩ := aa30.form
          repeat' (first | refine xldzh (cs := ndC rootV) rfl (by kernel_rfl) (fun w' (h : Blk w' _ _ _) j u hu => by rw [Nat.zero_add, h.cell, List.getElem?_toArray]; exact hu) ?_ | refine go1L ?_ | fail)
          refine xbd (cells := rsC ⟨q, fl, 0, false⟩ (.slice Aa30 fl.length ca30) (.slice (some ⟨a27.heap.size, 0, none⟩) 1 1) (.slice (some ⟨a00.heap.size, 0, none⟩) 1 1)) rfl (by kernel_rfl) ?_
          repeat' (first | refine xldzh (cs := ndC rootV) rfl (by kernel_rfl) (fun w' (h : Blk w' _ _ _) j u hu => by rw [Nat.zero_add, h.cell, List.getElem?_toArray]; exact hu) ?_ | refine go1L ?_ | fail)
          refine xbox rfl (fun a32 hBa32 hEa32 hsa32 => ?_) (fun w' he => hH0 w' (fa30.t he))
          have hfin := fin a30 a32 a27.heap.size a00.heap.size _ ea30 na30 aa30 fa30 hBa32 hEa32 (by omega) (by omega)
          repeat' (first | refine xldzh (cs := ndC rootV) rfl (by kernel_rfl) (fun w' (h : Blk w' _ _ _) j u hu => by rw [Nat.zero_add, h.cell, List.getElem?_toArray]; exact hu) ?_ | refine go1L ?_ | fail)
          refine xg_end ?_
          refine goL ?_
          exact tret1 rfl rfl hfin
        · skip
          repeat' (first | refine xldzh (cs := ndC rootV) rfl (by kernel_rfl) (fun w' (h : Blk w' _ _ _) j u hu => by rw [Nat.zero_add, h.cell, List.getElem?_toArray]; exact hu) ?_ | refine go1L ?_ | fail)
          refine xapz (B := w2.heap.size) (news := fl.flatMap flC) sl_flts rfl (by decide) rfl za27 rfl (hf2.ext fa27) (flat_len flC_len _) (flC_one _) (by unfold maxLen; omega) (by omega) fa27.size (fun va33 a33 hOa33 hFa33 _ => ?_) (fun w' hF => hH0 w' (fa27.trans hF fun j hj h => by have hq : a20.heap.size = j := Option.some.inj h; omega))
          have fa33 : Ext w2 a33 := fa27.trans hFa33 fun j hj h => by have hq : a20.heap.size = j := Option.some.inj h; omega
          have sa33 := fa33.size
          have ga33 := hFa33.size
          have na33 := Blk.fr na27 hFa33 (fun h => by have hq : a20.heap.size = _ := Option.some.inj h; omega)
          have aa33 : Ow flC 2 a33 w2.heap.size 51 va33 fl := by rw [Nat.zero_add] at hOa33; exact hOa33
          obtain ⟨Aa33, ca33, rfl, _, _⟩ := aa33.form
          repeat' (first | refine xldzh (cs := ndC rootV) rfl (by kernel_rfl) (fun w' (h : Blk w' _ _ _) j u hu => by rw [Nat.zero_add, h.cell, List.getElem?_toArray]; exact hu) ?_ | refine go1L ?_ | fail)
          refine grun [1, 4, 9, 10, 11] [] hR (by decide +kernel) (by decide +kernel) rfl ?_
          repeat' (first | refine xldzh (cs := ndC rootV) rfl (by kernel_rfl) (fun w' (h : Blk w' _ _ _) j u hu => by rw [Nat.zero_add, h.cell, List.getElem?_toArray]; exact hu) ?_ | refine go1L ?_ | fail)
          refine xbz1 sl_ents rfl rfl (by decide) (by decide) (fun a34 hBa34 hEa34 hsa34 => ?_) (fun w' he => hH0 w' (fa33.t he))
          have fa34 : Ext w2 a34 := fa33.t hEa34
          have sa34 := fa34.size
          have na34 := na33.ext hEa34
          have aa34 := aa33.ext hEa34
          have ea34 : Blk a34 a33.heap.size 54 (enC ⟨[], 0⟩).toArray := hBa34
          repeat' (first | refine xldzh (cs := ndC rootV) rfl (by kernel_rfl) (fun w' (h : Blk w' _ _ _) j u hu => by rw [Nat.zero_add, h.cell, List.getElem?_toArray]; exact hu) ?_ | refine go1L ?_ | fail)
          refine xbd (cells := #[.slice (some ⟨a33.heap.size, 0, none⟩) 1 1, .slice (some ⟨a00.heap.size, 0, none⟩) 1 1]) rfl (by kernel_rfl) ?_
          repeat' (first | refine xldzh (cs := ndC rootV) rfl (by kernel_rfl) (fun w' (h : Blk w' _ _ _) j u hu => by rw [Nat.zero_add, h.cell, List.getElem?_toArray]; exact hu) ?_ | refine go1L ?_ | fail)
          refine xbd (cells := rsC ⟨q, fl, 0, false⟩ (.slice Aa33 fl.length ca33) (.slice (some ⟨a33.heap.size, 0, none⟩) 1 1) (.slice (some ⟨a00.heap.size, 0, none⟩) 1 1)) rfl (by kernel_rfl) ?_
          repeat' (first | refine xldzh (cs := ndC rootV) rfl (by kernel_rfl) (fun w' (h : Blk w' _ _ _) j u hu => by rw [Nat.zero_add, h.cell, List.getElem?_toArray]; exact hu) ?_ | refine go1L ?_ | fail)
          refine xbox rfl (fun a37 hBa37 hEa37 hsa37 => ?_) (fun w' he => hH0 w' (fa34.t he))
          have hfin := fin a34 a37 a33.heap.size a00.heap.size _ ea34 na34 aa34 fa34 hBa37 hEa37 (by omega) (by omega)
          repeat' (first | refine xldzh (cs := ndC rootV) rfl (by kernel_rfl) (fun w' (h : Blk w' _ _ _) j u hu => by rw [Nat.zero_add, h.cell, List.getElem?_toArray]; exact hu) ?_ | refine go1L ?_ | fail)
          refine xg_end ?_
          refine goL ?_
          exact tret1 rfl rfl hfin
    · skip
      repeat' (first | refine xldzh (cs := ndC rootV) rfl (by kernel_rfl) (fun w' (h : Blk w' _ _ _) j u hu => by rw [Nat.zero_add, h.cell, List.getElem?_toArray]; exact hu) ?_ | refine go1L ?_ | fail)
      refine xbz0 sl_flts (fun a38 hOa38 hEa38 hsa38 => ?_) (fun w' he => hH0 w' (fa00.t he))
      have fa38 : Ext w2 a38 := fa00.t hEa38
      have sa38 := fa38.size
      have za38 : OwnZ a38 w2.heap.size 51 2 (.slice (some ⟨a00.heap.size, 0, none⟩) 0 0) 0 [] := hOa38.mono fa00.size
      repeat' (first | refine xldzh (cs := ndC rootV) rfl (by kernel_rfl) (fun w' (h : Blk w' _ _ _) j u hu => by rw [Nat.zero_add, h.cell, List.getElem?_toArray]; exact hu) ?_ | refine go1L ?_ | fail)
      refine gbr3 1 3 8 [3, 4, 8, 9, 10, 11] [1, 4, 8, 9, 10, 11] [1, 3, 4, 9, 10, 11] hR (by decide +kernel) rfl rfl rfl rfl rfl rfl ?_ ?_ ?_
      · skip
        repeat' (first | refine xldzh (cs := ndC rootV) rfl (by kernel_rfl) (fun w' (h : Blk w' _ _ _) j u hu => by rw [Nat.zero_add, h.cell, List.getElem?_toArray]; exact hu) ?_ | refine go1L ?_ | fail)
        refine xbz1 sl_ents rfl rfl (by decide) (by decide) (fun a39 hBa39 hEa39 hsa39 => ?_) (fun w' he => hH0 w' (fa38.t he))
        have fa39 : Ext w2 a39 := fa38.t hEa39
        have sa39 := fa39.size
        have za39 := za38.ext hEa39
        have ea39 : Blk a39 a38.heap.size 54 (enC ⟨[], 0⟩).toArray := hBa39
        repeat' (first | refine xldzh (cs := ndC rootV) rfl (by kernel_rfl) (fun w' (h : Blk w' _ _ _) j u hu => by rw [Nat.zero_add, h.cell, List.getElem?_toArray]; exact hu) ?_ | refine go1L ?_ | fail)
        refine gbr2 3 8 [4, 8, 9, 10, 11] [3, 4, 9, 10, 11] hR (by decide +kernel) rfl rfl rfl rfl ?_ ?_
        · skip
          repeat' (first | refine xldzh (cs := ndC rootV) rfl (by kernel_rfl) (fun w' (h : Blk w' _ _ _) j u hu => by rw [Nat.zero_add, h.cell, List.getElem?_toArray]; exact hu) ?_ | refine go1L ?_ | fail)
          refine xbz1 sl_nds rfl rfl (by decide) (by decide) (fun a40 hBa40 hEa40 hsa40 => ?_) (fun w' he => hH0 w' (fa39.t he))
          have fa40 : Ext w2 a40 := fa39.t hEa40
          have sa40 := fa40.size
          have ea40 := ea39.ext hEa40
          have za40 := za39.ext hEa40
          have na40 : Blk a40 a39.heap.size 67 (ndC rootV).toArray := hBa40
          repeat' (first | refine xldzh (cs := ndC rootV) rfl (by kernel_rfl) (fun w' (h : Blk w' _ _ _) j u hu => by rw [Nat.zero_add, h.cell, List.getElem?_toArray]; exact hu) ?_ | refine go1L ?_ | fail)
          refine grun [4, 8, 9, 10, 11] [] hR (by decide +kernel) (by decide +kernel) rfl ?_
          repeat' (first | refine xldzh (cs := ndC rootV) rfl (by kernel_rfl) (fun w' (h : Blk w' _ _ _) j u hu => by rw [Nat.zero_add, h.cell, List.getElem?_toArray]; exact hu) ?_ | refine go1L ?_ | fail)
          refine xbd (cells := #[.slice (some ⟨a38.heap.size, 0, none⟩) 1 1, .slice (some ⟨a39.heap.size, 0, none⟩) 1 1]) rfl (by kernel_rfl) ?_
          repeat' (first | refine xldzh (cs := ndC rootV) rfl (by kernel_rfl) (fun w' (h : Blk w' _ _ _) j u hu => by rw [Nat.zero_add, h.cell, List.getElem?_toArray]; exact hu) ?_ | refine go1L ?_ | fail)
          refine xapz (B := w2.heap.size) (news := fl.flatMap flC) sl_flts rfl (by decide) rfl za40 rfl (hf2.ext fa40) (flat_len flC_len _) (flC_one _) (by unfold maxLen; omega) (by omega) fa40.size (fun va42 a42 hOa42 hFa42 _ => ?_) (fun w' hF => hH0 w' (fa40.trans hF fun j hj h => by have hq : a00.heap.size = j := Option.some.inj h; omega))
          have fa42 : Ext w2 a42 := fa40.trans hFa42 fun j hj h => by have hq : a00.heap.size = j := Option.some.inj h; omega
          have sa42 := fa42.size
          have ga42 := hFa42.size
          have ea42 := Blk.fr ea40 hFa42 (fun h => by have hq : a00.heap.size = _ := Option.some.inj h; omega)
          have na42 := Blk.fr na40 hFa42 (fun h => by have hq : a00.heap.size = _ := Option.some.inj h; omega)
          have aa42 : Ow flC 2 a42 w2.heap.size 51 va42 fl := by rw [Nat.zero_add] at hOa42; exact hOa42
          obtain ⟨Aa42, ca42, rfl, _, _⟩ := aa42.form
          repeat' (first | refine xldzh (cs := ndC rootV) rfl (by kernel_rfl) (fun w' (h : Blk w' _ _ _) j u hu => by rw [Nat.zero_add, h.cell, List.getElem?_toArray]; exact hu) ?_ | refine go1L ?_ | fail)
          refine xbd (cells := rsC ⟨q, fl, 0, false⟩ (.slice Aa42 fl.length ca42) (.slice (some ⟨a38.heap.size, 0, none⟩) 1 1) (.slice (some ⟨a39.heap.size, 0, none⟩) 1 1)) rfl (by kernel_rfl) ?_
          repeat' (first | refine xldzh (cs := ndC rootV) rfl (by kernel_rfl) (fun w' (h : Blk w' _ _ _) j u hu => by rw [Nat.zero_add, h.cell, List.getElem?_toArray]; exact hu) ?_ | refine go1L ?_ | fail)
          refine xbox rfl (fun a44 hBa44 hEa44 hsa44 => ?_) (fun w' he => hH0 w' (fa42.t he))
          have hfin := fin a42 a44 a38.heap.size a39.heap.size _ ea42 na42 aa42 fa42 hBa44 hEa44 (by omega) (by omega)
          repeat' (first | refine xldzh (cs := ndC rootV) rfl (by kernel_rfl) (fun w' (h : Blk w' _ _ _) j u hu => by rw [Nat.zero_add, h.cell, List.getElem?_toArray]; exact hu) ?_ | refine go1L ?_ | fail)
          refine xg_end ?_
          refine goL ?_
          exact tret1 rfl rfl hfin
        · skip
          repeat' (first | refine xldzh (cs := ndC rootV) rfl (by kernel_rfl) (fun w' (h : Blk w' _ _ _) j u hu => by rw [Nat.zero_add, h.cell, List.getElem?_toArray]; exact hu) ?_ | refine go1L ?_ | fail)
          refine xapz (B := w2.heap.size) (news := fl.flatMap flC) sl_flts rfl (by decide) rfl za39 rfl (hf2.ext fa39) (flat_len flC_len _) (flC_one _) (by unfold maxLen; omega) (by omega) fa39.size (fun va45 a45 hOa45 hFa45 _ => ?_) (fun w' hF => hH0 w' (fa39.trans hF fun j hj h => by have hq : a00.heap.size = j := Option.some.inj h; omega))
          have fa45 : Ext w2 a45 := fa39.trans hFa45 fun j hj h => by have hq : a00.heap.size = j := Option.some.inj h; omega
          have sa45 := fa45.size
          have ga45 := hFa45.size
          have ea45 := Blk.fr ea39 hFa45 (fun h => by have hq : a00.heap.size = _ := Option.some.inj h; omega)
          have aa45 : Ow flC 2 a45 w2.heap.size 51 va45 fl := by rw [Nat.zero_add] at hOa45; exact hOa45
          obtain ⟨Aa45, ca45, rfl, _, _⟩ := aa45.form
          repeat' (first | refine xldzh (cs := ndC rootV) rfl (by kernel_rfl) (fun w' (h : Blk w' _ _ _) j u hu => by rw [Nat.zero_add, h.cell, List.getElem?_toArray]; exact hu) ?_ | refine go1L ?_ | fail)
          refine grun [3, 4, 9, 10, 11] [] hR (by decide +kernel) (by decide +kernel) rfl ?_
          repeat' (first | refine xldzh (cs := ndC rootV) rfl (by kernel_rfl) (fun w' (h : Blk w' _ _ _) j u hu => by rw [Nat.zero_add, h.cell, List.getElem?_toArray]; exact hu) ?_ | refine go1L ?_ | fail)
          refine xbz1 sl_nds rfl rfl (by decide) (by decide) (fun a46 hBa46 hEa46 hsa46 => ?_) (fun w' he => hH0 w' (fa45.t he))
          have fa46 : Ext w2 a46 := fa45.t hEa46
          have sa46 := fa46.size
          have ea46 := ea45.ext hEa46
          have aa46 := aa45.ext hEa46
          have na46 : Blk a46 a45.heap.size 67 (ndC rootV).toArray := hBa46
          repeat' (first | refine xldzh (cs := ndC rootV) rfl (by kernel_rfl) (fun w' (h : Blk w' _ _ _) j u hu => by rw [Nat.zero_add, h.cell, List.getElem?_toArray]; exact hu) ?_ | refine go1L ?_ | fail)
          refine xbd (cells := #[.slice (some ⟨a38.heap.size, 0, none⟩) 1 1, .slice (some ⟨a45.heap.size, 0, none⟩) 1 1]) rfl (by kernel_rfl) ?_
          repeat' (first | refine xldzh (cs := ndC rootV) rfl (by kernel_rfl) (fun w' (h : Blk w' _ _ _) j u hu => by rw [Nat.zero_add, h.cell, List.getElem?_toArray]; exact hu) ?_ | refine go1L ?_ | fail)
          refine xbd (cells := rsC ⟨q, fl, 0, false⟩ (.slice Aa45 fl.length ca45) (.slice (some ⟨a38.heap.size, 0, none⟩) 1 1) (.slice (some ⟨a45.heap.size, 0, none⟩) 1 1)) rfl (by kernel_rfl) ?_
          repeat' (first | refine xldzh (cs := ndC rootV) rfl (by kernel_rfl) (fun w' (h : Blk w' _ _ _) j u hu => by rw [Nat.zero_add, h.cell, List.getElem?_toArray]; exact hu) ?_ | refine go1L ?_ | fail)
          refine xbox rfl (fun a49 hBa49 hEa49 hsa49 => ?_) (fun w' he => hH0 w' (fa46.t he))
          have hfin := fin a46 a49 a38.heap.size a45.heap.size _ ea46 na46 aa46 fa46 hBa49 hEa49 (by omega) (by omega)
          repeat' (first | refine xldzh (cs := ndC rootV) rfl (by kernel_rfl) (fun w' (h : Blk w' _ _ _) j u hu => by rw [Nat.zero_add, h.cell, List.getElem?_toArray]; exact hu) ?_ | refine go1L ?_ | fail)
          refine xg_end ?_
          refine goL ?_
          exact tret1 rfl rfl hfin
      · skip
        repeat' (first | refine xldzh (cs := ndC rootV) rfl (by kernel_rfl) (fun w' (h : Blk w' _ _ _) j u hu => by rw [Nat.zero_add, h.cell, List.getElem?_toArray]; exact hu) ?_ | refine go1L ?_ | fail)
        refine xbz1 sl_nds rfl rfl (by decide) (by decide) (fun a50 hBa50 hEa50 hsa50 => ?_) (fun w' he => hH0 w' (fa38.t he))
        have fa50 : Ext w2 a50 := fa38.t hEa50
        have sa50 := fa50.size
        have za50 := za38.ext hEa50
        have na50 : Blk a50 a38.heap.size 67 (ndC rootV).toArray := hBa50
        repeat' (first | refine xldzh (cs := ndC rootV) rfl (by kernel_rfl) (fun w' (h : Blk w' _ _ _) j u hu => by rw [Nat.zero_add, h.cell, List.getElem?_toArray]; exact hu) ?_ | refine go1L ?_ | fail)
        refine gbr2 1 8 [4, 8, 9, 10, 11] [1, 4, 9, 10, 11] hR (by decide +kernel) rfl rfl rfl rfl ?_ ?_
        · skip
          repeat' (first | refine xldzh (cs := ndC rootV) rfl (by kernel_rfl) (fun w' (h : Blk w' _ _ _) j u hu => by rw [Nat.zero_add, h.cell, List.getElem?_toArray]; exact hu) ?_ | refine go1L ?_ | fail)
          refine xbz1 sl_ents rfl rfl (by decide) (by decide) (fun a51 hBa51 hEa51 hsa51 => ?_) (fun w' he => hH0 w' (fa50.t he))
          have fa51 : Ext w2 a51 := fa50.t hEa51
          have sa51 := fa51.size
          have na51 := na50.ext hEa51
          have za51 := za50.ext hEa51
          have ea51 : Blk a51 a50.heap.size 54 (enC ⟨[], 0⟩).toArray := hBa51
          repeat' (first | refine xldzh (cs := ndC rootV) rfl (by kernel_rfl) (fun w' (h : Blk w' _ _ _) j u hu => by rw [Nat.zero_add, h.cell, List.getElem?_toArray]; exact hu) ?_ | refine go1L ?_ | fail)
          refine grun [4, 8, 9, 10, 11] [] hR (by decide +kernel) (by decide +kernel) rfl ?_
          repeat' (first | refine xldzh (cs := ndC rootV) rfl (by kernel_rfl) (fun w' (h : Blk w' _ _ _) j u hu => by rw [Nat.zero_add, h.cell, List.getElem?_toArray]; exact hu) ?_ | refine go1L ?_ | fail)
          refine xbd (cells := #[.slice (some ⟨a50.heap.size, 0, none⟩) 1 1, .slice (some ⟨a38.heap.size, 0, none⟩) 1 1]) rfl (by kernel_rfl) ?_
          repeat' (first | refine xldzh (cs := ndC rootV) rfl (by kernel_rfl) (fun w' (h : Blk w' _ _ _) j u hu => by rw [Nat.zero_add, h.cell, List.getElem?_toArray]; exact hu) ?_ | refine go1L ?_ | fail)
          refine xapz (B := w2.heap.size) (news := fl.flatMap flC) sl_flts rfl (by decide) rfl za51 rfl (hf2.ext fa51) (flat_len flC_len _) (flC_one _) (by unfold maxLen; omega) (by omega) fa51.size (fun va53 a53 hOa53 hFa53 _ => ?_) (fun w' hF => hH0 w' (fa51.trans hF fun j hj h => by have hq : a00.heap.size = j := Option.some.inj h; omega))
          have fa53 : Ext w2 a53 := fa51.trans hFa53 fun j hj h => by have hq : a00.heap.size = j := Option.some.inj h; omega
          have sa53 := fa53.size
          have ga53 := hFa53.size
          have ea53 := Blk.fr ea51 hFa53 (fun h => by have hq : a00.heap.size = _ := Option.some.inj h; omega)
          have na53 := Blk.fr na51 hFa53 (fun h => by have hq : a00.heap.size = _ := Option.some.inj h; omega)
          have aa53 : Ow flC 2 a53 w2.heap.size 51 va53 fl := by rw [Nat.zero_add] at hOa53; exact hOa53
          obtain ⟨Aa53, ca53, rfl, _, _⟩ := aa53.form
          repeat' (first | refine xldzh (cs := ndC rootV) rfl (by kernel_rfl) (fun w' (h : Blk w' _ _ _) j u hu => by rw [Nat.zero_add, h.cell, List.getElem?_toArray]; exact hu) ?_ | refine go1L ?_ | fail)
          refine xbd (cells := rsC ⟨q, fl, 0, false⟩ (.slice Aa53 fl.length ca53) (.slice (some ⟨a50.heap.size, 0, none⟩) 1 1) (.slice (some ⟨a38.heap.size, 0, none⟩) 1 1)) rfl (by kernel_rfl) ?_
          repeat' (first | refine xldzh (cs := ndC rootV) rfl (by kernel_rfl) (fun w' (h : Blk w' _ _ _) j u hu => by rw [Nat.zero_add, h.cell, List.getElem?_toArray]; exact hu) ?_ | refine go1L ?_ | fail)
          refine xbox rfl (fun a55 hBa55 hEa55 hsa55 => ?_) (fun w' he => hH0 w' (fa53.t he))
          have hfin := fin a53 a55 a50.heap.size a38.heap.size _ ea53 na53 aa53 fa53 hBa55 hEa55 (by omega) (by omega)
          repeat' (first | refine xldzh (cs := ndC rootV) rfl (by kernel_rfl) (fun w' (h : Blk w' _ _ _) j u hu => by rw [Nat.zero_add, h.cell, List.getElem?_toArray]; exact hu) ?_ | refine go1L ?_ | fail)
          refine xg_end ?_
          refine goL ?_
          exact tret1 rfl rfl hfin
        · skip
          repeat' (first | refine xldzh (cs := ndC rootV) rfl (by kernel_rfl) (fun w' (h : Blk w' _ _ _) j u hu => by rw [Nat.zero_add, h.cell, List.getElem?_toArray]; exact hu) ?_ | refine go1L ?_ | fail)
          refine xapz (B := w2.heap.size) (news := fl.flatMap flC) sl_flts rfl (by decide) rfl za50 rfl (hf2.ext fa50) (flat_len flC_len _) (flC_one _) (by unfold maxLen; omega) (by omega) fa50.size (fun va56 a56 hOa56 hFa56 _ => ?_) (fun w' hF => hH0 w' (fa50.trans hF fun j hj h => by have hq : a00.heap.size = j := Option.some.inj h; omega))
          have fa56 : Ext w2 a56 := fa50.trans hFa56 fun j hj h => by have hq : a00.heap.size = j := Option.some.inj h; omega
          have sa56 := fa56.size
          have ga56 := hFa56.size
          have na56 := Blk.fr na50 hFa56 (fun h => by have hq : a00.heap.size = _ := Option.some.inj h; omega)
          have aa56 : Ow flC 2 a56 w2.heap.size 51 va56 fl := by rw [Nat.zero_add] at hOa56; exact hOa56
          obtain ⟨Aa56, ca56, rfl, _, _⟩ := aa56.form
          repeat' (first | refine xldzh (cs := ndC rootV) rfl (by kernel_rfl) (fun w' (h : Blk w' _ _ _) j u hu => by rw [Nat.zero_add, h.cell, List.getElem?_toArray]; exact hu) ?_ | refine go1L ?_ | fail)
          refine grun [1, 4, 9, 10, 11] [] hR (by decide +kernel) (by decide +kernel) rfl ?_
          repeat' (first | refine xldzh (cs := ndC rootV) rfl (by kernel_rfl) (fun w' (h : Blk w' _ _ _) j u hu => by rw [Nat.zero_add, h.cell, List.getElem?_toArray]; exact hu) ?_ | refine go1L ?_ | fail)
          refine xbz1 sl_ents rfl rfl (by decide) (by decide) (fun a57 hBa57 hEa57 hsa57 => ?_) (fun w' he => hH0 w' (fa56.t he))
          have fa57 : Ext w2 a57 := fa56.t hEa57
          have sa57 := fa57.size
          have na57 := na56.ext hEa57
          have aa57 := aa56.ext hEa57
          have ea57 : Blk a57 a56.heap.size 54 (enC ⟨[], 0⟩).toArray := hBa57
          repeat' (first | refine xldzh (cs := ndC rootV) rfl (by kernel_rfl) (fun w' (h : Blk w' _ _ _) j u hu => by rw [Nat.zero_add, h.cell, List.getElem?_toArray]; exact hu) ?_ | refine go1L ?_ | fail)
          refine xbd (cells := #[.slice (some ⟨a56.heap.size, 0, none⟩) 1 1, .slice (some ⟨a38.heap.size, 0, none⟩) 1 1]) rfl (by kernel_rfl) ?_
          repeat' (first | refine xldzh (cs := ndC rootV) rfl (by kernel_rfl) (fun w' (h : Blk w' _ _ _) j u hu => by rw [Nat.zero_add, h.cell, List.getElem?_toArray]; exact hu) ?_ | refine go1L ?_ | fail)
          refine xbd (cells := rsC ⟨q, fl, 0, false⟩ (.slice Aa56 fl.length ca56) (.slice (some ⟨a56.heap.size, 0, none⟩) 1 1) (.slice (some ⟨a38.heap.size, 0, none⟩) 1 1)) rfl (by kernel_rfl) ?_
          repeat' (first | refine xldzh (cs := ndC rootV) rfl (by kernel_rfl) (fun w' (h : Blk w' _ _ _) j u hu => by rw [Nat.zero_add, h.cell, List.getElem?_toArray]; exact hu) ?_ | refine go1L ?_ | fail)
          refine xbox rfl (fun a60 hBa60 hEa60 hsa60 => ?_) (fun w' he => hH0 w' (fa57.t he))
          have hfin := fin a57 a60 a56.heap.size a38.heap.size _ ea57 na57 aa57 fa57 hBa60 hEa60 (by omega) (by omega)
          repeat' (first | refine xldzh (cs := ndC rootV) rfl (by kernel_rfl) (fun w' (h : Blk w' _ _ _) j u hu => by rw [Nat.zero_add, h.cell, List.getElem?_toArray]; exact hu) ?_ | refine go1L ?_ | fail)
          refine xg_end ?_
          refine goL ?_
          exact tret1 rfl rfl hfin
      · skip
        repeat' (first | refine xldzh (cs := ndC rootV) rfl (by kernel_rfl) (fun w' (h : Blk w' _ _ _) j u hu => by rw [Nat.zero_add, h.cell, List.getElem?_toArray]; exact hu) ?_ | refine go1L ?_ | fail)
        refine xapz (B := w2.heap.size) (news := fl.flatMap flC) sl_flts rfl (by decide) rfl za38 rfl (hf2.ext fa38) (flat_len flC_len _) (flC_one _) (by unfold maxLen; omega) (by omega) fa38.size (fun va61 a61 hOa61 hFa61 _ => ?_) (fun w' hF => hH0 w' (fa38.trans hF fun j hj h => by have hq : a00.heap.size = j := Option.some.inj h; omega))
        have fa61 : Ext w2 a61 := fa38.trans hFa61 fun j hj h => by have hq : a00.heap.size = j := Option.some.inj h; omega
        have sa61 := fa61.size
        have ga61 := hFa61.size
        have aa61 : Ow flC 2 a61 w2.heap.size 51 va61 fl := by rw [Nat.zero_add] at hOa61; exact hOa61
        obtain ⟨Aa61, ca61, rfl, _, _⟩ := aa61.form
        repeat' (first | refine xldzh (cs := ndC rootV) rfl (by kernel_rfl) (fun w' (h : Blk w' _ _ _) j u hu => by rw [Nat.zero_add, h.cell, List.getElem?_toArray]; exact hu) ?_ | refine go1L ?_ | fail)
        refine gbr2 1 3 [3, 4, 9, 10, 11] [1, 4, 9, 10, 11] hR (by decide +kernel) rfl rfl rfl rfl ?_ ?_
        · skip
          repeat' (first | refine xldzh (cs := ndC rootV) rfl (by kernel_rfl) (fun w' (h : Blk w' _ _ _) j u hu => by rw [Nat.zero_add, h.cell, List.getElem?_toArray]; exact hu) ?_ | refine go1L ?_ | fail)
          refine xbz1 sl_ents rfl rfl (by decide) (by decide) (fun a62 hBa62 hEa62 hsa62 => ?_) (fun w' he => hH0 w' (fa61.t he))
          have fa62 : Ext w2 a62 := fa61.t hEa62
          have sa62 := fa62.size
          have aa62 := aa61.ext hEa62
          have ea62 : Blk a62 a61.heap.size 54 (enC ⟨[], 0⟩).toArray := hBa62
          repeat' (first | refine xldzh (cs := ndC rootV) rfl (by kernel_rfl) (fun w' (h : Blk w' _ _ _) j u hu => by rw [Nat.zero_add, h.cell, List.getElem?_toArray]; exact hu) ?_ | refine go1L ?_ | fail)
          refine grun [3, 4, 9, 10, 11] [] hR (by decide +kernel) (by decide +kernel) rfl ?_
          repeat' (first | refine xldzh (cs := ndC rootV) rfl (by kernel_rfl) (fun w' (h : Blk w' _ _ _) j u hu => by rw [Nat.zero_add, h.cell, List.getElem?_toArray]; exact hu) ?_ | refine go1L ?_ | fail)
          refine xbz1 sl_nds rfl rfl (by decide) (by decide) (fun a63 hBa63 hEa63 hsa63 => ?_) (fun w' he => hH0 w' (fa62.t he))
          have fa63 : Ext w2 a63 := fa62.t hEa63
          have sa63 := fa63.size
          have ea63 := ea62.ext hEa63
          have aa63 := aa62.ext hEa63
          have na63 : Blk a63 a62.heap.size 67 (ndC rootV).toArray := hBa63
          repeat' (first | refine xldzh (cs := ndC rootV) rfl (by kernel_rfl) (fun w' (h : Blk w' _ _ _) j u hu => by rw [Nat.zero_add, h.cell, List.getElem?_toArray]; exact hu) ?_ | refine go1L ?_ | fail)
          refine xbd (cells := #[.slice (some ⟨a61.heap.size, 0, none⟩) 1 1, .slice (some ⟨a62.heap.size, 0, none⟩) 1 1]) rfl (by kernel_rfl) ?_
          repeat' (first | refine xldzh (cs := ndC rootV) rfl (by kernel_rfl) (fun w' (h : Blk w' _ _ _) j u hu => by rw [Nat.zero_add, h.cell, List.getElem?_toArray]; exact hu) ?_ | refine go1L ?_ | fail)
          refine xbd (cells := rsC ⟨q, fl, 0, false⟩ (.slice Aa61 fl.length ca61) (.slice (some ⟨a61.heap.size, 0, none⟩) 1 1) (.slice (some ⟨a62.heap.size, 0, none⟩) 1 1)) rfl (by kernel_rfl) ?_
          repeat' (first | refine xldzh (cs := ndC rootV) rfl (by kernel_rfl) (fun w' (h : Blk w' _ _ _) j u hu => by rw [Nat.zero_add, h.cell, List.getElem?_toArray]; exact hu) ?_ | refine go1L ?_ | fail)
          refine xbox rfl (fun a66 hBa66 hEa66 hsa66 => ?_) (fun w' he => hH0 w' (fa63.t he))
          have hfin := fin a63 a66 a61.heap.size a62.heap.size _ ea63 na63 aa63 fa63 hBa66 hEa66 (by omega) (by omega)
          repeat' (first | refine xldzh (cs := ndC rootV) rfl (by kernel_rfl) (fun w' (h : Blk w' _ _ _) j u hu => by rw [Nat.zero_add, h.cell, List.getElem?_toArray]; exact hu) ?_ | refine go1L ?_ | fail)
          refine xg_end ?_
          refine goL ?_
          exact tret1 rfl rfl hfin
        · skip
          repeat' (first | refine xldzh (cs := ndC rootV) rfl (by kernel_rfl) (fun w' (h : Blk w' _ _ _) j u hu => by rw [Nat.zero_add, h.cell, List.getElem?_toArray]; exact hu) ?_ | refine go1L ?_ | fail)
          refine xbz1 sl_nds rfl rfl (by decide) (by decide) (fun a67 hBa67 hEa67 hsa67 => ?_) (fun w' he => hH0 w' (fa61.t he))
          have fa67 : Ext w2 a67 := fa61.t hEa67
          have sa67 := fa67.size
          have aa67 := aa61.ext hEa67
          have na67 : Blk a67 a61.heap.size 67 (ndC rootV).toArray := hBa67
          repeat' (first | refine xldzh (cs := ndC rootV) rfl (by kernel_rfl) (fun w' (h : Blk w' _ _ _) j u hu => by rw [Nat.zero_add, h.cell, List.getElem?_toArray]; exact hu) ?_ | refine go1L ?_ | fail)
          refine grun [1, 4, 9, 10, 11] [] hR (by decide +kernel) (by decide +kernel) rfl ?_
          repeat' (first | refine xldzh (cs := ndC rootV) rfl (by kernel_rfl) (fun w' (h : Blk w' _ _ _) j u hu => by rw [Nat.zero_add, h.cell, List.getElem?_toArray]; exact hu) ?_ | refine go1L ?_ | fail)
          refine xbz1 sl_ents rfl rfl (by decide) (by decide) (fun a68 hBa68 hEa68 hsa68 => ?_) (fun w' he => hH0 w' (fa67.t he))
          have fa68 : Ext w2 a68 := fa67.t hEa68
          have sa68 := fa68.size
          have na68 := na67.ext hEa68
          have aa68 := aa67.ext hEa68
          have ea68 : Blk a68 a67.heap.size 54 (enC ⟨[], 0⟩).toArray := hBa68
          repeat' (first | refine xldzh (cs := ndC rootV) rfl (by kernel_rfl) (fun w' (h : Blk w' _ _ _) j u hu => by rw [Nat.zero_add, h.cell, List.getElem?_toArray]; exact hu) ?_ | refine go1L ?_ | fail)
          refine xbd (cells := #[.slice (some ⟨a67.heap.size, 0, none⟩) 1 1, .slice (some ⟨a61.heap.size, 0, none⟩) 1 1]) rfl (by kernel_rfl) ?_
          repeat' (first | refine xldzh (cs := ndC rootV) rfl (by kernel_rfl) (fun w' (h : Blk w' _ _ _) j u hu => by rw [Nat.zero_add, h.cell, List.getElem?_toArray]; exact hu) ?_ | refine go1L ?_ | fail)
          refine xbd (cells := rsC ⟨q, fl, 0, false⟩ (.slice Aa61 fl.length ca61) (.slice (some ⟨a67.heap.size, 0, none⟩) 1 1) (.slice (some ⟨a61.heap.size, 0, none⟩) 1 1)) rfl (by kernel_rfl) ?_
          repeat' (first | refine xldzh (cs := ndC rootV) rfl (by kernel_rfl) (fun w' (h : Blk w' _ _ _) j u hu => by rw [Nat.zero_add, h.cell, List.getElem?_toArray]; exact hu) ?_ | refine go1L ?_ | fail)
          refine xbox rfl (fun a71 hBa71 hEa71 hsa71 => ?_) (fun w' he => hH0 w' (fa68.t he))
          have hfin := fin a68 a71 a67.heap.size a61.heap.size _ ea68 na68 aa68 fa68 hBa71 hEa71 (by omega) (by omega)
          repeat' (first | refine xldzh (cs := ndC rootV) rfl (by kernel_rfl) (fun w' (h : Blk w' _ _ _) j u hu => by rw [Nat.zero_add, h.cell, List.getElem?_toArray]; exact hu) ?_ | refine go1L ?_ | fail)
          refine xg_end ?_
          refine goL ?_
          exact tret1 rfl rfl hfin
set_option maxRecDepth 20000 in
set_option maxHeartbeats 8000000 in
theorem rsfrom_does (w : World) (ve vn vf : Value) (nvs : List NdV) (t : Tre) (q : Int) (fl : List (Int × Int)) (hv : TrV w ve vn nvs t) (hf : Rw flC w vf fl) (hs : TsOK t) (le : t.es.length ≤ 1000000) (ln : t.ns.length ≤ 1000000) (hfl : fl.length ≤ 1000000) :
    Does Tryz.prog 17 #[.agg #[ve, vn], .int .i64 q, vf] w fun r w' => ∃ p, r = .tuple #[p, .int .i64 (fromE q t)] ∧ RsFrom q fl nvs t w p w' := by
  refine does3 Tryz.func17 rfl (by kernel_rfl) ?_
  obtain ⟨A, c, rfl, hc1, hc2, hA⟩ := hv.e.op enC_len
  obtain ⟨A', c', rfl, hc1', hc2', hA'⟩ := hv.n.op ndC_len
  refine goL ?_
  refine xbox rfl (fun w1 hB1 hE1 hs1 => ?_)
  have hB1' : Blk w1 w.heap.size 29 #[.slice A t.es.length c, .slice A' nvs.length c'] := hB1
  refine goL ?_
  refine xcall rfl rfl (rsnew_does w1 vf q fl (hf.ext hE1) hfl) ?_
  rintro r w2 ⟨hE2, hr⟩
  have hE02 := hE1.t hE2
  rcases hr with ⟨hn, rfl⟩ | ⟨hn, g, vf2, ve2, vn2, rfl, hI2, hg2, hv2⟩
  · have he : fromE q t = 1 := by
      unfold newE at hn
      unfold fromE
      by_cases h : q < 0 ∨ 1048576 < q
      · rw [if_pos (h.elim .inl fun h => .inr (.inl h))]
      · rw [if_neg h] at hn; exact absurd rfl hn
    rw [he]
    refine goL ?_
    exact tret2 rfl rfl rfl ⟨_, rfl, hE02, .inl ⟨by rw [he]; decide, rfl⟩⟩
  have hq : ¬ (q < 0 ∨ 1048576 < q) := fun h => by unfold newE at hn; rw [if_pos h] at hn; exact absurd hn (by decide)
  refine goL ?_
  refine xlda (t := 29) (Blk.ext hB1' hE2) rfl rfl ?_
  refine goL ?_
  refine xcallE rfl rfl (rtmay_does w2 _ _ nvs t (hv.ext hE02) hs ln) (fun r w3 h => ?_)
  obtain ⟨rfl, hE3⟩ := h
  have hE03 := hE02.t hE3
  cases hm : mayT t with
  | false =>
    have he : fromE q t = 1 := by unfold fromE; rw [if_pos (.inr (.inr hm))]
    rw [he]
    refine goL ?_
    exact tret2 rfl rfl rfl ⟨_, rfl, hE03, .inl ⟨by rw [he]; decide, rfl⟩⟩
  | true =>
    have hnot : ¬ (q < 0 ∨ 1048576 < q ∨ mayT t = false) := by
      rintro (a | a | a)
      · exact hq (.inl a)
      · exact hq (.inr a)
      · rw [hm] at a; cases a
    refine goL ?_
    refine xlda (t := 29) ((Blk.ext hB1' hE2).ext hE3) rfl rfl ?_
    refine goL ?_
    refine xcallE rfl rfl (rtotal_does w3 _ _ nvs t (hv.ext hE03) hs.b ln) (fun r w4 h => ?_)
    obtain ⟨rfl, hE4⟩ := h
    have hE04 := hE03.t hE4
    by_cases h3 : q < (totalT t.ns : Int)
    · have he : fromE q t = 10 := by unfold fromE; rw [if_neg hnot, if_pos h3]
      rw [he]
      refine goL ?_
      exact tret2 rfl rfl rfl ⟨_, rfl, hE04, .inl ⟨by rw [he]; decide, rfl⟩⟩
    have he : fromE q t = 0 := by unfold fromE; rw [if_neg hnot, if_neg h3]
    rw [he]
    refine goL ?_
    refine xlda (t := 29) (((Blk.ext hB1' hE2).ext hE3).ext hE4) rfl rfl ?_
    refine goL ?_
    refine xcall rfl rfl (rnorm_doesO w4 _ _ nvs t (hv.ext hE04) hs le ln) ?_
    rintro r w5 ⟨hE5, hr⟩
    rw [norm_same hm] at hr
    obtain ⟨ve', vn', nvs', rfl, hT, hOe, hOn, hys⟩ := hr
    have hE25 := (hE3.t hE4).t hE5
    have hI5 := hI2.ext hE25
    obtain ⟨A2, c2, rfl, _, _⟩ := hOe.form
    obtain ⟨A3, c3, rfl, _, _⟩ := hOn.form
    have z2 := hE02.size
    have z1 := hE1.size
    have z4 := hE04.size
    have z24 := (hE3.t hE4).size
    have hgl := hI2.k.lt
    refine goL ?_
    refine xstk (q := 0) (vs := [.slice A2 t.es.length c2, .slice A3 nvs'.length c3]) (nw := rsC ⟨q, fl, 0, false⟩ vf2 (.slice A2 t.es.length c2) (.slice A3 nvs'.length c3)) hI5.k rfl rfl (by kernel_rfl) (by show 2 ≤ 6; omega) (fun u hu => by
      simp only [List.mem_cons, List.not_mem_nil, or_false] at hu
      rcases hu with rfl | rfl <;> rfl) rfl (fun w6 hB6 hF6 => ?_)
    have hin : ∀ b x, x ∈ nvs' → NdN x b → b < w.heap.size := fun b x hx hb => (hv.i x (hys x hx)).ltN hb
    have ha : ∀ b, TrN (.slice A2 t.es.length c2) (.slice A3 nvs'.length c3) nvs' t b → b ≠ g := fun b hb => by
      rcases hb with hb | hb | ⟨x, hx, hb⟩
      · have := (hOe.blk hb.2).1; omega
      · have := (hOn.blk hb.2).1; omega
      · have := hin b x hx hb; omega
    have key : RsFrom q fl nvs t w (.pointer (some ⟨g, 0, none⟩)) w6 := ⟨(hE04.t hE5).trans hF6 fun j hj e => by have : j = g := e; omega, .inr ⟨he, g, vf2, _, _, nvs', rfl, ⟨hB6, hI5.f.frN hF6 fun b hb e => hI5.af b hb e, hT.frN hF6 fun b hb e => ha b hb e, hI5.af, ha, (may_good hm).inr, hs, le, ln⟩, by omega, fun b hb => by
      rcases hb with hb | hb | hb
      · have := hv2 b hb; omega
      · have := (hOe.blk hb.2).1; omega
      · have := (hOn.blk hb.2).1; omega, hys⟩⟩
    refine goL ?_
    exact tret2 rfl rfl rfl ⟨_, rfl, key⟩
end Eng
end Go.Proofs.YtiebbecknfpdeaaGreatDoor
