/-
  The law SolidAsks; the reference's Split. The law SolidAsks returns true for every input, and the input reads as it did. No conditions.
-/
import Derived.Test.YtighkjohpmlemaaUd
import Derived.Test.YtighkjohpmlemaaTd
import Derived.Test.YtighkjohpmlemaaRow
/-! The law SolidAsks; the reference's Split. -/
namespace Go.Proofs.Ytighkjohpmlemaa
open Go.RowKit
namespace Eng
attribute [local irreducible] xs T

theorem sl_strs : SlT 71 9 (.string ⟨#[]⟩) 1 16 := slT Try.underlying71 (by kernel_rfl)
def strV (zs : List Int) : Value := .string (strOfNums zs)
theorem strV_one (l : List (List Int)) : ∀ u ∈ l.map strV, u.oneCell' = true := fun u hu => by obtain ⟨z, _, rfl⟩ := List.mem_map.1 hu; rfl

/-- The block of a row that is not empty, and its cells. -/
theorem Own.cells {w : World} {B : Nat} {e : TypeId} {v : Value} {vs : List Value} (h : Own w B e v vs) (h0 : 0 < vs.length) : ∃ g c, v = .slice (some ⟨g, 0, none⟩) vs.length c ∧ vs.length ≤ c ∧ c ≤ 9223372036854775807 ∧ B ≤ g ∧ g < w.heap.size ∧ ∀ (j : Nat) (u : Value), vs[j]? = some u → w.cell? ⟨g, j, none⟩ = some u := by
  obtain ⟨A, c, e1, h4, h5, hA⟩ := h.row
  obtain ⟨g, c', e', hg, hlt⟩ := h.lt_of h0
  rw [e'] at e1
  injection e1 with e1 e2 e3
  subst e3
  obtain ⟨b, o, hb, _, hc⟩ := hA h0
  rw [← e1] at hb
  injection hb with hb
  injection hb with hb ho
  subst hb; subst ho
  exact ⟨g, c', e', h4, h5, hg, hlt, fun j u hu => by have := hc j u hu; rwa [Nat.zero_add] at this⟩

structure RsI (zs : List Int) (w0 : World) (x : Nat × Value) (w : World) : Prop where
  le : x.1 ≤ blkN zs.length
  own : Own w w0.heap.size 9 x.2 (((List.range x.1).map (chB zs)).map strV)
  ext : Ext w0 w

set_option maxRecDepth 20000 in
set_option maxHeartbeats 4000000 in
theorem rsplit_does (w : World) (zs : List Int) (hl : zs.length ≤ 2 ^ 30) :
    Does Try.prog 39 #[.string (strOfNums zs)] w fun r w' => Own w' w.heap.size 9 r ((splB zs).map strV) ∧ Ext w w' := by
  refine does1 Try.func39 rfl (by kernel_rfl) ?_
  have hN : blkN zs.length = (zs.length + 255) / 256 := rfl
  refine goL ?_
  refine tloop (α := Nat × Value) (fun x => [(0, .string (strOfNums zs)), (3, x.2), (4, .int .i64 ((256 * x.1 : Nat) : Int))]) (RsI zs w) (fun x => blkN zs.length - x.1) (0, .slice none 0 0) (sub ⟨rfl, rfl, rfl⟩) ⟨Nat.zero_le _, Own.nil _ _ _, Fr.refl _ _⟩ ?_
  rintro ⟨k, ov⟩ w1 ⟨hk, hown, hE⟩
  dsimp only at hk hown hE ⊢
  have hrl : (((List.range k).map (chB zs)).map strV).length = k := by simp
  have hsz := hE.size
  by_cases hlt : k < blkN zs.length
  · repeat' (first | refine xsln rfl rfl ?_ | refine go1LM ?_ | fail)
    refine xssl2 (256 * k) (min (256 * k + 256) zs.length) rfl rfl rfl rfl rfl (by omega) (by omega) (by omega) ?_
    have hch : (zs.drop (256 * k)).take (min (256 * k + 256) zs.length - 256 * k) = chB zs k := by
      unfold chB
      rcases Nat.le_total 256 (zs.length - 256 * k) with h' | h'
      · rw [show min (256 * k + 256) zs.length - 256 * k = 256 from by omega]
      · rw [List.take_of_length_le (by rw [List.length_drop]; omega), List.take_of_length_le (by rw [List.length_drop]; omega)]
    rw [hch]
    refine xbs sl_strs rfl rfl (by decide) (by decide) (fun u hu => by rw [List.mem_singleton.1 hu]; rfl) (fun w2 hB2 hE2 hs2 => ?_)
    refine xap sl_strs rfl rfl (hown.ext hE2) rfl (blk_row hB2 (by decide) rfl) rfl (fun u hu => by rw [List.mem_singleton.1 hu]; rfl) (by unfold maxLen; rw [hrl]; omega) (by rw [hrl]; omega) (by omega) (fun v3 w3 hown3 hF3 hv3 => ?_)
    refine goL ?_
    refine tfin ⟨(k + 1, v3), sub ⟨rfl, rfl, ieq (by dsimp only; omega)⟩, ⟨by dsimp only; omega, ?_, Ext.te (hE.t hE2) hF3 fun j hj e => by have := (hown.blk e).1; omega⟩, (by show blkN zs.length - (k + 1) < blkN zs.length - k; omega)⟩
    dsimp only
    rw [List.range_succ, List.map_append, List.map_append]
    exact hown3
  · obtain rfl : k = blkN zs.length := by omega
    repeat' (first | refine xsln rfl rfl ?_ | refine go1L ?_ | fail)
    exact tret1 rfl rfl ⟨hown, hE⟩

set_option maxRecDepth 20000 in
set_option maxHeartbeats 4000000 in
theorem same_does (w : World) (B B' : Nat) (v v' : Value) (bss : List (List Int)) (hv : BsO w B v bss) (hv' : Own w B' 9 v' (bss.map strV)) (hb : ∀ zs ∈ bss, Byts zs) :
    Does Try.prog 42 #[v, v'] w fun r w' => r = .bool true ∧ Ext w w' := by
  refine does2 Try.func42 rfl (by kernel_rfl) ?_
  obtain ⟨A, c, e, hcc, hcm⟩ := hv.form
  obtain ⟨A', c', e', hcc', hcm'⟩ := hv'.form
  rw [List.length_map] at e' hcc'
  have hcm2 : c' ≤ 9223372036854775807 := hcm'
  subst e; subst e'
  refine goL ?_
  refine tloop (α := Nat) (fun k => [(0, .slice A bss.length c), (1, .slice A' bss.length c'), (5, .int .i64 (k : Int))]) (fun k w' => k ≤ bss.length ∧ Ext w w') (fun k => bss.length - k) 0 (sub ⟨rfl, rfl, rfl⟩) ⟨Nat.zero_le _, Fr.refl _ _⟩ ?_
  rintro k w1 ⟨hk, hE⟩
  by_cases hlt : k < bss.length
  · obtain ⟨g, c2, e2, _, _, _, _, hcells⟩ := (hv.ext hE).go (by omega)
    injection e2 with e2 _ _
    subst e2
    obtain ⟨g', c3, e3, _, _, _, _, hcells'⟩ := (hv'.ext hE).cells (by rw [List.length_map]; omega)
    injection e3 with e3 _ _
    subst e3
    obtain ⟨zs, hz⟩ : ∃ zs, bss[k]? = some zs := ⟨_, List.getElem?_eq_getElem hlt⟩
    have hzb := hb zs (List.mem_of_getElem? hz)
    obtain ⟨u, hu, huo⟩ := hcells k zs hz
    have hu' : w1.drew.cell? ⟨g, k, none⟩ = some u := hu
    have hs' : w1.drew.cell? ⟨g', k, none⟩ = some (.string (strOfNums zs)) := hcells' k _ (by rw [List.getElem?_map, hz]; rfl)
    obtain ⟨Au, cu, eu, _, _⟩ := huo.bform
    subst eu
    repeat' (first | refine xisq k k rfl rfl rfl rfl (by omega) (by omega) ?_ | refine go1L ?_ | fail)
    refine xcbs rfl (huo.brow.ext (Fr.drew _ _)) ?_
    repeat' (first | refine xisq k k rfl rfl rfl rfl (by omega) (by omega) ?_ | refine go1L ?_ | fail)
    refine xsneb rfl rfl (r := false) (by rw [str_ne hzb hzb]; simp) ?_
    refine goL ?_
    exact tfin ⟨k + 1, sub ⟨rfl, rfl, rfl⟩, ⟨by omega, hE.d⟩, (by show bss.length - (k + 1) < bss.length - k; omega)⟩
  · obtain rfl : k = bss.length := by omega
    refine goL ?_
    exact tret1 rfl rfl ⟨rfl, hE⟩

structure SaI (zs : List Int) (w0 : World) (x : Nat × Value) (w : World) : Prop where
  le : x.1 ≤ blkN zs.length
  own : Own w w0.heap.size 9 x.2 (((pkS zs).take x.1).map strV)
  ext : Ext w0 w

set_option maxRecDepth 20000 in
set_option maxHeartbeats 8000000 in
theorem solidAsks_does (w : World) (v : Value) (ls : List Int) (hv : IRow w v ls) :
    Does Try.prog 11 #[v] w fun r w' => r = .bool true ∧ Ext w w' := by
  refine does1 Try.func11 rfl (by kernel_rfl) ?_
  refine goL ?_
  refine xcall rfl rfl (text_does w _ ls 900 hv (by decide)) (fun r w1 h1 => ?_)
  obtain ⟨zs, rx, hb, lx, hE1⟩ := h1
  obtain ⟨A1, c1, rfl, hc1, hm1⟩ := rx.form
  have hN : blkN zs.length = (zs.length + 255) / 256 := rfl
  refine goL ?_
  refine xcbs rfl rx ?_
  refine xcall rfl rfl (rsplit_does w1 zs (by omega)) (fun r w2 h2 => ?_)
  obtain ⟨hs2, hE2⟩ := h2
  have hsl : ((splB zs).map strV).length = blkN zs.length := by rw [List.length_map, splB_len]
  obtain ⟨A2, c2, e2, hc2, hm2⟩ := hs2.form
  rw [hsl] at e2 hc2
  subst e2
  have hm2' : c2 ≤ 9223372036854775807 := hm2
  have hpl := pkS_len zs
  refine goL ?_
  refine tloop (α := Nat × Value) (fun x => [(3, .slice A1 zs.length c1), (4, .slice A2 (blkN zs.length) c2), (5, x.2), (6, .int .i64 (x.1 : Int))]) (SaI zs w2) (fun x => blkN zs.length - x.1) (0, .slice none 0 0) (sub ⟨rfl, rfl, rfl, rfl⟩) ⟨Nat.zero_le _, Own.nil _ _ _, Fr.refl _ _⟩ ?_
  rintro ⟨k, pv⟩ w3 ⟨hk, hown, hE3⟩
  dsimp only at hk hown hE3 ⊢
  have hsz3 := hE3.size
  have htl : (((pkS zs).take k).map strV).length = k := by rw [List.length_map, List.length_take]; omega
  by_cases hlt : k < blkN zs.length
  · obtain ⟨g, c3, e3, _, _, _, _, hcells⟩ := (hs2.ext hE3).cells (by omega)
    injection e3 with e3 _ _
    subst e3
    have hk3 : w3.cell? ⟨g, k, none⟩ = some (.string (strOfNums (chB zs k))) := hcells k _ (by rw [List.getElem?_map, splB_get zs hlt]; rfl)
    have hcl := chB_len zs k
    have hcl2 : (chB zs k).length ≤ 12000 := by omega
    repeat' (first | refine xisq k k rfl rfl rfl rfl (by omega) (by omega) ?_ | refine go1L ?_ | fail)
    refine xcall rfl rfl (rpack_does w3 (chB zs k) (chB_byts hb k) (by omega)) (fun r w4 h4 => ?_)
    obtain ⟨rfl, hE4⟩ := h4
    rw [ptB_ok hcl2, ptE_ok hcl2]
    have hsz4 := hE4.size
    refine goL ?_
    refine xbs sl_strs rfl rfl (by decide) (by decide) (fun u hu => by rw [List.mem_singleton.1 hu]; rfl) (fun w5 hB5 hE5 hs5 => ?_)
    refine xap sl_strs rfl rfl (hown.ext (hE4.t hE5)) rfl (blk_row hB5 (by decide) rfl) rfl (fun u hu => by rw [List.mem_singleton.1 hu]; rfl) (by unfold maxLen; rw [htl]; omega) (by rw [htl]; omega) (by omega) (fun v6 w6 hown6 hF6 hv6 => ?_)
    refine goL ?_
    refine tfin ⟨(k + 1, v6), sub ⟨rfl, rfl, rfl, rfl⟩, ⟨by dsimp only; omega, ?_, Ext.te (hE3.t (hE4.t hE5)) hF6 fun j hj e => by have := (hown.blk e).1; omega⟩, (by show blkN zs.length - (k + 1) < blkN zs.length - k; omega)⟩
    dsimp only
    have hg : (pkS zs)[k]? = some (putB (chB zs k)) := by simp [pkS, splB_get zs hlt]
    rw [List.take_add_one, hg, List.map_append]
    exact hown6
  obtain rfl : k = blkN zs.length := by omega
  rw [List.take_of_length_le (by omega)] at hown
  have hE03 : Ext w w3 := hE1.t (hE2.t hE3)
  have rx3 := rx.ext (hE2.t hE3)
  have hs3 := hs2.ext hE3
  refine goL ?_
  refine xcall rfl rfl (spack_does w3 _ zs rx3 hb (by omega)) (fun r w4 h4 => ?_)
  obtain ⟨v4, rfl, hbs4, hE4⟩ := h4
  refine goL ?_
  refine xcall rfl rfl (stold_does w4) (fun r w5 h5 => ?_)
  obtain ⟨rfl, hE5⟩ := h5
  have hE35 := hE4.t hE5
  refine goL ?_
  refine xcall rfl rfl (split_does w5 _ zs (rx3.ext hE35) (by omega)) (fun r w6 h6 => ?_)
  obtain ⟨hbs6, hE6⟩ := h6
  refine goL ?_
  refine xcall rfl rfl (same_does w6 _ _ _ _ (splB zs) hbs6 (hs3.ext (hE35.t hE6)) (fun ys hy => by obtain ⟨i, _, rfl⟩ := List.mem_map.1 hy; exact chB_byts hb i)) (fun r w7 h7 => ?_)
  obtain ⟨rfl, hE7⟩ := h7
  refine goL ?_
  refine xcall rfl rfl (same_does w7 _ _ _ _ (pkS zs) (hbs4.ext (hE5.t (hE6.t hE7))) (hown.ext (hE35.t (hE6.t hE7))) (fun ys hy => (pkS_mem hb ys hy).1)) (fun r w8 h8 => ?_)
  obtain ⟨rfl, hE8⟩ := h8
  refine goL ?_
  exact tret1 rfl rfl ⟨rfl, hE03.t ((hE35.t hE6).t (hE7.t hE8))⟩
end Eng
end Go.Proofs.Ytighkjohpmlemaa

/-! The law SolidAsks returns true for every input, and the input reads as it did. No conditions. -/
namespace Go.Proofs.Ytighkjohpmlemaa
open Go.ChangeShapes Go.WideShapes Go.ChangeAt Go.RowKit Eng

set_option maxRecDepth 100000 in
theorem solidAsks_lifted (os : Os) (started : os.Started) (H : Type) (enc : TypeId × Value → H) :
    ReturnsInHanded {} Try.checked os 11 .any (Rows.solidAsksSpec.pre6 enc Try.prog Try.f11 Rows.solidAsksRow.domain false) (Rows.solidAsksSpec.post enc Try.prog Try.f11 false true false false) := by
  refine returnsInHanded_of_change (C := Try.checked) own_ started (by kernel_rfl) Try.func11
    (ChangeSpec.witness6 (enc := enc) (C := Try.checked) false ⟨#[], #[.slice none 0 0], []⟩ 8 (by kernel_rfl) (by kernel_rfl) (by kernel_rfl) (by kernel_rfl)) ?_
  intro W base args ds gs before hval0 hW _ _
  have hval : ∀ (j : Nat) t v, Try.f11.params[j]? = some t → args[j]? = some v → Value.okWide Try.prog W .any base t v := hval0
  have hW' := hW
  obtain ⟨p, q, hA0, hV, rfl, hfz, hnd⟩ := hW
  have hA : DataW.TrodAll enc Try.prog W 0 (fun _ => true) true Try.f11.params.toList args.toList ds p := hA0
  rw [Try.params11] at hA hval
  obtain ⟨v0, d0, rfl, rfl, h0⟩ := trodAll_one hA
  obtain ⟨rfl, rfl⟩ := trodVars_none hV
  obtain ⟨z0, r0, x0⟩ := irow_of Try.underlying22 Try.underlying3 (by kernel_rfl) (hval 0 22 v0 rfl rfl) h0
  clear hA0 hval0
  refine Calls.mono (solidAsks_does W v0 z0 r0) fun e W' ⟨v, he, hr, hE⟩ => ?_
  subst hr
  exact ⟨_, he, post_law rfl rfl (by kernel_rfl) (by kernel_rfl) hW' hE⟩

theorem solidAsks_holds : Rows.SolidAsksSaid :=
  OpenClaim.holds_of_wide 11 Try.f11 rfl rfl rfl rfl rfl rfl rfl ⟨rfl, rfl, rfl, rfl, rfl⟩ rfl rfl rfl rfl rfl (by kernel_rfl) Try.func11 (by kernel_rfl)
    (of_decide_eq_true (by kernel_rfl)) (by unfold Func.isWrapper; first | (rw [if_pos (by decide +kernel)]; kernel_rfl) | (rw [if_neg (by decide +kernel)]; exact ⟨rfl, rfl⟩))
    (fun os started H enc _ => solidAsks_lifted os started H enc)
#print axioms solidAsks_holds
end Go.Proofs.Ytighkjohpmlemaa
