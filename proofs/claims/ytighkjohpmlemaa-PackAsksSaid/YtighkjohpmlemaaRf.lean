/-
  The reference's Codes.
-/
import Derived.Test.YtighkjohpmlemaaRe
namespace Go.Proofs.Ytighkjohpmlemaa
open Go.RowKit
namespace Eng
attribute [local irreducible] xs T

/-- The codes laid so far: all of the lengths below l, and those of length l among the first i. -/
def cpart (zs : List Int) (l i : Nat) : List Int := (List.range zs.length).map fun s => if 0 < zs.getD s 0 ∧ (zs.getD s 0 < l ∨ (zs.getD s 0 = l ∧ s < i)) then (codeB zs s : Int) else 0
@[simp] theorem cpart_len (zs : List Int) (l i : Nat) : (cpart zs l i).length = zs.length := by simp [cpart]
theorem cpart_next (zs : List Int) (l : Nat) : cpart zs l zs.length = cpart zs (l + 1) 0 := by
  unfold cpart
  refine List.map_congr_left fun s hs => ?_
  have := List.mem_range.1 hs
  by_cases h : 0 < zs.getD s 0 ∧ (zs.getD s 0 < l ∨ (zs.getD s 0 = l ∧ s < zs.length))
  · rw [if_pos h, if_pos (by omega)]
  · rw [if_neg h, if_neg (by omega)]
theorem cpart_skip {zs : List Int} {l i : Nat} {z : Int} (hz : zs[i]? = some z) (h : z ≠ l) : cpart zs l (i + 1) = cpart zs l i := by
  have hg : zs.getD i 0 = z := by rw [List.getD_eq_getElem?_getD, hz]; rfl
  unfold cpart
  refine List.map_congr_left fun s _ => ?_
  by_cases e : s = i
  · subst e
    rw [hg]
    by_cases h1 : 0 < z ∧ z < l
    · rw [if_pos (by omega), if_pos (by omega)]
    · rw [if_neg (by omega), if_neg (by omega)]
  · by_cases h1 : 0 < zs.getD s 0 ∧ (zs.getD s 0 < l ∨ (zs.getD s 0 = l ∧ s < i))
    · rw [if_pos h1, if_pos (by omega)]
    · rw [if_neg h1, if_neg (by omega)]
theorem cpart_set {zs : List Int} {l i : Nat} (hz : zs[i]? = some (l : Int)) (hl : 0 < l) : (cpart zs l i).set i (codeB zs i : Int) = cpart zs l (i + 1) := by
  have hg : zs.getD i 0 = l := by rw [List.getD_eq_getElem?_getD, hz]; rfl
  have hi : i < zs.length := (List.getElem?_eq_some_iff.1 hz).1
  apply List.ext_getElem
  · simp
  · intro s h1 h2
    rw [List.getElem_set]
    simp only [cpart, List.getElem_map, List.getElem_range]
    by_cases e : i = s
    · subst e
      rw [if_pos rfl, if_pos (by omega)]
    · rw [if_neg e]
      by_cases h1 : 0 < zs.getD s 0 ∧ (zs.getD s 0 < l ∨ (zs.getD s 0 = l ∧ s < i))
      · rw [if_pos h1, if_pos (by omega)]
      · rw [if_neg h1, if_neg (by omega)]
theorem cpart_all {zs : List Int} (hL : Lens zs) : cpart zs 13 0 = codesB zs := by
  unfold cpart codesB
  refine List.map_congr_left fun s hs => ?_
  have hb := hL _ (getD_mem (List.mem_range.1 hs))
  by_cases h : 0 < zs.getD s 0
  · rw [if_pos (by omega)]
  · rw [if_neg (by omega)]
    unfold codeB
    rw [List.getElem?_eq_getElem (List.mem_range.1 hs)]
    have : zs.getD s 0 = zs[s]'(List.mem_range.1 hs) := by rw [List.getD_eq_getElem?_getD, List.getElem?_eq_getElem (List.mem_range.1 hs)]; rfl
    rw [this] at h
    dsimp only
    rw [if_neg h]; rfl
theorem cpart_zero (zs : List Int) : cpart zs 1 0 = List.replicate zs.length 0 := by
  apply List.ext_getElem
  · simp
  · intro s h1 h2
    simp only [cpart, List.getElem_map, List.getElem_range, List.getElem_replicate]
    rw [if_neg (by omega)]

theorem UB.new {w : World} {b n : Nat} (h : Blk w b 31 (Array.replicate n (.int .u64 0))) : UB w b (List.replicate n 0) := by
  unfold UB
  rw [List.map_replicate, List.toArray_replicate]; exact h
section
variable {hs : List Nat} {H : World → Prop} {full : Array Oper} {K : Env → World → Prop} {rest : List Oper} {env : Env} {w : World} {ty : TypeId} {pos : String} {af : Array Edge}
theorem xstu {t : TypeId} {x y : Operand} {g i : Nat} {l : List Int} {z : Int} (hB : UB w g l) (hx : evo env x = some (.pointer (some ⟨g, i, none⟩))) (hy : evo env y = some (.int .u64 z)) (ht : one t = true) (hi : i < l.length)
    (h : ∀ w', UB w' g (l.set i z) → Fr (· = g) w w' → xs Try.prog isI isS hs H full K rest env w') (hH : ∀ w', Fr (· = g) w w' → H w' := by intros; trivial) : xs Try.prog isI isS hs H full K (⟨none, .store t x y, ty, pos, af, none⟩ :: rest) env w := by
  refine xstb hB hx hy ht rfl (by simp; omega) (fun w' hB' hF => h w' ?_ hF) hH
  unfold UB
  rw [List.map_set, ← List.setIfInBounds_toArray]
  exact hB'
end

theorem count_take {zs : List Int} {i : Nat} {z : Int} (l : Int) (h : zs[i]? = some z) : (zs.take (i + 1)).count l = (zs.take i).count l + if z = l then 1 else 0 := by
  rw [List.take_add_one, h, List.count_append]
  by_cases e : z = l
  · subst e; simp
  · simp [e]

set_option maxRecDepth 20000 in
set_option maxHeartbeats 8000000 in
theorem rcodes_does (w : World) (v : Value) (zs : List Int) (hv : IRow w v zs) (hm : mayB zs = true) :
    Does Try.prog 19 #[v] w fun r w' => ∃ b, r = .slice (some ⟨b, 0, none⟩) zs.length zs.length ∧ w.heap.size ≤ b ∧ UB w' b (codesB zs) ∧ Ext w w' := by
  refine does1 Try.func19 rfl (by kernel_rfl) ?_
  have hl := may_len hm
  have hrow := hv
  obtain ⟨A, c, rfl, hcc, hcm, hA⟩ := hv.op
  refine go ?_
  refine xcall rfl rfl (mayLens_does w _ zs hrow (by omega)) (fun r w1 h1 => ?_)
  obtain ⟨rfl, rfl⟩ := h1
  rw [hm]
  refine go ?_
  refine xmk sl_uints rfl rfl rfl (by omega) (by rw [Int.toNat_natCast]; omega) (by omega) (fun w1 hB1 hE1 hs1 => ?_)
  rw [Int.toNat_natCast] at hB1 ⊢
  obtain ⟨g, hg⟩ : ∃ g, g = w.heap.size := ⟨_, rfl⟩
  rw [← hg] at hB1 hs1 ⊢
  refine go ?_
  refine tloop (α := Nat) (fun x => [(0, .slice A zs.length c), (3, .slice (some ⟨g, 0, none⟩) zs.length zs.length), (4, .int .u64 ((firstB zs x + manyB zs x : Nat) : Int)), (5, .int .i64 ((x + 1 : Nat) : Int))]) (fun x w' => x ≤ 12 ∧ UB w' g (cpart zs (x + 1) 0) ∧ Ext w w') (fun x => 12 - x) 0 (sub ⟨rfl, rfl, rfl, rfl⟩) ⟨by omega, by rw [cpart_zero]; exact UB.new hB1, hE1⟩ ?_
  rintro x w2 ⟨hx, hU, hE2⟩
  by_cases hx12 : x < 12
  · have hf1 := firstB_lt zs hl x (by omega)
    have hf2 := firstB_lt zs hl (x + 1) (by omega)
    have hfe : firstB zs (x + 1) = (firstB zs x + manyB zs x) * 2 := rfl
    have hme : manyB zs (x + 1) = zs.count ((x + 1 : Nat) : Int) := by unfold manyB; rw [if_neg (by omega)]
    refine go ?_
    refine xshl (r := (firstB zs (x + 1) : Int)) rfl rfl (by decide) (by decide) (by
      rw [hfe]
      have e : ((firstB zs x + manyB zs x : Nat) : Int) * 2 ^ (1 : Int).toNat = (((firstB zs x + manyB zs x) * 2 : Nat) : Int) := by show ((firstB zs x + manyB zs x : Nat) : Int) * 2 = _; omega
      rw [e]; exact u64_in _ (by omega) (by omega)) ?_
    refine go ?_
    refine tloop (α := Nat) (fun i => [(0, .slice A zs.length c), (3, .slice (some ⟨g, 0, none⟩) zs.length zs.length), (4, .int .u64 ((firstB zs (x + 1) + (zs.take i).count ((x + 1 : Nat) : Int) : Nat) : Int)), (5, .int .i64 ((x + 1 : Nat) : Int)), (6, .int .i64 (i : Int))]) (fun i w' => i ≤ zs.length ∧ UB w' g (cpart zs (x + 1) i) ∧ Ext w w') (fun i => zs.length - i) 0 (sub ⟨rfl, rfl, ieq (by simp), rfl, rfl⟩) ⟨Nat.zero_le _, hU, hE2⟩ ?_
    rintro i w3 ⟨hi, hU3, hE3⟩
    have hcb : (zs.take i).count ((x + 1 : Nat) : Int) ≤ zs.length := Nat.le_trans List.count_le_length (by rw [List.length_take]; omega)
    by_cases hlt : i < zs.length
    · obtain ⟨b, o, z, rfl, hb, hz, hcell, _⟩ := hA.at_ hlt
      have hc3 := hE3.cell hcell
      have hct := count_take ((x + 1 : Nat) : Int) hz
      by_cases he : z = ((x + 1 : Nat) : Int)
      · rw [if_pos he] at hct
        rw [he] at hz
        have hcode : codeB zs i = firstB zs (x + 1) + (zs.take i).count ((x + 1 : Nat) : Int) := code_eq hz (by omega)
        obtain ⟨nx, hnx⟩ : ∃ n, n = firstB zs (x + 1) + (zs.take i).count ((x + 1 : Nat) : Int) := ⟨_, rfl⟩
        rw [← hnx]
        rw [← hnx] at hcode
        have hcs := cpart_set hz (by omega)
        rw [hcode] at hcs
        have hcb2 : nx ≤ 4000400 := by rw [hnx]; omega
        refine go ?_
        refine xstu hU3 rfl rfl rfl (by rw [cpart_len, Nat.zero_add]; exact hlt) (fun w4 hU4 hF4 => ?_)
        rw [Nat.zero_add, hcs] at hU4
        refine go ?_
        exact tfin ⟨i + 1, sub ⟨rfl, rfl, ieq (by rw [hct]; omega), rfl, rfl⟩, ⟨by omega, hU4, Ext.te hE3 hF4 fun j hj e => by omega⟩, (by show zs.length - (i + 1) < zs.length - i; omega)⟩
      · rw [if_neg he] at hct
        refine go ?_
        exact tfin ⟨i + 1, sub ⟨rfl, rfl, ieq (by rw [hct]; rfl), rfl, rfl⟩, ⟨by omega, by rw [cpart_skip hz he]; exact hU3, hE3⟩, (by show zs.length - (i + 1) < zs.length - i; omega)⟩
    · obtain rfl : i = zs.length := by omega
      rw [List.take_length] at hcb ⊢
      rw [cpart_next] at hU3
      refine go ?_
      exact tfin ⟨x + 1, sub ⟨rfl, rfl, ieq (by rw [hme]), ieq (by omega)⟩, ⟨by omega, hU3, hE3⟩, (by show 12 - (x + 1) < 12 - x; omega)⟩
  · obtain rfl : x = 12 := by omega
    rw [cpart_all (may_lens hm)] at hU
    refine go ?_
    exact tret1 rfl rfl ⟨g, rfl, by omega, hU, hE2⟩

set_option maxRecDepth 20000 in
set_option maxHeartbeats 2000000 in
theorem rcodes_no (w : World) (v : Value) (zs : List Int) (hv : IRow w v zs) (hl : zs.length ≤ 1000) (hm : mayB zs = false) :
    Does Try.prog 19 #[v] w fun r w' => r = .slice none 0 0 ∧ w = w' := by
  refine does1 Try.func19 rfl (by kernel_rfl) ?_
  have hrow := hv
  obtain ⟨A, c, rfl, hcc, hcm, hA⟩ := hv.op
  refine go ?_
  refine xcall rfl rfl (mayLens_does w _ zs hrow hl) (fun r w1 h1 => ?_)
  obtain ⟨rfl, rfl⟩ := h1
  rw [hm]
  refine go ?_
  exact tret1 rfl rfl ⟨rfl, rfl⟩
set_option maxRecDepth 20000 in
set_option maxHeartbeats 2000000 in
theorem codes_no (w : World) (v : Value) (zs : List Int) (hv : IRow w v zs) (hm : mayB zs = false) :
    Does Try.prog 18 #[v] w fun r w' => r = .slice none 0 0 ∧ w = w' := by
  refine does1 Try.func18 rfl (by kernel_rfl) ?_
  have hrow := hv
  obtain ⟨A, c, rfl, hcc, hcm, hA⟩ := hv.op
  refine go ?_
  refine tscope1 (α := Nat) 0 rfl (fun _ => []) (fun _ _ => False) (fun x => x) (fun _ _ h => h.elim) ?_
  intro _
  refine go ?_
  refine xcall rfl rfl (may_does w _ zs hrow) (fun r w1 h1 => ?_)
  obtain ⟨rfl, rfl⟩ := h1
  rw [hm]
  refine go ?_
  exact tret1 rfl rfl ⟨rfl, rfl⟩
end Eng
end Go.Proofs.Ytighkjohpmlemaa
