/-
  The law HuffShort returns true, whatever the counts.
-/
import Derived.Test.YtighkjohpmlemaaHl
namespace Go.Proofs.Ytighkjohpmlemaa
open Go.RowKit
namespace Eng
attribute [local irreducible] xs T

/-- An int as a uint. -/
def uw (z : Int) : Int := IntKind.u64.wrap z
theorem uw_bd (z : Int) : 0 ≤ uw z ∧ uw z ≤ 18446744073709551615 := by
  simp [uw, IntKind.wrap, IntKind.signed, IntKind.bits]; omega

def shB (m : Int) (zs : List Int) : List Int := zs.map fun z => 1 + uw z % m
theorem shB_take (m : Int) {zs : List Int} {i : Nat} {z : Int} (h : zs[i]? = some z) : shB m (zs.take (i + 1)) = shB m (zs.take i) ++ [1 + uw z % m] := by
  unfold shB; rw [List.take_add_one, h]; simp
theorem shB_mem {m : Int} (hm : 0 < m) {zs : List Int} : ∀ x ∈ shB m zs, 1 ≤ x ∧ x ≤ m := by
  intro x hx
  obtain ⟨z, _, rfl⟩ := List.mem_map.1 hx
  have h1 := Int.emod_nonneg (uw z) (show m ≠ 0 by omega)
  have h2 := Int.emod_lt_of_pos (uw z) hm
  omega
@[simp] theorem shB_len (m : Int) (zs : List Int) : (shB m zs).length = zs.length := by simp [shB]

structure HsI (m : Int) (zs : List Int) (B : Nat) (w0 : World) (x : Nat × Value) (w : World) : Prop where
  le : x.1 ≤ zs.length
  l60 : x.1 ≤ 60
  own : Own w B 3 x.2 ((shB m (zs.take x.1)).map (Value.int .i64))
  base : B ≤ w.heap.size
  ext : Ext w0 w

set_option maxRecDepth 20000 in
set_option maxHeartbeats 8000000 in
theorem huffShort_does (w : World) (v : Value) (zs : List Int) (hv : IRow w v zs) : Does Try.prog 4 #[v] w fun r w' => r = .bool true ∧ Ext w w' := by
  refine does1 Try.func4 rfl (by kernel_rfl) ?_
  have hrow := hv
  obtain ⟨A, c, rfl, hcc, hcm, hA⟩ := hv.op
  by_cases h2 : zs.length < 2
  · refine go ?_
    refine xcall rfl rfl (told_does w) (fun r w1 h1 => ?_)
    obtain ⟨rfl, hE⟩ := h1
    refine go ?_
    exact tret1 rfl rfl ⟨rfl, hE⟩
  refine go ?_
  refine tloop (α := Nat) (fun t => [(0, .slice A zs.length c), (3, .int .i64 (t : Int))]) (fun t w' => t ≤ 2 ∧ Ext w w') (fun t => 2 - t) 0 (sub ⟨rfl, rfl⟩) ⟨by omega, Fr.refl _ _⟩ ?_
  rintro t w1 ⟨ht, hE1⟩
  by_cases ht2 : t = 2
  · subst ht2
    refine go ?_
    refine xcall rfl rfl (told_does w1) (fun r w2 h2 => ?_)
    obtain ⟨rfl, hE⟩ := h2
    refine go ?_
    exact tret1 rfl rfl ⟨rfl, hE1.t hE⟩
  refine go ?_
  obtain ⟨m, hm⟩ : ∃ m : Int, m = if t = 0 then 9 else 1000000000 := ⟨_, rfl⟩
  have hmb : 9 ≤ m ∧ m ≤ 1000000000 := by rw [hm]; split <;> omega
  refine tloop (α := Nat × Value) (fun x => [(0, .slice A zs.length c), (3, .int .i64 (t : Int)), (4, x.2), (5, .int .i64 (x.1 : Int))]) (HsI m zs w1.heap.size w1) (fun x => 60 - x.1) (0, .slice none 0 0) (sub ⟨rfl, rfl, rfl, rfl⟩) ⟨Nat.zero_le _, by dsimp only; omega, by simpa [shB] using Own.nil w1 w1.heap.size 3, Nat.le_refl _, Fr.refl _ _⟩ ?_
  rintro ⟨i, v2⟩ w2 ⟨hi, h60, hown, hbase, hE2⟩
  dsimp only at hi h60 hown hbase hE2 ⊢
  have hEa : Ext w w2 := hE1.t hE2
  by_cases hgo : i < zs.length ∧ i < 60
  · obtain ⟨hlt, h6⟩ := hgo
    obtain ⟨b, o, z, rfl, _, hz, hcell, _⟩ := hA.at_ hlt
    have hc2 := hEa.cell hcell
    have hu := uw_bd z
    have hr1 := Int.emod_nonneg (uw z) (show m ≠ 0 by omega)
    have hr2 := Int.emod_lt_of_pos (uw z) (show 0 < m by omega)
    have htk := shB_take m hz
    have hll : ((shB m (zs.take i)).map (Value.int .i64)).length = i := by simp; omega
    have hns : ∀ j, j < w1.heap.size → v2.ownBlock ≠ some j := fun j hj e => by have := (hown.blk e).1; omega
    have fin : ∀ env w3 w4 v4, Sub [(0, .slice (some ⟨b, o, none⟩) zs.length c), (3, .int .i64 (t : Int)), (4, v4), (5, .int .i64 ((i : Int) + 1))] env → Ext w2 w3 → Own w4 w1.heap.size 3 v4 ((shB m (zs.take i)).map (Value.int .i64) ++ [.int .i64 (1 + uw z % m)]) → Fr (fun b => v2.ownBlock = some b) w3 w4 →
        Again (fun x : Nat × Value => [(0, .slice (some ⟨b, o, none⟩) zs.length c), (3, .int .i64 (t : Int)), (4, x.2), (5, .int .i64 (x.1 : Int))]) (HsI m zs w1.heap.size w1) (fun x => 60 - x.1) (60 - i) env w4 :=
      fun env w3 w4 v4 hs hE3 ho hF => ⟨(i + 1, v4), hs, ⟨by dsimp only; omega, by dsimp only; omega, by dsimp only; rw [htk, List.map_append]; exact ho, by have := hE3.size; have := hF.size; omega, Ext.te (hE2.t hE3) hF fun j hj => hns j hj⟩, (by show 60 - (i + 1) < 60 - i; omega)⟩
    by_cases ht0 : t = 0
    · rw [if_pos ht0] at hm
      subst hm
      subst ht0
      repeat' (first | refine xcv (r := uw z) rfl rfl rfl rfl ?_ | refine xcvi rfl rfl rfl (by omega) (by omega) ?_ | refine xdu (op := .rem) rfl rfl rfl (by omega) (by omega) (by omega) ?_ | refine go1 ?_ | fail)
      refine xbs sl_ints rfl rfl (by decide) (by decide) (fun u hu => by rw [List.mem_singleton.1 hu]; rfl) (fun w3 hB3 hE3 hs3 => ?_)
      refine xap sl_ints rfl rfl (hown.ext hE3) rfl (news := [.int .i64 (1 + uw z % 9)]) (one_row hB3) rfl (fun u hu => by rw [List.mem_singleton.1 hu]; rfl) (by unfold maxLen; rw [hll]; omega) (by rw [hll]; omega) (by omega) (fun v4 w4 hown4 hF4 _ => ?_)
      refine go ?_
      exact tfin (fin _ w3 w4 v4 (sub ⟨rfl, rfl, rfl, rfl⟩) hE3 hown4 hF4)
    · rw [if_neg ht0] at hm
      subst hm
      obtain rfl : t = 1 := by omega
      repeat' (first | refine xcv (r := uw z) rfl rfl rfl rfl ?_ | refine xcvi rfl rfl rfl (by omega) (by omega) ?_ | refine xdu (op := .rem) rfl rfl rfl (by omega) (by omega) (by omega) ?_ | refine go1 ?_ | fail)
      refine xbs sl_ints rfl rfl (by decide) (by decide) (fun u hu => by rw [List.mem_singleton.1 hu]; rfl) (fun w3 hB3 hE3 hs3 => ?_)
      refine xap sl_ints rfl rfl (hown.ext hE3) rfl (news := [.int .i64 (1 + uw z % 1000000000)]) (one_row hB3) rfl (fun u hu => by rw [List.mem_singleton.1 hu]; rfl) (by unfold maxLen; rw [hll]; omega) (by rw [hll]; omega) (by omega) (fun v4 w4 hown4 hF4 _ => ?_)
      refine go ?_
      exact tfin (fin _ w3 w4 v4 (sub ⟨rfl, rfl, rfl, rfl⟩) hE3 hown4 hF4)
  · obtain ⟨cs, hcs⟩ : ∃ cs, cs = shB m (zs.take i) := ⟨_, rfl⟩
    rw [← hcs] at hown
    have hcl : cs.length = i := by rw [hcs]; simp; omega
    have hmem : ∀ x ∈ cs, 1 ≤ x ∧ x ≤ m := by rw [hcs]; exact shB_mem (by omega)
    have hi2 : 2 ≤ i := by omega
    have hsum := isum_le m cs fun x hx => (hmem x hx).2
    have exit_ : ∀ plain, (plain = true → isum cs < 610) → Does Try.prog 29 #[v2, .bool plain] w2 (fun r w' => r = .bool true ∧ Ext w2 w') := fun plain hp =>
      short_does w2 v2 cs plain hown.irow (by omega) (by omega) (fun x hx => by have := hmem x hx; omega) hp
    by_cases ht0 : t = 0
    · rw [if_pos ht0] at hm
      subst hm
      subst ht0
      by_cases hlt : i < zs.length
      · refine go ?_
        refine xcall rfl rfl (exit_ true fun _ => by omega) (fun r w3 h3 => ?_)
        obtain ⟨rfl, hE3⟩ := h3
        refine go ?_
        exact tfin ⟨1, sub ⟨rfl, rfl⟩, ⟨by omega, hEa.t hE3⟩, by decide⟩
      · refine go ?_
        refine xcall rfl rfl (exit_ true fun _ => by omega) (fun r w3 h3 => ?_)
        obtain ⟨rfl, hE3⟩ := h3
        refine go ?_
        exact tfin ⟨1, sub ⟨rfl, rfl⟩, ⟨by omega, hEa.t hE3⟩, by decide⟩
    · obtain rfl : t = 1 := by omega
      by_cases hlt : i < zs.length
      · refine go ?_
        refine xcall rfl rfl (exit_ false fun h => by cases h) (fun r w3 h3 => ?_)
        obtain ⟨rfl, hE3⟩ := h3
        refine go ?_
        exact tfin ⟨2, sub ⟨rfl, rfl⟩, ⟨by omega, hEa.t hE3⟩, by decide⟩
      · refine go ?_
        refine xcall rfl rfl (exit_ false fun h => by cases h) (fun r w3 h3 => ?_)
        obtain ⟨rfl, hE3⟩ := h3
        refine go ?_
        exact tfin ⟨2, sub ⟨rfl, rfl⟩, ⟨by omega, hEa.t hE3⟩, by decide⟩
end Eng
end Go.Proofs.Ytighkjohpmlemaa
