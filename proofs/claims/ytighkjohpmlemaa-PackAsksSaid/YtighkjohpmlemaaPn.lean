/-
  The laws' texts: repeating bytes.
-/
import Derived.Test.YtighkjohpmlemaaPl
import Derived.Test.YtighkjohpmlemaaHm
namespace Go.Proofs.Ytighkjohpmlemaa
open Go.RowKit
namespace Eng
/-- An int as a byte. -/
def bw (z : Int) : Int := IntKind.u8.wrap z
theorem bw_bd (z : Int) : 0 ≤ bw z ∧ bw z < 256 := by
  simp [bw, IntKind.wrap, IntKind.signed, IntKind.bits]; omega

section
variable {hs : List Nat} {H : World → Prop} {full : Array Oper} {K : Env → World → Prop} {rest : List Oper} {env : Env} {w : World} {d : Tmp} {ty : TypeId} {pos : String} {af : Array Edge}
theorem xcvby {s t : TypeId} {x : Operand} {k0 : IntKind} {a : Int} (hx : evo env x = some (.int k0 a)) (hsk : kindOf s = some k0) (ht : kindOf t = some .u8)
    (h : xs Try.prog isI isS hs H full K rest ((d, .int .u8 (bw a)) :: env) w) : xs Try.prog isI isS hs H full K (⟨some d, .convert s t x, ty, pos, af, none⟩ :: rest) env w := xcv hx hsk ht rfl h
theorem xcvuw {s t : TypeId} {x : Operand} {k0 : IntKind} {a : Int} (hx : evo env x = some (.int k0 a)) (hsk : kindOf s = some k0) (ht : kindOf t = some .u64)
    (h : xs Try.prog isI isS hs H full K rest ((d, .int .u64 (uw a)) :: env) w) : xs Try.prog isI isS hs H full K (⟨some d, .convert s t x, ty, pos, af, none⟩ :: rest) env w := xcv hx hsk ht rfl h
end
attribute [local irreducible] xs T

structure TxI (zs : List Int) (most : Nat) (w0 : World) (x : Nat × Value × List Int) (w : World) : Prop where
  le : x.1 ≤ zs.length
  own : Own w w0.heap.size 5 x.2.1 (x.2.2.map (Value.int .u8))
  byts : Byts x.2.2
  len : x.2.2.length ≤ most + 40
  ext : Ext w0 w

theorem byts_app {a b : List Int} (ha : Byts a) (hb : Byts b) : Byts (a ++ b) := fun z hz => (List.mem_append.1 hz).elim (ha z) (hb z)
theorem byts_sub {a : List Int} (ha : Byts a) (l n : Nat) : Byts ((a.drop l).take n) := fun z hz => ha z (List.mem_of_mem_drop (List.mem_of_mem_take hz))
theorem map_u8_one {zs : List Int} : ∀ u ∈ zs.map (Value.int .u8), u.oneCell' = true := fun u hu => by obtain ⟨z, _, rfl⟩ := List.mem_map.1 hu; rfl

set_option maxRecDepth 20000 in
set_option maxHeartbeats 4000000 in
theorem text_does (w : World) (v : Value) (zs : List Int) (most : Nat) (hv : IRow w v zs) (hm : most ≤ 10000) :
    Does Try.prog 34 #[v, .int .i64 (most : Int)] w fun r w' => ∃ bs, BRow w' r bs ∧ Byts bs ∧ bs.length ≤ most ∧ Ext w w' := by
  refine does2 Try.func34 rfl (by kernel_rfl) ?_
  obtain ⟨A, c, rfl, hcc, hcm, hA⟩ := hv.op
  refine goL ?_
  refine tloop (α := Nat × Value × List Int) (fun x => [(0, .slice A zs.length c), (1, .int .i64 (most : Int)), (5, x.2.1), (6, .int .i64 (x.1 : Int))]) (TxI zs most w) (fun x => zs.length - x.1) (0, .slice none 0 0, []) (sub ⟨rfl, rfl, rfl, rfl⟩) ⟨Nat.zero_le _, Own.nil _ _ _, (fun z hz => by cases hz), Nat.zero_le _, Fr.refl _ _⟩ ?_
  rintro ⟨i, bv, bs⟩ w1 ⟨hi, hown, hby, hl, hE⟩
  dsimp only at hi hown hby hl hE ⊢
  obtain ⟨A1, c1, e1, hc1, hm1⟩ := hown.form
  rw [List.length_map] at e1 hc1
  subst e1
  have hm1' : c1 ≤ 9223372036854775807 := hm1
  have hrow : Row w1 (.slice A1 bs.length c1) bs.length (bs.map (Value.int .u8)) := hown.brow
  have hsz := hE.size
  have hend : ∀ {w1 : World}, Row w1 (.slice A1 bs.length c1) bs.length (bs.map (Value.int .u8)) → Ext w w1 → ∀ (A' : Option Addr) (q : Nat), q ≤ bs.length → q ≤ most → Row w1 (.slice A' q c1) q ((bs.map (Value.int .u8)).take (q * 1)) → ∃ bs, BRow w1 (.slice A' q c1) bs ∧ Byts bs ∧ bs.length ≤ most ∧ Ext w w1 := fun _ hE A' q h1 h2 hr => ⟨bs.take q, BRow.sub0 hr h1, fun z hz => hby z (List.mem_of_mem_take hz), by rw [List.length_take]; omega, hE⟩
  by_cases h1 : i < zs.length
  · obtain ⟨b, o, z, rfl, hblt, hz, hcell, _⟩ := hA.at_ h1
    by_cases h2 : bs.length < most
    · have hcell1 := hE.cell hcell
      obtain ⟨u, hu⟩ : ∃ u, u = uw z := ⟨_, rfl⟩
      have hub := uw_bd z
      rw [← hu] at hub
      refine goL ?_
      refine xcvuw rfl rfl rfl ?_
      rw [← hu]
      by_cases h3 : u % 3 = 0 ∧ 4 < bs.length
      · obtain ⟨h3, h4⟩ := h3
        have q1 := Int.emod_nonneg (u / 3) (show (bs.length : Int) ≠ 0 by omega)
        have q2 := Int.emod_lt_of_pos (u / 3) (show 0 < (bs.length : Int) by omega)
        obtain ⟨l, hl'⟩ := Int.eq_ofNat_of_zero_le q1
        obtain ⟨k, hk⟩ : ∃ k : Nat, u / 7 % 40 = (k : Int) := ⟨(u / 7 % 40).toNat, by omega⟩
        refine goLMU ?_
        refine xslr2 l (min bs.length (l + k)) rfl rfl hrow rfl rfl hl' (by omega) (by omega) (by omega) (fun A' hr' ho' => ?_)
        have hr2 := BRow.sub2 hr' (by omega)
        unfold BRow at hr2
        have hlen : ((bs.drop l).take (min bs.length (l + k) - l)).length = min bs.length (l + k) - l := by rw [List.length_take, List.length_drop]; omega
        rw [hlen] at hr2
        refine xap sl_bytes rfl rfl hown rfl hr2 (by rw [List.length_map, hlen]) map_u8_one (by unfold maxLen; rw [List.length_map]; omega) (by rw [List.length_map]; omega) (by omega) (fun v3 w3 hown3 hF3 hv3 => ?_)
        refine goL ?_
        refine tfin ⟨(i + 1, v3, bs ++ (bs.drop l).take (min bs.length (l + k) - l)), sub ⟨rfl, rfl, rfl, rfl⟩, ⟨by dsimp only; omega, by dsimp only; rw [List.map_append]; exact hown3, byts_app hby (byts_sub hby _ _), by dsimp only; rw [List.length_append, hlen]; omega, Ext.te hE hF3 fun j hj e => by have := (hown.blk e).1; omega⟩, (by show zs.length - (i + 1) < zs.length - i; omega)⟩
      · have key : ∀ (w1 : World), Own w1 w.heap.size 5 (.slice A1 bs.length c1) (bs.map (Value.int .u8)) → True := fun _ _ => trivial
        by_cases h30 : u % 3 = 0
        · refine goLU ?_
          refine xbs sl_bytes rfl rfl (by decide) (by decide) (fun u hu => by simp at hu; rcases hu with rfl | rfl <;> rfl) (fun w2 hB2 hE2 hs2 => ?_)
          have hBB := BB.new' [bw (97 + u % 5), bw u] hB2 rfl
          refine xap sl_bytes rfl rfl (hown.ext hE2) rfl (hBB.row (by show 2 ≤ maxLen; decide)) rfl map_u8_one (by unfold maxLen; rw [List.length_map]; omega) (by rw [List.length_map]; omega) (by omega) (fun v3 w3 hown3 hF3 hv3 => ?_)
          refine goL ?_
          refine tfin ⟨(i + 1, v3, bs ++ [bw (97 + u % 5), bw u]), sub ⟨rfl, rfl, rfl, rfl⟩, ⟨by dsimp only; omega, by dsimp only; rw [List.map_append]; exact hown3, byts_app hby (fun z hz => by simp at hz; rcases hz with rfl | rfl <;> exact bw_bd _), by dsimp only; rw [List.length_append]; simp; omega, Ext.te (hE.t hE2) hF3 fun j hj e => by have := (hown.blk e).1; omega⟩, (by show zs.length - (i + 1) < zs.length - i; omega)⟩
        · refine goLU ?_
          refine xbs sl_bytes rfl rfl (by decide) (by decide) (fun u hu => by simp at hu; rcases hu with rfl | rfl <;> rfl) (fun w2 hB2 hE2 hs2 => ?_)
          have hBB := BB.new' [bw (97 + u % 5), bw u] hB2 rfl
          refine xap sl_bytes rfl rfl (hown.ext hE2) rfl (hBB.row (by show 2 ≤ maxLen; decide)) rfl map_u8_one (by unfold maxLen; rw [List.length_map]; omega) (by rw [List.length_map]; omega) (by omega) (fun v3 w3 hown3 hF3 hv3 => ?_)
          refine goL ?_
          refine tfin ⟨(i + 1, v3, bs ++ [bw (97 + u % 5), bw u]), sub ⟨rfl, rfl, rfl, rfl⟩, ⟨by dsimp only; omega, by dsimp only; rw [List.map_append]; exact hown3, byts_app hby (fun z hz => by simp at hz; rcases hz with rfl | rfl <;> exact bw_bd _), by dsimp only; rw [List.length_append]; simp; omega, Ext.te (hE.t hE2) hF3 fun j hj e => by have := (hown.blk e).1; omega⟩, (by show zs.length - (i + 1) < zs.length - i; omega)⟩
    · refine goLM ?_
      refine xslr0 (min bs.length most) rfl rfl hrow rfl (by omega) (by omega) (fun A' hr' ho' => ?_)
      refine goL ?_
      exact tret1 rfl rfl (hend hrow hE A' _ (by omega) (by omega) hr')
  · refine goLM ?_
    refine xslr0 (min bs.length most) rfl rfl hrow rfl (by omega) (by omega) (fun A' hr' ho' => ?_)
    refine goL ?_
    exact tret1 rfl rfl (hend hrow hE A' _ (by omega) (by omega) hr')
end Eng
end Go.Proofs.Ytighkjohpmlemaa
