/-
  Laws of the solid rows: SolidRows.
-/
import Derived.Test.YtighkjohpmlemaaUd
namespace Go.Proofs.Ytighkjohpmlemaa
open Go.RowKit
namespace Eng
attribute [local irreducible] xs T

structure RwI (zs : List Int) (g U : Nat) (vb : Value) (w0 : World) (x : Nat × Nat × Value × Value × List Int × Nat × Nat) (w : World) : Prop where
  it : x.1 ≤ x.2.1
  le : x.2.1 ≤ zs.length
  own : Own w U 5 x.2.2.1 ((zs.take x.2.1).map (Value.int .u8))
  so : SoX w g (pkS zs) zs.length U vb x.2.2.2.1 x.2.2.2.2.1 x.2.2.2.2.2.1 x.2.2.2.2.2.2
  av : ∀ b, x.2.2.1.ownBlock = some b → x.2.2.2.1.ownBlock ≠ some b
  z : x.2.1 = 0 → x.2.2.2.2.2.1 = 0 ∧ x.2.2.2.2.2.2 = 0
  p : 0 < x.2.1 → x.2.2.2.2.1 = chB zs ((x.2.1 - 1) / 256) ∧ x.2.2.2.2.2.1 = (x.2.1 - 1) / 256 + 1 ∧ x.2.2.2.2.2.2 = (x.2.1 - 1) / 256 + 1
  ext : Ext w0 w

set_option maxRecDepth 20000 in
set_option maxHeartbeats 8000000 in
theorem solidRows_does (w : World) (v v1 : Value) (ls : List Int) (hv : IRow w v ls) (cs : List Int) (hv1 : IRow w v1 cs) :
    Does Try.prog 13 #[v, v1] w fun r w' => r = .bool true ∧ Ext w w' := by
  refine does2 Try.func13 rfl (by kernel_rfl) ?_
  obtain ⟨Ac, cc, rfl, hccc, hccm, hAc⟩ := hv1.op
  refine goL ?_
  refine xcall rfl rfl (text_does w _ ls 900 hv (by decide)) (fun r w1 h1 => ?_)
  obtain ⟨zs, rx, hb, lx, hE1⟩ := h1
  obtain ⟨A1, c1, rfl, hc1, hm1⟩ := rx.form
  have hN : blkN zs.length = (zs.length + 255) / 256 := rfl
  refine goL ?_
  refine xcall rfl rfl (spack_does w1 _ zs rx hb (by omega)) (fun r w2 h2 => ?_)
  obtain ⟨v2, rfl, hbs2, hE2⟩ := h2
  have hpl := pkS_len zs
  refine goL ?_
  refine xcall rfl rfl (sopen_does w2 _ _ (pkS zs) zs.length hbs2 (by omega) hpl (fun ys hy => (pkS_mem hb ys hy).2)) (fun r w3 h3 => ?_)
  obtain ⟨rfl, ⟨U, vb, vk, hso⟩, hE3⟩ := h3
  have hE03 : Ext w w3 := hE1.t (hE2.t hE3)
  have hsz2 : w1.heap.size ≤ w2.heap.size := hE2.size
  have hsz1 := hE1.size
  have hgU : w2.heap.size < U ∨ U ≤ w2.heap.size := Nat.lt_or_ge _ _
  obtain ⟨U', hU', hso'⟩ : ∃ U', w2.heap.size < U' ∧ SoX w3 w2.heap.size (pkS zs) zs.length U' vb vk [] 0 0 := by
    refine ⟨w3.heap.size, hso.blk.lt, hso.blk, ?_, hso.kp, Nat.le_refl _⟩
    exact hso.bs.bs.up
  clear hso hgU
  refine goL ?_
  refine tloop (α := Nat × Nat × Value × Value × List Int × Nat × Nat) (fun x => [(1, .slice Ac cs.length cc), (5, .slice A1 zs.length c1), (8, .pointer (some ⟨w2.heap.size, 0, none⟩)), (10, .int .i64 (x.2.1 : Int)), (11, x.2.2.1), (12, .int .i64 (x.1 : Int))]) (RwI zs w2.heap.size U' vb w2) (fun x => zs.length - x.2.1) (0, 0, .slice none 0 0, vk, [], 0, 0) (sub ⟨rfl, rfl, rfl, rfl, rfl, rfl⟩) ⟨Nat.le_refl _, Nat.zero_le _, by dsimp only; rw [List.take_zero]; exact Own.nil _ _ _, hso', (fun b hb => by cases hb), fun _ => ⟨rfl, rfl⟩, (fun h => absurd h (Nat.lt_irrefl 0)), hE3⟩ ?_
  rintro ⟨i, a, ov, vk4, kp, wh, ct⟩ w4 ⟨hit, hle, hown, hso4, hav, hz0, hp, hE4⟩
  dsimp only at hit hle hown hso4 hav hz0 hp hE4 ⊢
  have hup4 := hso4.up
  have hsz4 := hE4.size
  have rx4 : BRow w4 (.slice A1 zs.length c1) zs := rx.ext (hE2.t hE4)
  have hE04 : Ext w w4 := hE1.t (hE2.t hE4)
  by_cases hlt : a < zs.length
  · have hbd : wh ≤ 2 ^ 30 ∧ ct ≤ 2 ^ 30 := by
      rcases Nat.eq_zero_or_pos a with h' | h'
      · have := hz0 h'; omega
      · have := hp h'; omega
    have hst : wh = a / 256 + 1 → kp = chB zs (a / 256) := fun e => by
      rcases Nat.eq_zero_or_pos a with h' | h'
      · have := hz0 h'; omega
      · obtain ⟨h1, h2, _⟩ := hp h'
        rw [h1]; congr 1; omega
    by_cases hcl : cs.length = 0
    · refine goL ?_
      obtain ⟨m, hm⟩ : ∃ m, m = min 100 (zs.length - a) := ⟨_, rfl⟩
      have hmi : (min (100 : Int) ((zs.length : Int) - (a : Int))) = (m : Int) := by omega
      refine goLM ?_
      rw [hmi]
      refine xcall rfl rfl (read_does w4 _ (pkS zs) zs U' vb vk4 kp wh ct a m hso4 (by omega) (by omega) hpl (fun ys hy => (pkS_mem hb ys hy).1) hbd.1 hbd.2 (fun i h1 h2 => hd_good hb (by omega)) hst) (fun r w5 h5 => ?_)
      obtain ⟨v5, rfl, hown5, hF5, vk5, kp5, wh5, ct5, hso5, hvk5, hrs5⟩ := h5
      obtain ⟨A5, c5, e5, hc5, hm5⟩ := hown5.bform
      have hlm : ((zs.drop a).take m).length = m := by rw [List.length_take, List.length_drop]; omega
      have r5 : Row w5 v5 m (((zs.drop a).take m).map (Value.int .u8)) := by have := hown5.brow; unfold BRow at this; rwa [hlm] at this
      rw [hlm] at e5
      subst e5
      have hovU : ∀ b, ov.ownBlock = some b → U' ≤ b ∧ b < w4.heap.size := fun b hb => hown.blk hb
      have hown' := hown.fr hF5 fun b hb e => by have := (hovU b hb).1; have e' : b = w2.heap.size := e; omega
      have hla : ((zs.take a).map (Value.int .u8)).length = a := by rw [List.length_map, List.length_take]; omega
      have hszF := hF5.size
      refine goL ?_
      refine xap sl_bytes rfl rfl hown' rfl r5 (by rw [List.length_map, hlm]) map_u8_one (by unfold maxLen; rw [hla]; omega) (by rw [hla]; omega) (by omega) (fun v6 w6 hown6 hF6 hv6 => ?_)
      rw [← List.map_append, take_app zs (j := a + m) (by omega) (by omega)] at hown6
      have hso6 := hso5.fr hF6 (fun e => by have := (hovU _ e).1; omega) (fun b _ hb e => by have := (hovU b e).1; omega) (fun b hb e => by
        rcases hvk5 b hb with h' | h'
        · exact hav b e h'
        · have := (hovU b e).2; omega)
      have hav6 : ∀ b, v6.ownBlock = some b → vk5.ownBlock ≠ some b := fun b hb e => by
        rcases hv6 with h' | h'
        · rw [h'] at hb
          rcases hvk5 b e with h'' | h''
          · exact hav b hb h''
          · have := (hovU b hb).2; omega
        · rw [h'] at hb
          injection hb with hb
          have := (hso5.kp.blk e).2
          omega
      obtain ⟨g1, g2, g3⟩ := hrs5.go (by omega)
      have hct : ct5 = (a + m - 1) / 256 + 1 := by
        rw [g3]
        rcases Nat.eq_zero_or_pos a with h' | h'
        · have := hz0 h'
          split <;> omega
        · have := hp h'
          split <;> omega
      refine goL ?_
      exact tfin ⟨(i + 1, a + m, v6, vk5, kp5, wh5, ct5), sub ⟨rfl, rfl, rfl, rfl, rfl, rfl⟩, ⟨by dsimp only; omega, by dsimp only; omega, hown6, hso6, hav6, (fun h => by dsimp only at h; omega), fun _ => ⟨g1, g2, hct⟩, Ext.te (Ext.te hE4 hF5 fun j hj e => by have e' : j = w2.heap.size := e; omega) hF6 fun j hj e => by have := (hovU j e).1; omega⟩, (by show zs.length - (a + m) < zs.length - a; omega)⟩
    · have q1 := Int.emod_nonneg (i : Int) (show (cs.length : Int) ≠ 0 by omega)
      have q2 := Int.emod_lt_of_pos (i : Int) (show 0 < (cs.length : Int) by omega)
      obtain ⟨j, hj⟩ := Int.eq_ofNat_of_zero_le q1
      obtain ⟨b0, o0, z, rfl, _, hz, hcell, _⟩ := hAc.at_ (i := j) (by omega)
      have hcell4 := hE04.cell hcell
      have hub := uw_bd z
      obtain ⟨n, hn⟩ : ∃ n : Nat, 1 + uw z % 300 = (n : Int) := ⟨(1 + uw z % 300).toNat, by omega⟩
      have hn1 : 1 ≤ n ∧ n ≤ 300 := by omega
      repeat' (first | refine xisq j (o0 + j) rfl rfl rfl hj rfl (by omega) ?_ | refine go1LU ?_ | fail)
      rw [hn]
      obtain ⟨m, hm⟩ : ∃ m, m = min n (zs.length - a) := ⟨_, rfl⟩
      have hmi : (min (n : Int) ((zs.length : Int) - (a : Int))) = (m : Int) := by omega
      refine goLM ?_
      rw [hmi]
      refine xcall rfl rfl (read_does w4 _ (pkS zs) zs U' vb vk4 kp wh ct a m hso4 (by omega) (by omega) hpl (fun ys hy => (pkS_mem hb ys hy).1) hbd.1 hbd.2 (fun i h1 h2 => hd_good hb (by omega)) hst) (fun r w5 h5 => ?_)
      obtain ⟨v5, rfl, hown5, hF5, vk5, kp5, wh5, ct5, hso5, hvk5, hrs5⟩ := h5
      obtain ⟨A5, c5, e5, hc5, hm5⟩ := hown5.bform
      have hlm : ((zs.drop a).take m).length = m := by rw [List.length_take, List.length_drop]; omega
      have r5 : Row w5 v5 m (((zs.drop a).take m).map (Value.int .u8)) := by have := hown5.brow; unfold BRow at this; rwa [hlm] at this
      rw [hlm] at e5
      subst e5
      have hovU : ∀ b, ov.ownBlock = some b → U' ≤ b ∧ b < w4.heap.size := fun b hb => hown.blk hb
      have hown' := hown.fr hF5 fun b hb e => by have := (hovU b hb).1; have e' : b = w2.heap.size := e; omega
      have hla : ((zs.take a).map (Value.int .u8)).length = a := by rw [List.length_map, List.length_take]; omega
      have hszF := hF5.size
      refine goL ?_
      refine xap sl_bytes rfl rfl hown' rfl r5 (by rw [List.length_map, hlm]) map_u8_one (by unfold maxLen; rw [hla]; omega) (by rw [hla]; omega) (by omega) (fun v6 w6 hown6 hF6 hv6 => ?_)
      rw [← List.map_append, take_app zs (j := a + m) (by omega) (by omega)] at hown6
      have hso6 := hso5.fr hF6 (fun e => by have := (hovU _ e).1; omega) (fun b _ hb e => by have := (hovU b e).1; omega) (fun b hb e => by
        rcases hvk5 b hb with h' | h'
        · exact hav b e h'
        · have := (hovU b e).2; omega)
      have hav6 : ∀ b, v6.ownBlock = some b → vk5.ownBlock ≠ some b := fun b hb e => by
        rcases hv6 with h' | h'
        · rw [h'] at hb
          rcases hvk5 b e with h'' | h''
          · exact hav b hb h''
          · have := (hovU b hb).2; omega
        · rw [h'] at hb
          injection hb with hb
          have := (hso5.kp.blk e).2
          omega
      obtain ⟨g1, g2, g3⟩ := hrs5.go (by omega)
      have hct : ct5 = (a + m - 1) / 256 + 1 := by
        rw [g3]
        rcases Nat.eq_zero_or_pos a with h' | h'
        · have := hz0 h'
          split <;> omega
        · have := hp h'
          split <;> omega
      refine goL ?_
      exact tfin ⟨(i + 1, a + m, v6, vk5, kp5, wh5, ct5), sub ⟨rfl, rfl, rfl, rfl, rfl, rfl⟩, ⟨by dsimp only; omega, by dsimp only; omega, hown6, hso6, hav6, (fun h => by dsimp only at h; omega), fun _ => ⟨g1, g2, hct⟩, Ext.te (Ext.te hE4 hF5 fun j hj e => by have e' : j = w2.heap.size := e; omega) hF6 fun j hj e => by have := (hovU j e).1; omega⟩, (by show zs.length - (a + m) < zs.length - a; omega)⟩
  · obtain rfl : a = zs.length := by omega
    rw [List.take_length] at hown
    obtain ⟨A5, c5, e5, hc5, hm5⟩ := hown.bform
    subst e5
    have hct : (ct : Int) = ((zs.length : Int) + 256 - 1) / 256 := by
      rcases Nat.eq_zero_or_pos zs.length with h' | h'
      · have := hz0 h'; omega
      · have := hp h'; omega
    refine goL ?_
    refine xcall rfl rfl (stold_does w4) (fun r w5 h5 => ?_)
    obtain ⟨rfl, hE5⟩ := h5
    refine goL ?_
    refine xcbs rfl (hown.ext hE5).brow ?_
    refine goL ?_
    refine xcbs rfl (rx4.ext hE5) ?_
    refine goL ?_
    refine xseqb rfl rfl (r := true) (by rw [str_eq hb hb]; simp) ?_
    refine goL ?_
    refine xcall rfl rfl (unpacked_does w5 _ _ _ _ _ _ ⟨_, _, _, hso4.ext hE5⟩) (fun r w6 h6 => ?_)
    obtain ⟨rfl, rfl⟩ := h6
    refine goL ?_
    exact tret1 rfl rfl ⟨rfl, hE04.t hE5⟩
end Eng
end Go.Proofs.Ytighkjohpmlemaa
