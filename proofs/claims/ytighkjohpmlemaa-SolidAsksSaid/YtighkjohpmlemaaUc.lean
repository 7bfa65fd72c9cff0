/-
  Package solid: Read.
-/
import Derived.Test.YtighkjohpmlemaaUb
namespace Go.Proofs.Ytighkjohpmlemaa
open Go.RowKit
namespace Eng
attribute [local irreducible] xs T

set_option maxRecDepth 20000 in
set_option maxHeartbeats 2000000 in
theorem read_nil (w : World) : Does Try.prog 45 #[.pointer none, .int .i64 0, .int .i64 0] w fun r w' => r = .tuple #[.slice none 0 0, .int .i64 1] ∧ w = w' := by
  refine does3 Try.func45 rfl (by kernel_rfl) ?_
  refine goL ?_
  refine tscope1 (α := Unit) 0 rfl (fun _ => []) (fun _ _ => False) (fun _ => 0) (fun _ _ h => h.elim) ?_
  intro H
  refine goL ?_
  exact tret2 rfl rfl rfl ⟨rfl, rfl⟩

set_option maxRecDepth 20000 in
set_option maxHeartbeats 2000000 in
theorem read_out (w : World) (g : Nat) (bss : List (List Int)) (L : Nat) (kept : List Int) (which count at_ long : Nat) (h : SoR w g bss L kept which count) (hL : L ≤ 400000) (hr : L < at_ + long) (h1 : at_ ≤ 2 ^ 40) (h2 : long ≤ 2 ^ 40) :
    Does Try.prog 45 #[.pointer (some ⟨g, 0, none⟩), .int .i64 (at_ : Int), .int .i64 (long : Int)] w fun r w' => r = .tuple #[.slice none 0 0, .int .i64 2] ∧ w = w' := by
  refine does3 Try.func45 rfl (by kernel_rfl) ?_
  obtain ⟨U, vb, vk, hB, _, _, _⟩ := h
  have c1 : w.cell? ⟨g, 1, none⟩ = some (.int .i64 (L : Int)) := hB.cell 1
  refine goL ?_
  refine tscope1 (α := Unit) 0 rfl (fun _ => []) (fun _ _ => False) (fun _ => 0) (fun _ _ h => h.elim) ?_
  intro H
  refine goL ?_
  exact tret2 rfl rfl rfl ⟨rfl, rfl⟩

/-- What a reader holds at p, behind a start at a. -/
structure RdS (zs : List Int) (a p which count wh ct : Nat) (kept kp : List Int) : Prop where
  st : p = a → kp = kept ∧ wh = which ∧ ct = count
  go : a < p → kp = chB zs ((p - 1) / 256) ∧ wh = (p - 1) / 256 + 1 ∧ ct = count + ((p - 1) / 256 + 1 - a / 256) - (if which = a / 256 + 1 then 1 else 0)

structure RdI (bss : List (List Int)) (zs : List Int) (g a long which count U : Nat) (vb vk0 : Value) (kept : List Int) (w0 : World) (x : Nat × Value × List Int × Nat × Nat × Value) (w : World) : Prop where
  lo : a ≤ x.1
  hi : x.1 ≤ a + long
  al : x.1 = a ∨ x.1 % 256 = 0 ∨ x.1 = a + long
  own : Own w w0.heap.size 5 x.2.1 (((zs.drop a).take (x.1 - a)).map (Value.int .u8))
  so : SoX w g bss zs.length U vb x.2.2.2.2.2 x.2.2.1 x.2.2.2.1 x.2.2.2.2.1
  av : ∀ b, x.2.1.ownBlock = some b → x.2.2.2.2.2.ownBlock ≠ some b
  vk : ∀ b, x.2.2.2.2.2.ownBlock = some b → vk0.ownBlock = some b ∨ w0.heap.size ≤ b
  rs : RdS zs a x.1 which count x.2.2.2.1 x.2.2.2.2.1 kept x.2.2.1
  fr : Fr (· = g) w0 w

theorem take_app (l : List Int) {i j n : Nat} (h : n = j - i) (h1 : i ≤ j) : l.take i ++ (l.drop i).take n = l.take j := by
  subst h
  rw [← List.take_add, Nat.add_sub_cancel' h1]

set_option maxRecDepth 20000 in
set_option maxHeartbeats 8000000 in
theorem read_does (w : World) (g : Nat) (bss : List (List Int)) (zs : List Int) (U : Nat) (vb vk : Value) (kept : List Int) (which count a long : Nat) (hso : SoX w g bss zs.length U vb vk kept which count) (hL : zs.length ≤ 400000) (hr : a + long ≤ zs.length) (hn : bss.length = blkN zs.length) (hb : ∀ zs ∈ bss, Byts zs) (hw : which ≤ 2 ^ 30) (hc : count ≤ 2 ^ 30)
    (hgood : ∀ i, a / 256 ≤ i → 256 * i < a + long → hdB bss zs.length i = some (chB zs i)) (hst : which = a / 256 + 1 → kept = chB zs (a / 256)) :
    Does Try.prog 45 #[.pointer (some ⟨g, 0, none⟩), .int .i64 (a : Int), .int .i64 (long : Int)] w fun r w' => ∃ v', r = .tuple #[v', .int .i64 0] ∧ Own w' w.heap.size 5 v' (((zs.drop a).take long).map (Value.int .u8)) ∧ Fr (· = g) w w' ∧
      ∃ vk' kp wh ct, SoX w' g bss zs.length U vb vk' kp wh ct ∧ (∀ b, vk'.ownBlock = some b → vk.ownBlock = some b ∨ w.heap.size ≤ b) ∧ RdS zs a (a + long) which count wh ct kept kp := by
  refine does3 Try.func45 rfl (by kernel_rfl) ?_
  have hup := hso.up
  have hB := hso.blk
  have hglt := hB.lt
  have c1 : w.cell? ⟨g, 1, none⟩ = some (.int .i64 (zs.length : Int)) := hB.cell 1
  have hN : blkN zs.length = (zs.length + 255) / 256 := rfl
  refine goL ?_
  refine tscope1 (α := Nat × Value × List Int × Nat × Nat × Value) 0 rfl (fun x => [(0, .pointer (some ⟨g, 0, none⟩)), (1, .int .i64 (x.1 : Int)), (2, .int .i64 ((a + long - x.1 : Nat) : Int)), (8, x.2.1)]) (RdI bss zs g a long which count U vb vk kept w) (fun x => a + long - x.1) ?_ ?_
  · rintro ⟨p, ov, kp, wh, ct, vk1⟩ w1 ⟨hlo, hhi, hal, hown, hso1, hav, hvk, hrs, hF⟩
    dsimp only at hlo hhi hal hown hso1 hav hvk hrs hF ⊢
    have hsz := hF.size
    by_cases hlt : p < a + long
    · obtain ⟨i, hi⟩ : ∃ i, i = p / 256 := ⟨_, rfl⟩
      have hg1 := hgood i (by rw [hi]; exact Nat.div_le_div_right hlo) (by omega)
      have hwh : wh ≤ 2 ^ 40 ∧ ct ≤ 2 ^ 40 := by
        rcases Nat.lt_or_ge a p with h' | h'
        · have := (hrs.go h'); omega
        · have := hrs.st (by omega); omega
      have hcl := chB_len zs i
      -- what is held then
      have key : ∀ wh2 ct2, (wh = i + 1 ∧ wh2 = wh ∧ ct2 = ct ∧ kp = chB zs i) ∨ (wh ≠ i + 1 ∧ wh2 = i + 1 ∧ ct2 = ct + 1) → wh2 = i + 1 ∧ ∀ q, p < q → (q - 1) / 256 = i → RdS zs a q which count wh2 ct2 kept (chB zs i) := fun wh2 ct2 hor => by
        refine ⟨by omega, fun q hq hqi => ⟨fun e => by omega, fun _ => ⟨by rw [hqi], by omega, ?_⟩⟩⟩
        rcases Nat.lt_or_ge a p with h' | h'
        · obtain ⟨_, h2, h3⟩ := hrs.go h'
          rw [hqi]
          by_cases hq2 : which = a / 256 + 1
          · rw [if_pos hq2] at h3 ⊢
            omega
          · rw [if_neg hq2] at h3 ⊢
            omega
        · obtain ⟨_, h2, h3⟩ := hrs.st (by omega)
          have : a = p := by omega
          subst this
          rw [← hi]
          split <;> omega
      have hkp : wh = i + 1 → kp = chB zs i := fun e => by
        rcases Nat.lt_or_ge a p with h' | h'
        · obtain ⟨h1, h2, _⟩ := hrs.go h'
          rw [h1]; congr 1; omega
        · obtain ⟨h1, h2, _⟩ := hrs.st (by omega)
          have : a = p := by omega
          subst this
          rw [h1, hi]; exact hst (by omega)
      refine goL ?_
      have hidx : ((p : Int) / 256) = (i : Int) := by omega
      rw [hidx]
      refine xcall rfl rfl (hold_does w1 g bss zs.length U vb vk1 kp wh ct i hso1 (by omega) hL (by omega) hb hwh.1 hwh.2) (fun r w2 h2 => ?_)
      have all : ∃ wh2 ct2 vk2, r = .bool true ∧ SoX w2 g bss zs.length U vb vk2 (chB zs i) wh2 ct2 ∧ Fr (· = g) w1 w2 ∧ (∀ b, ov.ownBlock = some b → vk2.ownBlock ≠ some b) ∧ (∀ b, vk2.ownBlock = some b → vk.ownBlock = some b ∨ w.heap.size ≤ b) ∧ ∀ q, p < q → (q - 1) / 256 = i → RdS zs a q which count wh2 ct2 kept (chB zs i) := by
        rcases h2 with ⟨q1, q2, q3⟩ | ⟨q1, q2, q3, q4⟩ | ⟨q1, b, vk', q2, q3, q4, q6, q5⟩
        · subst q3
          exact ⟨wh, ct, vk1, q2, by rw [← hkp q1]; exact hso1, Fr.refl _ _, hav, hvk, (key wh ct (.inl ⟨q1, rfl, rfl, hkp q1⟩)).2⟩
        · rw [hg1] at q2; cases q2
        · rw [hg1] at q2
          injection q2 with q2
          subst q2
          exact ⟨i + 1, ct + 1, vk', q3, q4, q5, fun b hb e => by have := (hown.blk hb).2; have := q6 b e; omega, fun b hb => .inr (by have := q6 b hb; omega), (key (i + 1) (ct + 1) (.inr ⟨q1, rfl, rfl⟩)).2⟩
      obtain ⟨wh2, ct2, vk2, rfl, hso2, hF2, hav2, hvk2, hrs2⟩ := all
      have hB2 := hso2.blk
      have hk2 := hso2.kp
      obtain ⟨A2, c2, e2, hc2, hm2⟩ := hk2.bform
      subst e2
      have d2 : w2.cell? ⟨g, 2, none⟩ = some (.slice A2 (chB zs i).length c2) := hB2.cell 2
      have hsz2 := hF2.size
      have hnm : (min ((a + long - p : Nat) : Int) ((chB zs i).length - (p : Int) % 256)) = ((min (a + long - p) ((chB zs i).length - p % 256) : Nat) : Int) := by omega
      obtain ⟨m, hm⟩ : ∃ m, m = min (a + long - p) ((chB zs i).length - p % 256) := ⟨_, rfl⟩
      rw [← hm] at hnm
      refine goLM ?_
      rw [hnm]
      refine goL ?_
      have rk : Row w2 (.slice A2 (chB zs i).length c2) (chB zs i).length ((chB zs i).map (Value.int .u8)) := hk2.brow
      refine xslr2 (p % 256) (p % 256 + m) rfl rfl rk rfl rfl (by omega) (by omega) (by omega) (by omega) (fun A' hr' ho' => ?_)
      have hr2 := BRow.sub2 hr' (by omega)
      have hpart : ((chB zs i).drop (p % 256)).take (p % 256 + m - p % 256) = (zs.drop p).take m := by
        unfold chB
        rw [Nat.add_sub_cancel_left, List.drop_take, List.drop_drop, List.take_take, show 256 * i + p % 256 = p from by omega, Nat.min_eq_left (by omega)]
      rw [hpart] at hr2
      have hlm : ((zs.drop p).take m).length = m := by rw [List.length_take, List.length_drop]; omega
      unfold BRow at hr2
      rw [hlm] at hr2
      rw [Nat.add_sub_cancel_left]
      rw [Nat.add_sub_cancel_left] at hr2
      have hog : ∀ b, ov.ownBlock = some b → b ≠ g := fun b hb e => by have := (hown.blk hb).1; omega
      have hown2 := hown.fr hF2 fun b hb e => hog b hb e
      have hll : (((zs.drop a).take (p - a)).map (Value.int .u8)).length = p - a := by rw [List.length_map, List.length_take, List.length_drop]; omega
      refine xap sl_bytes rfl rfl hown2 rfl hr2 (by rw [List.length_map, hlm]) map_u8_one (by unfold maxLen; rw [hll]; omega) (by rw [hll]; omega) (by omega) (fun v3 w3 hown3 hF3 hv3 => ?_)
      rw [← List.map_append] at hown3
      have hcat : (zs.drop a).take (p - a) ++ (zs.drop p).take m = (zs.drop a).take (p + m - a) := by
        have := take_app (zs.drop a) (i := p - a) (j := p + m - a) (n := m) (by omega) (by omega)
        rw [List.drop_drop, show a + (p - a) = p from by omega] at this
        exact this
      rw [hcat] at hown3
      have hovk : ∀ b, ov.ownBlock = some b → w.heap.size ≤ b := fun b hb => (hown.blk hb).1
      have hso3 : SoX w3 g bss zs.length U vb (.slice A2 (chB zs i).length c2) (chB zs i) wh2 ct2 := hso2.fr hF3 (fun e => hog g e rfl) (fun b _ hb e => by have := hovk b e; omega) (fun b hb e => hav2 b e hb)
      have hav3 : ∀ b, v3.ownBlock = some b → (Value.slice A2 (chB zs i).length c2).ownBlock ≠ some b := fun b hb e => by
        rcases hv3 with h' | h'
        · exact hav2 b (by rw [← h']; exact hb) e
        · rw [h'] at hb
          injection hb with hb
          have := (hk2.blk e).2
          omega
      refine goL ?_
      have hm0 : 0 < m := by omega
      refine tgoto rfl ⟨_, (by show a + long - (p + m) < a + long - p; omega), rfl, (p + m, v3, chB zs i, wh2, ct2, _), sub ⟨rfl, rfl, ieq (by dsimp only; omega), rfl⟩, ⟨by dsimp only; omega, by dsimp only; omega, by dsimp only; omega, hown3, hso3, hav3, hvk2, hrs2 (p + m) (by omega) (by omega), ?_⟩, rfl⟩
      exact (hF.t hF2).trans hF3 fun j hj e => by have := hovk j e; omega
    · obtain rfl : p = a + long := by omega
      rw [Nat.add_sub_cancel_left] at hown
      refine goL ?_
      exact tret2 rfl rfl rfl ⟨_, rfl, hown, hF, vk1, kp, wh, ct, hso1, hvk, hrs⟩
  · intro H
    refine goL ?_
    refine xmk0 sl_bytes rfl rfl rfl (by omega) (by omega) (fun w1 hown1 hE1 hs1 => ?_)
    refine goL ?_
    refine tlabel ?_
    exact tweak (H (a, _, kept, which, count, vk) w1 ⟨Nat.le_refl _, by dsimp only; omega, .inl rfl, by dsimp only; rw [Nat.sub_self, List.take_zero]; exact hown1, hso.ext hE1, fun b hb e => by have := (hown1.blk hb).1; have := (hso.kp.blk e).2; omega, fun b hb => .inl hb, ⟨fun _ => ⟨rfl, rfl, rfl⟩, fun h => absurd h (Nat.lt_irrefl _)⟩, Ext.fr hE1⟩) (sub ⟨rfl, rfl, ieq (by dsimp only; omega), rfl⟩)

set_option maxRecDepth 20000 in
set_option maxHeartbeats 4000000 in
theorem read_bad (w : World) (g : Nat) (bss : List (List Int)) (L U : Nat) (vb vk : Value) (kept : List Int) (which count a : Nat) (hso : SoX w g bss L U vb vk kept which count) (hL : L ≤ 400000) (hr : a < L) (hn : bss.length = blkN L) (hb : ∀ zs ∈ bss, Byts zs) (hw : which ≤ 2 ^ 30) (hc : count ≤ 2 ^ 30) (hbad : hdB bss L (a / 256) = none) (hst : which ≠ a / 256 + 1) :
    Does Try.prog 45 #[.pointer (some ⟨g, 0, none⟩), .int .i64 (a : Int), .int .i64 1] w fun r w' => r = .tuple #[.slice none 0 0, .int .i64 3] ∧ Ext w w' := by
  refine does3 Try.func45 rfl (by kernel_rfl) ?_
  have hB := hso.blk
  have hglt := hB.lt
  have c1 : w.cell? ⟨g, 1, none⟩ = some (.int .i64 (L : Int)) := hB.cell 1
  have hN : blkN L = (L + 255) / 256 := rfl
  refine goL ?_
  refine tscope1 (α := Value) 0 rfl (fun x => [(0, .pointer (some ⟨g, 0, none⟩)), (1, .int .i64 (a : Int)), (2, .int .i64 1), (8, x)]) (fun _ w' => Ext w w') (fun _ => 0) ?_ ?_
  · rintro ov w1 hE
    refine goL ?_
    have hidx : ((a : Int) / 256) = ((a / 256 : Nat) : Int) := by omega
    rw [hidx]
    refine xcall rfl rfl (hold_does w1 g bss L U vb vk kept which count (a / 256) (hso.ext hE) (by omega) hL (by omega) hb (by omega) (by omega)) (fun r w2 h2 => ?_)
    rcases h2 with ⟨q1, _⟩ | ⟨q1, q2, q3, q4⟩ | ⟨q1, b, vk', q2, _⟩
    · exact absurd q1 hst
    · subst q3
      refine goL ?_
      exact tret2 rfl rfl rfl ⟨rfl, hE.t q4⟩
    · rw [hbad] at q2; cases q2
  · intro H
    refine goL ?_
    refine xmk0 (m := 1) sl_bytes rfl rfl rfl (by omega) (by omega) (fun w1 hown1 hE1 hs1 => ?_)
    refine goL ?_
    refine tlabel ?_
    exact tweak (H _ w1 hE1) (sub ⟨rfl, rfl, rfl, rfl⟩)
end Eng
end Go.Proofs.Ytighkjohpmlemaa
