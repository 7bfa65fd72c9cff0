/-
  Laws of the solid rows: the examples (told), SolidSpoilt, SolidRows.
-/
import Derived.Test.YtighkjohpmlemaaUc
import Derived.Test.YtighkjohpmlemaaPm
namespace Go.Proofs.Ytighkjohpmlemaa
open Go.RowKit
namespace Eng
attribute [local irreducible] xs T

theorem pkS_len (zs : List Int) : (pkS zs).length = blkN zs.length := by simp [pkS, splB_len]
theorem pkS_get (zs : List Int) {i : Nat} (h : i < blkN zs.length) : (pkS zs).getD i [] = putB (chB zs i) := by simp [pkS, List.getD_eq_getElem?_getD, splB_get zs h]
theorem pkS_mem {zs : List Int} (hb : Byts zs) : ∀ ys ∈ pkS zs, Byts ys ∧ ys.length ≤ 2 ^ 30 := fun ys hy => by
  obtain ⟨c, hc, rfl⟩ := List.mem_map.1 hy
  obtain ⟨i, _, rfl⟩ := List.mem_map.1 hc
  have hl := chB_len zs i
  have := putB_len (chB zs i)
  exact ⟨putB_byts (chB_byts hb i) (by omega), by omega⟩
theorem hd_good {zs : List Int} (hb : Byts zs) {i : Nat} (hi : i < blkN zs.length) : hdB (pkS zs) zs.length i = some (chB zs i) := by
  have hl := chB_len zs i
  have hs : szB zs.length i = (chB zs i).length := by rw [hl]; rfl
  have hg := gt_put (chB_byts hb i) (show (chB zs i).length ≤ 12000 by omega) ((chB zs i).length : Int)
  rw [if_neg (by omega)] at hg
  unfold hdB
  rw [pkS_get zs hi, hs, hg, if_pos ⟨rfl, rfl⟩]
theorem hd_set {bss : List (List Int)} {L k i : Nat} {x : List Int} (h : i ≠ k) : hdB (bss.set k x) L i = hdB bss L i := by
  have e : (bss.set k x).getD i [] = bss.getD i [] := by rw [List.getD_eq_getElem?_getD, List.getD_eq_getElem?_getD, List.getElem?_set_ne (fun e => h e.symm)]
  unfold hdB
  rw [e]
theorem hd_bad {bss : List (List Int)} {L k : Nat} (h : k < bss.length) : hdB (bss.set k [7]) L k = none := by
  have e : (bss.set k [7]).getD k [] = [7] := by rw [List.getD_eq_getElem?_getD, List.getElem?_set_self h]; rfl
  have g : ∀ m : Int, gtB [7] m = (3, []) := fun m => by unfold gtB openB; rfl
  unfold hdB
  rw [e, g, if_neg (by rintro ⟨h, _⟩; exact absurd h (by decide))]

set_option maxRecDepth 20000 in
set_option maxHeartbeats 8000000 in
theorem stold_does (w : World) : Does Try.prog 41 #[] w fun r w' => r = .bool true ∧ Ext w w' := by
  refine does0 Try.func41 rfl ?_
  obtain ⟨zs, hzs⟩ : ∃ zs : List Int, zs = List.replicate (300 : Int).toNat 0 := ⟨_, rfl⟩
  have hl : zs.length = 300 := by rw [hzs, List.length_replicate]; rfl
  have hb : Byts zs := by rw [hzs]; exact byts_rep _
  have hN : blkN zs.length = 2 := by rw [hl]; rfl
  refine goL ?_
  refine xmk sl_bytes rfl rfl rfl (by omega) (by omega) (by omega) (fun w1 hB1 hE1 hs1 => ?_)
  have rz := BRow.zeros hB1 (by decide)
  rw [← hzs] at rz
  refine goL ?_
  refine xcall rfl rfl (spack_does w1 _ zs rz hb (by omega)) (fun r w2 h2 => ?_)
  obtain ⟨v2, rfl, hbs2, hE2⟩ := h2
  have hpl : (pkS zs).length = 2 := by rw [pkS_len, hN]
  refine goL ?_
  refine xcall rfl rfl (sopen_does w2 _ _ (pkS zs) 300 hbs2 (by decide) (by rw [hpl]; rfl) (fun ys hy => (pkS_mem hb ys hy).2)) (fun r w3 h3 => ?_)
  obtain ⟨rfl, hso3, hE3⟩ := h3
  refine goL ?_
  refine xcall rfl rfl (sopen_no w3 _ _ (pkS zs) 600 (hbs2.ext hE3) (by decide) (by rw [hpl]; decide)) (fun r w4 h4 => ?_)
  obtain ⟨rfl, rfl⟩ := h4
  obtain ⟨U, vb, vk, hso3⟩ := hso3
  rw [← hl] at hso3
  have hgd : ∀ i, i < 2 → hdB (pkS zs) zs.length i = some (chB zs i) := fun i hi => hd_good hb (by omega)
  obtain ⟨A2, c2, e2, hc2, hm2⟩ := hbs2.form
  rw [hpl] at e2 hc2
  subst e2
  have hg3 : w.heap.size ≤ w2.heap.size := (hE1.t hE2).size
  refine goL ?_
  refine xcall rfl rfl (read_does w3 _ (pkS zs) zs U vb vk [] 0 0 250 10 hso3 (by omega) (by omega) (by rw [pkS_len]) (fun ys hy => (pkS_mem hb ys hy).1) (by decide) (by decide) (fun i h1 h2 => hgd i (by omega)) (fun e => absurd e (by decide))) (fun r w5 h5 => ?_)
  obtain ⟨v5, rfl, hown5, hF5, vk5, kp5, wh5, ct5, hso5, _, hrs5⟩ := h5
  obtain ⟨_, e1, e2⟩ := hrs5.go (by decide)
  obtain rfl : wh5 = 2 := e1.trans (by decide)
  obtain rfl : ct5 = 2 := e2.trans (by decide)
  have hlen5 : (((zs.drop 250).take 10).map (Value.int .u8)).length = 10 := by rw [List.length_map, List.length_take, List.length_drop, hl]; rfl
  obtain ⟨A5, c5, e5, hc5, hm5⟩ := hown5.form
  rw [hlen5] at e5
  subst e5
  refine goL ?_
  refine xcall rfl rfl (unpacked_does w5 _ _ _ _ _ _ ⟨_, _, _, hso5⟩) (fun r w6 h6 => ?_)
  obtain ⟨rfl, rfl⟩ := h6
  refine goL ?_
  refine xcall rfl rfl (read_does w5 _ (pkS zs) zs U vb vk5 kp5 2 2 250 5 hso5 (by omega) (by omega) (by rw [pkS_len]) (fun ys hy => (pkS_mem hb ys hy).1) (by decide) (by decide) (fun i h1 h2 => hgd i (by omega)) (fun e => absurd e (by decide))) (fun r w6 h6 => ?_)
  obtain ⟨v6, rfl, hown6, hF6, vk6, kp6, wh6, ct6, hso6, _, hrs6⟩ := h6
  obtain ⟨_, e1, e2⟩ := hrs6.go (by decide)
  obtain rfl : wh6 = 1 := e1.trans (by decide)
  obtain rfl : ct6 = 3 := e2.trans (by decide)
  refine goL ?_
  refine xcall rfl rfl (read_out w6 _ (pkS zs) zs.length kp6 1 3 299 2 ⟨_, _, _, hso6⟩ (by omega) (by omega) (by decide) (by decide)) (fun r w7 h7 => ?_)
  obtain ⟨rfl, rfl⟩ := h7
  refine goL ?_
  refine xcall rfl rfl (read_nil w6) (fun r w7 h7 => ?_)
  obtain ⟨rfl, rfl⟩ := h7
  have hF36 : Fr (· = w2.heap.size) w3 w6 := hF5.t hF6
  have rz6 : BRow w6 _ zs := BRow.fr (rz.ext (hE2.t hE3)) hF36 fun b hb e => by
    have e' : (some w.heap.size : Option Nat) = some b := hb
    injection e' with e'
    have e2 : b = w2.heap.size := e
    have := hE2.size
    omega
  have hE06 : Ext w w6 := Ext.te (hE1.t (hE2.t hE3)) hF36 fun j hj e => by have e' : j = w2.heap.size := e; omega
  refine goL ?_
  refine xcall rfl rfl (split_does w6 _ zs rz6 (by omega)) (fun r w8 h8 => ?_)
  obtain ⟨hbs8, hE8⟩ := h8
  obtain ⟨A8, c8, e8, hc8, hm8⟩ := hbs8.form
  rw [splB_len, hN] at e8 hc8
  subst e8
  refine goL ?_
  refine xcall rfl rfl (split_does w8 _ [] (bx0 w8) (by simp)) (fun r w9 h9 => ?_)
  obtain ⟨hbs9, hE9⟩ := h9
  obtain ⟨A9, c9, e9, hc9, hm9⟩ := hbs9.form
  have e0 : (splB []).length = 0 := rfl
  rw [e0] at e9 hc9
  subst e9
  refine goL ?_
  refine xcall rfl rfl (unpacked_does w9 _ _ _ _ _ _ (SoR.ext ⟨_, _, _, hso6⟩ (hE8.t hE9))) (fun r w10 h10 => ?_)
  obtain ⟨rfl, rfl⟩ := h10
  refine goL ?_
  refine xcall rfl rfl (unpacked_nil w9) (fun r w10 h10 => ?_)
  obtain ⟨rfl, rfl⟩ := h10
  refine goL ?_
  exact tret1 rfl rfl ⟨rfl, hE06.t (hE8.t hE9)⟩

set_option maxRecDepth 20000 in
set_option maxHeartbeats 8000000 in
theorem solidSpoilt_does (w : World) (v : Value) (ls : List Int) (hv : IRow w v ls) (which : Int) (_h1 : -9223372036854775808 ≤ which ∧ which ≤ 9223372036854775807) (at_ : Int) (_h2 : -9223372036854775808 ≤ at_ ∧ at_ ≤ 9223372036854775807) :
    Does Try.prog 12 #[v, .int .i64 which, .int .i64 at_] w fun r w' => r = .bool true ∧ Ext w w' := by
  refine does3 Try.func12 rfl (by kernel_rfl) ?_
  refine goL ?_
  refine xcall rfl rfl (text_does w _ ls 900 hv (by decide)) (fun r w1 h1 => ?_)
  obtain ⟨zs, rx, hb, lx, hE1⟩ := h1
  obtain ⟨A1, c1, rfl, hc1, hm1⟩ := rx.form
  by_cases h300 : zs.length < 300
  · refine goL ?_
    refine xcall rfl rfl (stold_does w1) (fun r w2 h2 => ?_)
    obtain ⟨rfl, hE2⟩ := h2
    refine goL ?_
    exact tret1 rfl rfl ⟨rfl, hE1.t hE2⟩
  have hN : blkN zs.length = (zs.length + 255) / 256 := rfl
  refine goL ?_
  refine xcall rfl rfl (spack_does w1 _ zs rx hb (by omega)) (fun r w2 h2 => ?_)
  obtain ⟨v2, rfl, hbs2, hE2⟩ := h2
  have hpl := pkS_len zs
  obtain ⟨g2, c2, e2, hg2, hg2lt, hc2, hm2, hcells2⟩ := hbs2.go (by omega)
  rw [hpl] at e2 hc2
  subst e2
  obtain ⟨n, hn⟩ : ∃ n, n = blkN zs.length := ⟨_, rfl⟩
  rw [← hn] at hbs2 hpl hc2 hN ⊢
  have hu1 := uw_bd which
  have hu2 := uw_bd at_
  have q1 := Int.emod_nonneg (uw which) (show (n : Int) ≠ 0 by omega)
  have q2 := Int.emod_lt_of_pos (uw which) (show 0 < (n : Int) by omega)
  have q3 := Int.emod_nonneg (uw at_) (show (zs.length : Int) ≠ 0 by omega)
  have q4 := Int.emod_lt_of_pos (uw at_) (show 0 < (zs.length : Int) by omega)
  obtain ⟨k, hk⟩ := Int.eq_ofNat_of_zero_le q1
  obtain ⟨a, ha⟩ := Int.eq_ofNat_of_zero_le q3
  have hsz1 := hE1.size
  refine goLU ?_
  refine xbs sl_bytes rfl rfl (by decide) (by decide) (fun u hu => by rw [List.mem_singleton.1 hu]; rfl) (fun w3 hB3 hE3 hs3 => ?_)
  have hsz2 := hE2.size
  have hown7 : Own w3 w1.heap.size 5 (.slice (some ⟨w2.heap.size, 0, none⟩) 1 1) (([7] : List Int).map (Value.int .u8)) := Own.of_blk (vs := [.int .u8 7]) hB3 hsz2 rfl (by decide)
  obtain ⟨vs, ho1, ho2, ho3⟩ := BsO.set (i := k) (hbs2.ext hE3) hown7
  repeat' (first | refine xisq k k rfl rfl rfl hk (by omega) (by omega) ?_ | refine go1L ?_ | fail)
  refine xsto ho1 rfl rfl rfl rfl (by omega) (fun w4 hown4 hF4 => ?_)
  have hbs4 := ho3 w4 hown4 hF4
  have hE24 : Fr (· = g2) w2 w4 := hE3.fr.t hF4
  have hE14 : Ext w1 w4 := Ext.te (hE2.t hE3) hF4 fun j hj e => by have e' : j = g2 := e; omega
  have hmem : ∀ ys ∈ (pkS zs).set k [7], Byts ys ∧ ys.length ≤ 2 ^ 30 := fun ys hy => by
    rcases List.mem_or_eq_of_mem_set hy with h | rfl
    · exact pkS_mem hb ys h
    · exact ⟨fun z hz => by simp at hz; omega, by decide⟩
  have hsl : ((pkS zs).set k [7]).length = n := by rw [List.length_set, hpl]
  refine goL ?_
  refine xcall rfl rfl (sopen_does w4 _ _ ((pkS zs).set k [7]) zs.length hbs4 (by omega) (by rw [hsl, hn]) (fun ys hy => (hmem ys hy).2)) (fun r w5 h5 => ?_)
  obtain ⟨rfl, ⟨U, vb, vk, hso⟩, hE5⟩ := h5
  have hsz4 := hE14.size
  have hE05 : Ext w w5 := hE1.t (hE14.t hE5)
  have rx5 := rx.ext (hE14.t hE5)
  by_cases hbad : a / 256 = k
  · refine goLU ?_
    rw [ha]
    refine xcall rfl rfl (read_bad w5 _ _ zs.length U vb vk [] 0 0 a hso (by omega) (by omega) (by rw [hsl, hn]) (fun ys hy => (hmem ys hy).1) (by decide) (by decide) (by rw [hbad]; exact hd_bad (by omega)) (by omega)) (fun r w6 h6 => ?_)
    obtain ⟨rfl, hE6⟩ := h6
    rw [hk]
    refine goL ?_
    refine xcall rfl rfl (stold_does w6) (fun r w7 h7 => ?_)
    obtain ⟨rfl, hE7⟩ := h7
    refine goL ?_
    exact tret1 rfl rfl ⟨rfl, hE05.t (hE6.t hE7)⟩
  · refine goLU ?_
    rw [ha]
    refine xcall rfl rfl (read_does w5 _ _ zs U vb vk [] 0 0 a 1 hso (by omega) (by omega) (by rw [hsl, hn]) (fun ys hy => (hmem ys hy).1) (by decide) (by decide) (fun i h1 h2 => by rw [hd_set (by omega)]; exact hd_good hb (by omega)) (fun e => by omega)) (fun r w6 h6 => ?_)
    obtain ⟨v6, rfl, hown6, hF6, _, _, _, _, hso6, _, _⟩ := h6
    have hone : (zs.drop a).take 1 = [zs.getD a 0] := by
      rw [List.drop_eq_getElem_cons (by omega), List.getD_eq_getElem?_getD, List.getElem?_eq_getElem (by omega)]; rfl
    rw [hone] at hown6
    obtain ⟨g6, c6, e6, hg6, hg6lt⟩ := hown6.lt_of (by simp)
    have e6' : v6 = .slice (some ⟨g6, 0, none⟩) 1 c6 := e6
    subst e6'
    obtain ⟨A6, c6', e6, hc6, hm6⟩ := hown6.form
    injection e6 with _ _ e6
    subst e6
    rw [hk]
    refine goL ?_
    refine xcall rfl rfl (stold_does w6.drew) (fun r w7 h7 => ?_)
    obtain ⟨rfl, hE7⟩ := h7
    have hE67 : Ext w6 w7 := (Fr.drew _ _).te hE7
    have hsz5 := hE5.size
    have hE06 : Ext w w6 := Ext.te hE05 hF6 fun j hj e => by have e' : j = w4.heap.size := e; omega
    have k6 : w7.cell? ⟨g6, 0, none⟩ = some (.int .u8 (zs.getD a 0)) := (hown6.ext hE67).cell (k := 0) (by simp)
    obtain ⟨A1', c1', e1, _, _, hA1⟩ := rx.op
    injection e1 with e1 _ _
    subst e1
    obtain ⟨b1, o1, z, rfl, hb1, hz, hcell, _⟩ := hA1.at_ (i := a) (by omega)
    have k1 : w7.cell? ⟨b1, o1 + a, none⟩ = some (.int .u8 (zs.getD a 0)) := by
      rw [getD_of hz]
      exact Ext.cell hE67 (hF6.cell (Ext.cell (hE14.t hE5) hcell) (by show ¬ b1 = w4.heap.size; omega))
    repeat' (first | refine xisq 0 0 rfl rfl rfl rfl rfl (by omega) ?_ | refine xisq a (o1 + a) rfl rfl rfl ha rfl (by omega) ?_ | refine go1L ?_ | fail)
    exact tret1 rfl rfl ⟨rfl, hE06.t hE67⟩
end Eng
end Go.Proofs.Ytighkjohpmlemaa
