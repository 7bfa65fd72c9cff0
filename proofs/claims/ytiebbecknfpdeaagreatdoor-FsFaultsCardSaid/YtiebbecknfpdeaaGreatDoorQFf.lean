/-
  The filesystem's laws: FsFaults.
-/
import Derived.Test.YtiebbecknfpdeaaGreatDoorQB12a
import Derived.Test.YtiebbecknfpdeaaGreatDoorQWv
import Derived.Test.YtiebbecknfpdeaaGreatDoorQYa
namespace Go.Proofs.YtiebbecknfpdeaaGreatDoor
open Go.RowKit
namespace Eng
/-- All blocks of a filesystem. -/
def FsA (g : Nat) (vf ve vn : Value) (nvs : List NdV) (b : Nat) : Prop := b = g ∨ vf.ownBlock = some b ∨ TrK ve vn nvs b
theorem FsA.of {g : Nat} {vf ve vn : Value} {nvs : List NdV} {b : Nat} (h : FsK g ve vn b) : FsA g vf ve vn nvs b := by
  rcases h with h | h | h
  · exact .inl h
  · exact .inr (.inr (.inl h))
  · exact .inr (.inr (.inr (.inl h)))
theorem FsS.all {w w' : World} {B g : Nat} {m' : FsM} {vf ve vn ve' vn' : Value} {nvs nvs' : List NdV} {t' : Tre} (hS : FsS w B g vf ve vn nvs w' m' t' ve' vn' nvs') {b : Nat} (h : FsA g vf ve' vn' nvs' b) : FsA g vf ve vn nvs b ∨ w.heap.size ≤ b := by
  rcases h with h | h | h | h | ⟨x, hx, h⟩
  · exact .inl (.inl h)
  · exact .inl (.inr (.inl h))
  · exact (hS.k b (.inr (.inl h))).imp FsA.of id
  · exact (hS.k b (.inr (.inr h))).imp FsA.of id
  · exact (hS.n x hx b h).imp (fun ⟨y, hy, h⟩ => .inr (.inr (.inr (.inr ⟨y, hy, h⟩)))) id
/-- Another filesystem beside one that is changed. -/
theorem FsO.beside {w w' : World} {B g B' g' : Nat} {m m' : FsM} {vf ve vn ve1 vn1 vf' ve' vn' : Value} {nvs nvs1 nvs' : List NdV} {t t1 : Tre} {m1 : FsM} (hS : FsS w B g vf ve vn nvs w' m1 t1 ve1 vn1 nvs1) (hO : FsO w' B g m1 vf ve1 vn1 nvs1 t1 → True) (hG : FsO w B' g' m' vf' ve' vn' nvs' t) (hd : ∀ b, FsA g vf ve vn nvs b → ¬ FsA g' vf' ve' vn' nvs' b) : FsO w' B' g' m' vf' ve' vn' nvs' t ∧ ∀ b, FsA g vf ve1 vn1 nvs1 b → ¬ FsA g' vf' ve' vn' nvs' b := by
  have _ := hO
  have _ := m
  exact ⟨hG.fr hS.f fun b hb hK => hd b (FsA.of hK) hb, fun b hb hb' => (hS.all hb).elim (fun h => hd b h hb') fun h => by have := (hG.blk hb').2; omega⟩
theorem flt_dec {i : Nat} (h : i < 10) : [110] ++ decU i = fltP i := by
  have : i = 0 ∨ i = 1 ∨ i = 2 ∨ i = 3 ∨ i = 4 ∨ i = 5 ∨ i = 6 ∨ i = 7 ∨ i = 8 ∨ i = 9 := by omega
  rcases this with rfl | rfl | rfl | rfl | rfl | rfl | rfl | rfl | rfl | rfl <;> decide +kernel
/-- Both filesystems before call i. -/
structure FfI (w5 : World) (Bf Bg gf gg : Nat) (vf vg : Value) (k c : Int) (i : Nat) (w' : World) : Prop where
  il : i ≤ 10
  xl : ∃ mf mg tf tg ve vn nvs ve' vn' nvs', FsO w' Bf gf mf vf ve vn nvs tf ∧ FsO w' Bg gg mg vg ve' vn' nvs' tg ∧ (∀ b, FsA gf vf ve vn nvs b → ¬ FsA gg vg ve' vn' nvs' b) ∧ FaM k c i mf mg ∧ FaT i tf ∧ FaT i tg
  fl : Fr (Bf ≤ ·) w5 w'
attribute [local irreducible] xs T
set_option maxRecDepth 20000 in
set_option maxHeartbeats 32000000 in
theorem fsFaults_core (hmk : MkD) (w : World) (v : Value) (zs : List Int) (hv : IRow w v zs) (zk zc : Int) : Does Tryz.prog 7 #[v, .int .i64 zk, .int .i64 zc] w fun r w' => r = .bool true ∧ Ext w w' := by
  refine does3 Tryz.func7 rfl (by kernel_rfl) ?_
  have hub := uN_lt zk
  have huk := uN_lt zc
  repeat' (first | refine xcv (r := ((uN zk : Nat) : Int)) rfl rfl rfl (uN_eq zk) ?_ | refine xcv (r := ((uN zc : Nat) : Int)) rfl rfl rfl (uN_eq zc) ?_ | refine go1LU ?_ | fail)
  obtain ⟨k, hk⟩ : ∃ k : Int, k = ((uN zk : Nat) : Int) % 10 := ⟨_, rfl⟩
  obtain ⟨c, hc⟩ : ∃ c : Int, c = 1 + ((uN zc : Nat) : Int) % 3 := ⟨_, rfl⟩
  rw [← hk, ← hc]
  have hk0 : 0 ≤ k ∧ k < 10 := by omega
  have hc0 : 1 ≤ c ∧ c ≤ 3 := by omega
  clear hk hc
  have hmay := mkT_may (zs.map uN)
  have htot := Sz.mkT_total (zs.map uN)
  have hfa := mkT_fa (zs.map uN)
  obtain ⟨t, ht⟩ : ∃ t, t = mkT (zs.map uN) := ⟨_, rfl⟩
  refine xcall rfl rfl (hmk w v zs hv) (fun r w1 h1 => ?_)
  obtain ⟨ve, vn, nvs, rfl, hT1, hE1⟩ := h1
  rw [← ht] at hT1 hmay htot hfa
  have hft := may_fst hmay
  have hns := may_ns hmay
  have hlen := hft.g.len
  have hfr : fromE 100000 t = 0 := from_of hmay (by decide) (by omega)
  obtain ⟨ok1, ok2, ok3⟩ := may_ok hmay
  refine goL ?_
  refine xbd (cells := (flC (k, c)).toArray) rfl (by kernel_rfl) ?_
  refine goL ?_
  refine xbz1 sl_flts rfl rfl (by decide) (by decide) (fun w2 hB2 hE2 hs2 => ?_)
  have hfl : Rw flC w2 (.slice (some ⟨w1.heap.size, 0, none⟩) 1 1) [(k, c)] := blk_row (n := 1) hB2 (by decide) rfl
  refine goL ?_
  refine xcall rfl rfl (from_does w2 _ _ _ nvs t 100000 [(k, c)] (hT1.ext hE2) hfl ok2 ok1 (by omega) (by omega) (by show 1 ≤ 1000000; decide)) ?_
  rintro r w3 ⟨p, rfl, hE3, hr⟩
  rw [hfr] at hr ⊢
  rcases hr with ⟨hr, _⟩ | ⟨_, gf, vff, vef, vnf, nvf, rfl, hO3⟩
  · exact absurd rfl hr
  have hE03 := (hE1.t hE2).t hE3
  refine goL ?_
  refine xcall rfl rfl (hmk w3 v zs (hv.ext hE03)) (fun r w4 h4 => ?_)
  obtain ⟨ve4, vn4, nvs4, rfl, hT4, hE4⟩ := h4
  rw [← ht] at hT4
  refine goL ?_
  refine xcall rfl rfl (from_does w4 _ _ (.slice none 0 0) nvs4 t 100000 [] hT4 (Rw.nil _ _ (by decide)) ok2 ok1 (by omega) (by omega) (by decide)) ?_
  rintro r w5 ⟨p, rfl, hE5, hr⟩
  rw [hfr] at hr ⊢
  rcases hr with ⟨hr, _⟩ | ⟨_, gg, vfg, veg, vng, nvg, rfl, hO5⟩
  · exact absurd rfl hr
  have hO5 : FsO w5 w4.heap.size gg (qM 100000 0) vfg veg vng nvg t := hO5
  have hE35 := hE4.t hE5
  have hOf5 := hO3.ext hE35
  have hdj : ∀ b, FsA gf vff vef vnf nvf b → ¬ FsA gg vfg veg vng nvg b := fun b h1 h2 => by
    have e1 := (hO3.blk h1).2
    have e2 := (hO5.blk h2).1
    have := hE4.size
    omega
  have zB : w2.heap.size ≤ w4.heap.size := by have := hE3.size; have := hE4.size; omega
  refine goL ?_
  refine tloop (α := Nat) (fun i => [(7, .int .i64 k), (8, .int .i64 c), (9, .pointer (some ⟨gf, 0, none⟩)), (11, .pointer (some ⟨gg, 0, none⟩)), (13, .int .i64 (i : Int))]) (FfI w5 w2.heap.size w4.heap.size gf gg vff vfg k c) (fun i => 10 - i) 0 (sub ⟨rfl, rfl, rfl, rfl, rfl⟩)
    ⟨by decide, ⟨_, _, t, t, vef, vnf, nvf, veg, vng, nvg, hOf5, hO5, hdj, ⟨rfl, rfl, rfl, rfl, (decide_eq_false (by omega)).symm, fun _ => rfl, by show (0 : Int) ≤ 0 ∧ (0 : Int) ≤ ((0 : Nat) : Int); decide⟩, hfa, hfa⟩, Fr.refl _ _⟩ ?_
  rintro i y0 ⟨hi, ⟨mf, mg, tf, tg, va, vb, na, vc, vd, nc, hOf, hOg, hdf, hM, hTf, hTg⟩, hF0⟩
  by_cases hlt : i < 10
  · obtain ⟨s1, s2, s3, s4⟩ := hM.step
    have hf0 := hM.f0
    have hgc := hM.gc
    have hn0 := good_norm hTf.g.f.g
    obtain ⟨u, hu⟩ : ∃ u, u = renT tf.ns (sortE tf.es) := ⟨_, rfl⟩
    rw [← hu] at hn0
    have lf := hTf.l; have kf := hTf.k; have lg := hTg.l; have kg := hTg.k
    have s3f0 := s3.f0
    have hgT := hTg.make hlt s2 (by have := s3.gc; omega) (n := (kV 6).n) (by decide +kernel)
    refine goL ?_
    refine xcall rfl rfl (tree_does y0 gf _ vff va vb na tf u hOf.i hn0) ?_
    rintro r y1 ⟨v1, v2, n1, rfl, hTy, hE1'⟩
    obtain ⟨A1, c1, rfl, _, _⟩ := hTy.e.form
    obtain ⟨N1, d1, rfl, _, _⟩ := hTy.n.form
    refine goL ?_
    refine xalloc (z := .agg #[.slice none 0 0, .slice none 0 0]) (by kernel_rfl) (fun y2 hB2' hE2' hs2' => ?_)
    refine xsta hB2' rfl rfl (by kernel_rfl) rfl (one_cells (l := [.slice A1 u.es.length c1, .slice N1 n1.length d1]) rfl) (fun y3 hB3 hF3 => ?_)
    have hE13 : Ext y1 y3 := hE2'.trans hF3 fun j hj e => by have : j = y1.heap.size := e; omega
    have hE03' := hE1'.t hE13
    have zb : y1.heap.size < y3.heap.size := hB3.lt
    have zab := hE1'.size
    have fr1 : ∀ b, y0.heap.size ≤ b → b < y3.heap.size → ¬ FsK gf va vb b := fun b h1 _ hK => by have := (hOf.ltK hK).2; omega
    have fr2 : ∀ b, y0.heap.size ≤ b → b < y3.heap.size → ¬ FsK gg vc vd b := fun b h1 _ hK => by have := (hOg.ltK hK).2; omega
    have hT3 := hTy.v.ext hE13
    have hOf3 := hOf.ext hE03'
    have hOg3 := hOg.ext hE03'
    refine goL ?_
    refine xcall rfl rfl (rdec_does y3 i (by omega)) ?_
    rintro r y4 ⟨rfl, rfl⟩
    repeat' (first | refine xuadd (a := [110]) rfl rfl (by have := congrArg List.length (flt_dec hlt); rw [List.length_append] at this; unfold fltP at this; simp only [List.length_cons, List.length_nil] at this ⊢; omega) ?_ | refine go1L ?_ | fail)
    rw [flt_dec hlt]
    refine xbd (cells := (ndC (kV 6)).toArray) rfl (by kernel_rfl) ?_
    refine goL ?_
    refine xcall rfl rfl (make_does y3 w2.heap.size gf mf vff va vb na tf (fltP i) (kV 6) hOf3 (kV_in _ _) (fun b hb => absurd hb (kV_no _ _)) (by decide) (by omega) (by omega) (by omega)) ?_
    rintro r y5 ⟨rfl, va5, vb5, na5, hS5⟩
    obtain ⟨hOg5, hd5⟩ := FsO.beside hS5 (fun _ => trivial) hOg3 hdf (m := mf)
    have fr15 : ∀ b, y0.heap.size ≤ b → b < y3.heap.size → ¬ FsK gf va5 vb5 b := fun b h1 h2 => hS5.keep h2 (fr1 b h1 h2)
    have hB5 := Blk.fr hB3 hS5.f (fr1 _ zab zb)
    have hT5 := hT3.fr hS5.f fun b hb => fr1 b (hTy.lt hb).1 (by have := (hTy.lt hb).2; omega)
    have z5 := hS5.f.size
    refine goL ?_
    refine xbd (cells := (ndC (kV 6)).toArray) rfl (by kernel_rfl) ?_
    refine goL ?_
    refine xcall rfl rfl (make_does y5 w4.heap.size gg mg vfg vc vd nc tg (fltP i) (kV 6) hOg5 (kV_in _ _) (fun b hb => absurd hb (kV_no _ _)) (by decide) (by omega) (by omega) (by omega)) ?_
    rintro r y6 ⟨rfl, vc6, vd6, nc6, hS6⟩
    rw [hgT.1]
    obtain ⟨hOf6, hd6⟩ := FsO.beside hS6 (fun _ => trivial) hS5.o (fun b h1 h2 => hd5 b h2 h1) (m := mg)
    have hB6 := hB5.fr hS6.f (fr2 _ zab zb)
    have hT6 := hT5.fr hS6.f fun b hb => fr2 b (hTy.lt hb).1 (by have := (hTy.lt hb).2; omega)
    have hF6 : Fr (w2.heap.size ≤ ·) w5 y6 := ((hF0.te hE03').t (hS5.frB hOf3)).t ((hS6.frB hOg5).mono fun b _ hb => by have : w4.heap.size ≤ b := hb; show w2.heap.size ≤ b; omega)
    have key : ∀ y7, Ext y6 y7 → ∀ tf', makeT mf tf (fltP i) (kV 6).n = tf' → FaT (i + 1) tf' → FfI w5 w2.heap.size w4.heap.size gf gg vff vfg k c (i + 1) y7 := fun y7 hE7 tf' he hT => ⟨hlt, ⟨_, _, tf', _, va5, vb5, na5, vc6, vd6, nc6, he ▸ hOf6.ext hE7, hS6.o.ext hE7, fun b h1 h2 => hd6 b h2 h1, s3, hT, hgT.2⟩, hF6.te hE7⟩
    by_cases hx : faE k c i = 0
    · have hfT := hTf.make hlt (by rw [s1]; exact hx) (by omega) (n := (kV 6).n) (by decide +kernel)
      rw [hfT.1]
      have hnk : ¬ (c = 3 ∧ k < i) := fun h => by unfold faE at hx; rw [if_pos h] at hx; cases hx
      have hne : k ≠ i := fun h => by unfold faE at hx; rw [if_neg hnk, if_pos h] at hx; exact wantE_ne c hx
      have hcf := s4 hx
      have hcg := s3.gc
      by_cases h3 : c = 3
      · have hki : (i : Int) < k := by omega
        refine goL ?_
        refine xcall rfl rfl (callsC y6 gf _ vff _ _ hOf6.i.k ((i : Int) + 1) hcf) ?_
        rintro r y7 ⟨rfl, rfl⟩
        refine goL ?_
        refine xcall rfl rfl (callsC y6 gg _ vfg _ _ hS6.o.i.k ((i : Int) + 1) (by rw [hcg]; omega)) ?_
        rintro r y8 ⟨rfl, rfl⟩
        refine goL ?_
        exact tfin ⟨i + 1, sub ⟨rfl, rfl, rfl, rfl, ieq (by omega)⟩, key y6 (show Ext y6 y6 from Fr.refl _ _) _ rfl hfT.2, by show 10 - (i + 1) < 10 - i; omega⟩
      · by_cases hgk : k < (i : Int)
        · refine goL ?_
          refine xcall rfl rfl (callsC y6 gf _ vff _ _ hOf6.i.k ((i : Int) + 1) hcf) ?_
          rintro r y7 ⟨rfl, rfl⟩
          refine goL ?_
          refine xcall rfl rfl (callsC y6 gg _ vfg _ _ hS6.o.i.k ((i : Int) + 1) (by rw [hcg]; omega)) ?_
          rintro r y8 ⟨rfl, rfl⟩
          refine goL ?_
          exact tfin ⟨i + 1, sub ⟨rfl, rfl, rfl, rfl, ieq (by omega)⟩, key y6 (show Ext y6 y6 from Fr.refl _ _) _ rfl hfT.2, by show 10 - (i + 1) < 10 - i; omega⟩
        · refine goL ?_
          refine xcall rfl rfl (callsC y6 gf _ vff _ _ hOf6.i.k ((i : Int) + 1) hcf) ?_
          rintro r y7 ⟨rfl, rfl⟩
          refine goL ?_
          refine xcall rfl rfl (callsC y6 gg _ vfg _ _ hS6.o.i.k ((i : Int) + 1) (by rw [hcg]; omega)) ?_
          rintro r y8 ⟨rfl, rfl⟩
          refine goL ?_
          exact tfin ⟨i + 1, sub ⟨rfl, rfl, rfl, rfl, ieq (by omega)⟩, key y6 (show Ext y6 y6 from Fr.refl _ _) _ rfl hfT.2, by show 10 - (i + 1) < 10 - i; omega⟩
    · have hbn : (begM mf).2.1 ≠ 0 := by rw [s1]; exact hx
      have hme : makeE mf tf (fltP i) (kV 6).n = faE k c i := by rw [make_flt hbn, s1]
      have hmt : makeT mf tf (fltP i) (kV 6).n = tf := make_same (by rw [hme]; exact hx)
      rw [hme]
      rw [hmt] at hOf6
      have hd6' := Fr.drew noneB y6
      have hE6d : Ext y6 y6.drew := hd6'
      have hBd := hB6.ext hE6d
      have hki : k ≤ i := by
        by_cases h : k ≤ (i : Int)
        · exact h
        · exfalso; apply hx; unfold faE; rw [if_neg (by omega), if_neg (by omega)]
      by_cases h3 : c = 3
      · have he12 : faE k c i = 12 := by
          unfold faE wantE
          by_cases h : k < (i : Int)
          · rw [if_pos ⟨h3, h⟩]
          · rw [if_neg (fun hh => h hh.2), if_pos (by omega), if_pos h3]
        rw [he12]
        by_cases hkk : (i : Int) = k
        · refine goL ?_
          refine tdrawH [98] (fun w' => Blk w' y1.heap.size 29 #[.slice A1 u.es.length c1, .slice N1 n1.length d1]) (by kernel_rfl) (by decide +kernel) hBd ?_
          refine goL ?_
          refine xcall rfl rfl (tree_does y6.drew gf _ vff _ _ na5 tf u (hOf6.ext hE6d).i hn0) ?_ (fun r w' h => by obtain ⟨_, _, _, _, _, h⟩ := h; exact hBd.ext h)
          rintro r y7 ⟨v7, v8, n7, rfl, hT7, hE7⟩
          have hB7 := hBd.ext hE7
          refine goL ?_
          refine xldzh (cs := [.slice A1 u.es.length c1, .slice N1 n1.length d1]) rfl (by kernel_rfl) (fun w' (h : Blk w' _ _ _) j u hu => by rw [Nat.zero_add, h.cell, List.getElem?_toArray]; exact hu) ?_
          refine goL ?_
          refine xcall rfl rfl (alike_does y7 _ _ _ _ n7 n1 _ _ hT7.v ((hT6.ext hE6d).ext hE7)) ?_ (fun r w' h => hB7.ext h.2)
          rintro r y8 ⟨rfl, hE8⟩
          rw [alikeT_same]
          refine goL ?_
          exact tfin ⟨i + 1, sub ⟨rfl, rfl, rfl, rfl, ieq (by omega)⟩, key y8 ((hE6d.t hE7).t hE8) _ hmt hTf.up, by show 10 - (i + 1) < 10 - i; omega⟩
        · have hkl : k < (i : Int) := by omega
          refine goL ?_
          refine tdrawH [98] (fun w' => Blk w' y1.heap.size 29 #[.slice A1 u.es.length c1, .slice N1 n1.length d1]) (by kernel_rfl) (by decide +kernel) hBd ?_
          refine goL ?_
          refine xcall rfl rfl (tree_does y6.drew gf _ vff _ _ na5 tf u (hOf6.ext hE6d).i hn0) ?_ (fun r w' h => by obtain ⟨_, _, _, _, _, h⟩ := h; exact hBd.ext h)
          rintro r y7 ⟨v7, v8, n7, rfl, hT7, hE7⟩
          have hB7 := hBd.ext hE7
          refine goL ?_
          refine xldzh (cs := [.slice A1 u.es.length c1, .slice N1 n1.length d1]) rfl (by kernel_rfl) (fun w' (h : Blk w' _ _ _) j u hu => by rw [Nat.zero_add, h.cell, List.getElem?_toArray]; exact hu) ?_
          refine goL ?_
          refine xcall rfl rfl (alike_does y7 _ _ _ _ n7 n1 _ _ hT7.v ((hT6.ext hE6d).ext hE7)) ?_ (fun r w' h => hB7.ext h.2)
          rintro r y8 ⟨rfl, hE8⟩
          rw [alikeT_same]
          refine goL ?_
          exact tfin ⟨i + 1, sub ⟨rfl, rfl, rfl, rfl, ieq (by omega)⟩, key y8 ((hE6d.t hE7).t hE8) _ hmt hTf.up, by show 10 - (i + 1) < 10 - i; omega⟩
      · have hkk : (i : Int) = k := by
          by_cases h : (i : Int) = k
          · exact h
          · exfalso; apply hx; unfold faE; rw [if_neg (fun hh => h3 hh.1), if_neg (by omega)]
        have he11 : faE k c i = 11 := by
          unfold faE wantE
          rw [if_neg (fun hh => h3 hh.1), if_pos hkk.symm, if_neg h3]
        rw [he11]
        refine goL ?_
        refine tdrawH [111] (fun w' => Blk w' y1.heap.size 29 #[.slice A1 u.es.length c1, .slice N1 n1.length d1]) (by kernel_rfl) (by decide +kernel) hBd ?_
        refine goL ?_
        refine xcall rfl rfl (tree_does y6.drew gf _ vff _ _ na5 tf u (hOf6.ext hE6d).i hn0) ?_ (fun r w' h => by obtain ⟨_, _, _, _, _, h⟩ := h; exact hBd.ext h)
        rintro r y7 ⟨v7, v8, n7, rfl, hT7, hE7⟩
        have hB7 := hBd.ext hE7
        refine goL ?_
        refine xldzh (cs := [.slice A1 u.es.length c1, .slice N1 n1.length d1]) rfl (by kernel_rfl) (fun w' (h : Blk w' _ _ _) j u hu => by rw [Nat.zero_add, h.cell, List.getElem?_toArray]; exact hu) ?_
        refine goL ?_
        refine xcall rfl rfl (alike_does y7 _ _ _ _ n7 n1 _ _ hT7.v ((hT6.ext hE6d).ext hE7)) ?_ (fun r w' h => hB7.ext h.2)
        rintro r y8 ⟨rfl, hE8⟩
        rw [alikeT_same]
        refine goL ?_
        exact tfin ⟨i + 1, sub ⟨rfl, rfl, rfl, rfl, ieq (by omega)⟩, key y8 ((hE6d.t hE7).t hE8) _ hmt hTf.up, by show 10 - (i + 1) < 10 - i; omega⟩
  obtain rfl : i = 10 := by omega
  refine goL ?_
  refine xcall rfl rfl (told7_does y0) ?_
  rintro r y1 ⟨rfl, hE1'⟩
  have hEE : Ext w y1 := (hE03.t hE35).trans (hF0.te hE1') fun j hj hb => by have : w2.heap.size ≤ j := hb; have := (hE1.t hE2).size; omega
  refine goL ?_
  exact tret1 rfl rfl ⟨rfl, hEE⟩
end Eng
end Go.Proofs.YtiebbecknfpdeaaGreatDoor
