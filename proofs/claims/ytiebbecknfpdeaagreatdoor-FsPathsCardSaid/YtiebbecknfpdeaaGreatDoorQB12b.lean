/-
  Parts of the proof, joined: Fh, Fj, Fk.
-/
import Derived.Test.YtiebbecknfpdeaaGreatDoorQB11
import Derived.Test.YtiebbecknfpdeaaGreatDoorQB12a
namespace Go.Proofs.YtiebbecknfpdeaaGreatDoor
open Go.RowKit
namespace Eng
/-- A time that is set. -/
theorem set_time {m : FsM} {t : Tre} {p : Str} {i x : Int} (hb : (begM m).2.1 = 0) (hf : findM t p = (i, 0)) (hm : metaOK (nodeAt t i) = true) (hx : 0 ≤ x) : setE m t p (fun _ => 0) (fun n => timeN n x) = 0 ∧ setT m t p (fun _ => 0) (fun n => timeN n x) = ⟨t.es, t.ns.set i.toNat (timeN (nodeAt t i) x)⟩ := by
  have he : setE m t p (fun _ => 0) (fun n => timeN n x) = 0 := by
    unfold setE
    rw [hb, if_neg (fun h => h rfl), hf, if_neg (fun h => h rfl), if_neg (fun h => h rfl), metaOK_time hm hx]
    rfl
  refine ⟨he, ?_⟩
  unfold setT
  rw [if_pos he, hf]
def tiD (c : Int) : Nd := madeN (kN 1) c
def tiF (c : Int) : Nd := madeN (kN 2) c
def tiW (d : Int) : Nd := ⟨2, 0, 0, 0, d, [], [], 3, [⟨0, [97, 98, 99]⟩], [], 0, 0⟩
def tiT (a b : Int) : Tre := ⟨[⟨[], 0⟩, ⟨[100], 1⟩], [timeN rootN a, tiD b]⟩
def tiU (a b : Int) (n : Nd) : Tre := ⟨[⟨[], 0⟩, ⟨[100], 1⟩, ⟨[100, 47, 102], 2⟩], [timeN rootN a, tiD b, n]⟩
theorem ti_made {k c : Int} (hk : nodeOK (kN k) = true) (hc : 0 ≤ c) : nodeOK (madeN (kN k) c) = true := nodeOK_made hk hc
theorem ti_meta {n : Nd} (h : nodeOK n = true) : metaOK n = true := by unfold nodeOK at h; rw [Bool.and_eq_true] at h; exact h.1
theorem ti1 (c : Int) : makeE (qM 1000 c) rootT [100] (kV 1).n = 0 ∧ makeT (qM 1000 c) rootT [100] (kV 1).n = tiT (c + 1) (c + 1) := ⟨by kernel_rfl, by kernel_rfl⟩
theorem ti2 {c a b x : Int} (hb : 0 ≤ b) (hx : 0 ≤ x) : setE (qM 1000 c) (tiT a b) [100] (fun _ => 0) (fun n => timeN n x) = 0 ∧ setT (qM 1000 c) (tiT a b) [100] (fun _ => 0) (fun n => timeN n x) = tiT a x :=
  set_time (i := 1) rfl (by kernel_rfl) (ti_meta (ti_made (k := 1) (by decide +kernel) hb)) hx
theorem ti3 {c a b x : Int} (ha : 0 ≤ a) (hx : 0 ≤ x) : setE (qM 1000 c) (tiT a b) [] (fun _ => 0) (fun n => timeN n x) = 0 ∧ setT (qM 1000 c) (tiT a b) [] (fun _ => 0) (fun n => timeN n x) = tiT x b :=
  set_time (i := 0) rfl (by kernel_rfl) (metaOK_time (n := rootN) (by decide +kernel) ha) hx
theorem ti4 (c a b : Int) : makeE (qM 1000 c) (tiT a b) [100, 47, 102] (kV 2).n = 0 ∧ makeT (qM 1000 c) (tiT a b) [100, 47, 102] (kV 2).n = tiU a (c + 1) (tiF (c + 1)) := ⟨by kernel_rfl, by kernel_rfl⟩
theorem ti_get (c a b : Int) (n : Nd) : (getE (qM 1000 c) (tiU a b n) [100] = 0 ∧ nodeAt (tiU a b n) (findM (tiU a b n) [100]).1 = tiD b) ∧ (getE (qM 1000 c) (tiU a b n) [] = 0 ∧ nodeAt (tiU a b n) (findM (tiU a b n) []).1 = timeN rootN a) ∧ getE (qM 1000 c) (tiU a b n) [100, 47, 102] = 0 ∧ nodeAt (tiU a b n) (findM (tiU a b n) [100, 47, 102]).1 = n :=
  ⟨⟨by kernel_rfl, by kernel_rfl⟩, ⟨by kernel_rfl, by kernel_rfl⟩, by kernel_rfl, by kernel_rfl⟩
theorem ti_wr {c : Int} (hc : 0 ≤ c) : writeN (tiF c) 0 [97, 98, 99] = (tiW c, 0) := by
  have h : nodeOK (tiF c) = true := ti_made (k := 2) (by decide +kernel) hc
  unfold writeN
  rw [if_neg (fun hh => by
    rcases hh with hh | hh | hh | hh
    · rw [h] at hh; cases hh
    · exact absurd (show (tiF c).kind = 2 from rfl) hh
    · omega
    · omega), if_neg (by decide), if_neg (by decide), if_neg (by show ¬ (4000 < bytesP (wrP [] 0 [97, 98, 99]) ∨ 16 < (wrP [] 0 [97, 98, 99]).length); decide)]
  rfl
theorem ti5 {c a b d : Int} (hd : 0 ≤ d) : writeE (qM 1000 c) (tiU a b (tiF d)) [100, 47, 102] 0 [97, 98, 99] = 0 ∧ writeT (qM 1000 c) (tiU a b (tiF d)) [100, 47, 102] 0 [97, 98, 99] = tiU a b (tiW (c + 1)) := by
  have hb := qM_beg 1000 c
  have hf : findM (tiU a b (tiF d)) [100, 47, 102] = (2, 0) := by kernel_rfl
  have hn : nodeAt (tiU a b (tiF d)) 2 = tiF d := rfl
  have hs : shortS (qM 1000 c) [97, 98, 99] = [97, 98, 99] := rfl
  have he : changeE (qM 1000 (c + 1)) (tiU a b (tiF d)) [100, 47, 102] (fun n => writeN n 0 [97, 98, 99]) = 0 := by
    unfold changeE
    rw [hf, hn, if_neg (by decide), if_neg (by show ¬ (2 : Int) = 1; decide), if_neg (by show ¬ (2 : Int) ≠ 2; decide)]
    dsimp only
    rw [if_neg (show ¬ (writeN (tiF d) 0 [97, 98, 99]).2 ≠ 0 by rw [ti_wr hd]; exact fun h => h rfl)]
    refine if_neg ?_
    show ¬ (1000 : Int) < (totalT (tiU a b (tiF d)).ns : Int) - bytesP (tiF d).data + bytesP (writeN (tiF d) 0 [97, 98, 99]).1.data
    rw [ti_wr hd, show totalT (tiU a b (tiF d)).ns = 0 from rfl, show bytesP (tiF d).data = 0 from rfl]
    show ¬ (1000 : Int) < 0 - 0 + 3
    decide
  have hg : ¬ ((begM (qM 1000 c)).1 ≠ 2 ∧ (begM (qM 1000 c)).2.1 ≠ 0) := fun h => h.2 rfl
  constructor
  · unfold writeE
    rw [if_neg hg, hs, hb.2, he, if_neg (by decide)]
    exact hb.1
  · unfold writeT
    rw [if_neg hg, hs, hb.2]
    unfold changeT
    rw [if_pos he, hf, hn]
    dsimp only
    rw [ti_wr hd]
    rfl
theorem none_goneE (c : Int) : goneE (qM 1000 c) rootT [110, 111, 110, 101] ≠ 0 := gone_no fun e he => by rw [List.mem_singleton.1 he]; decide
attribute [local irreducible] xs T
set_option maxRecDepth 20000 in
set_option maxHeartbeats 16000000 in
theorem fsTimes_core (w : World) (zt zk : Int) : Does Tryz.prog 8 #[.int .i64 zt, .int .i64 zk] w fun r w' => r = .bool true ∧ Ext w w' := by
  refine does2 Tryz.func8 rfl (by kernel_rfl) ?_
  have hub := uN_lt zt
  have huk := uN_lt zk
  refine goL ?_
  refine xcall rfl rfl (new_does w (.slice none 0 0) 1000 [] (Rw.nil _ _ (by decide)) (by decide)) ?_
  rintro r w1 ⟨hE1, hr⟩
  rcases hr with ⟨hr, _⟩ | ⟨_, g, vf, ve, vn, nvs, rfl, hO1⟩
  · exact absurd rfl hr
  have hO1 : FsO w1 w.heap.size g (qM 1000 0) vf ve vn nvs rootT := hO1
  repeat' (first | refine xcv (r := ((uN zt : Nat) : Int)) rfl rfl rfl (uN_eq zt) ?_ | refine xcv (r := ((uN zk : Nat) : Int)) rfl rfl rfl (uN_eq zk) ?_ | refine go1LU ?_ | fail)
  obtain ⟨x, hx⟩ : ∃ x : Int, x = ((uN zt : Nat) : Int) % 1000000000 := ⟨_, rfl⟩
  obtain ⟨k, hk⟩ : ∃ k : Nat, k = uN zk % 10 := ⟨_, rfl⟩
  have hkz : ((uN zk : Nat) : Int) % 10 = (k : Int) := by rw [hk]; exact (Int.natCast_emod _ _).symm
  rw [← hx, hkz]
  have hx0 : 0 ≤ x ∧ x < 1000000000 := by omega
  have hk10 : k < 10 := hk ▸ Nat.mod_lt _ (by decide)
  clear hx hkz hk
  refine tloop (α := Nat) (fun i => [(5, .pointer (some ⟨g, 0, none⟩)), (6, .int .i64 x), (7, .int .i64 (k : Int)), (8, .int .i64 (i : Int))]) (fun i w' => i ≤ k ∧ ∃ ve' vn' nvs', FsO w' w.heap.size g (qM 1000 (i : Int)) vf ve' vn' nvs' rootT ∧ Fr (w.heap.size ≤ ·) w1 w') (fun i => k - i) 0 (sub ⟨rfl, rfl, rfl, rfl⟩) ⟨Nat.zero_le _, ve, vn, nvs, hO1, Fr.refl _ _⟩ ?_
  rintro i w2 ⟨hi, ve2, vn2, nvs2, hO2, hF2⟩
  by_cases hlt : i < k
  · refine goL ?_
    refine xcall rfl rfl (gone_does w2 w.heap.size g (qM 1000 (i : Int)) vf ve2 vn2 nvs2 rootT [110, 111, 110, 101] hO2 (by show 0 ≤ (i : Int) ∧ (i : Int) ≤ _; omega) ⟨⟨[], 0⟩, List.mem_cons_self, rfl⟩) ?_
    rintro r w3 ⟨rfl, ve3, vn3, nvs3, hS3⟩
    rw [gone_same (none_goneE _), (qM_beg _ _).2] at hS3
    refine goL ?_
    exact tfin ⟨i + 1, sub ⟨rfl, rfl, rfl, ieq (by omega)⟩, ⟨hlt, ve3, vn3, nvs3, by have := hS3.o; rwa [show ((i + 1 : Nat) : Int) = (i : Int) + 1 by omega], hF2.t (hS3.frB hO2)⟩, by show k - (i + 1) < k - i; omega⟩
  obtain rfl : i = k := by omega
  obtain ⟨c, hc⟩ : ∃ c : Int, c = (i : Int) := ⟨_, rfl⟩
  rw [← hc] at hO2
  have hc0 : 0 ≤ c ∧ c < 10 := by omega
  have hbd : ∀ d : Int, 0 ≤ d → d ≤ 10 → 0 ≤ (qM 1000 (c + d)).calls ∧ (qM 1000 (c + d)).calls ≤ 4000000000000000000 := fun d h1 h2 => by show 0 ≤ c + d ∧ c + d ≤ _; omega
  refine goL ?_
  refine xbd (cells := (ndC (kV 1)).toArray) rfl (by kernel_rfl) ?_
  refine goL ?_
  refine xcall rfl rfl (make_does w2 w.heap.size g (qM 1000 c) vf ve2 vn2 nvs2 rootT [100] (kV 1) hO2 (kV_in _ _) (fun b hb => absurd hb (kV_no _ _)) (by decide) (by show 0 ≤ c ∧ c ≤ _; omega) (by decide) (by decide)) ?_
  rintro r w3 ⟨rfl, ve3, vn3, nvs3, hS3⟩
  rw [(ti1 c).2, (qM_beg _ _).2] at hS3
  rw [(ti1 c).1]
  have hO3 := hS3.o
  have e4 := ti2 (c := c + 1) (a := c + 1) (b := c + 1) (x := x) (by omega) hx0.1
  refine goL ?_
  refine xcall rfl rfl (time_does w3 w.heap.size g (qM 1000 (c + 1)) vf ve3 vn3 nvs3 (tiT (c + 1) (c + 1)) [100] x hO3 (hbd 1 (by decide) (by decide))) ?_
  rintro r w4 ⟨rfl, nvs4, hS4⟩
  rw [e4.2, (qM_beg _ _).2] at hS4
  rw [e4.1]
  have hO4 := hS4.o
  have e5 := ti3 (c := c + 1 + 1) (a := c + 1) (b := x) (x := x) (by omega) hx0.1
  refine goL ?_
  refine xcall rfl rfl (time_does w4 w.heap.size g (qM 1000 (c + 1 + 1)) vf ve3 vn3 nvs4 (tiT (c + 1) x) [] x hO4 (by show 0 ≤ c + 1 + 1 ∧ c + 1 + 1 ≤ _; omega)) ?_
  rintro r w5 ⟨rfl, nvs5, hS5⟩
  rw [e5.2, (qM_beg _ _).2] at hS5
  rw [e5.1]
  have hO5 := hS5.o
  refine goL ?_
  refine xbd (cells := (ndC (kV 2)).toArray) rfl (by kernel_rfl) ?_
  refine goL ?_
  refine xcall rfl rfl (make_does w5 w.heap.size g (qM 1000 (c + 1 + 1 + 1)) vf ve3 vn3 nvs5 (tiT x x) [100, 47, 102] (kV 2) hO5 (kV_in _ _) (fun b hb => absurd hb (kV_no _ _)) (by decide) (by show 0 ≤ c + 1 + 1 + 1 ∧ c + 1 + 1 + 1 ≤ _; omega) (by show 2 ≤ _; decide) (by show 2 ≤ _; decide)) ?_
  rintro r w6 ⟨rfl, ve6, vn6, nvs6, hS6⟩
  rw [(ti4 _ _ _).2, (qM_beg _ _).2, show c + 1 + 1 + 1 + 1 = c + 4 by omega] at hS6
  rw [(ti4 _ _ _).1]
  have hO6 := hS6.o
  have hF6 : Fr (w.heap.size ≤ ·) w1 w6 := (((hF2.t (hS3.frB hO2)).t (hS4.frB hO3)).t (hS5.frB hO4)).t (hS6.frB hO5)
  refine goL ?_
  refine xcall rfl rfl (get_does w6 g (qM 1000 (c + 4)) vf ve6 vn6 nvs6 (tiU x (c + 4) (tiF (c + 4))) [100] hO6.i (hbd 4 (by decide) (by decide))) ?_
  rintro r w7 ⟨x7, rfl, hx7, hn7, hI7, hF7⟩
  rw [(ti_get (c + 4) x (c + 4) (tiF (c + 4))).1.1, if_pos rfl, (ti_get (c + 4) x (c + 4) (tiF (c + 4))).1.2] at hn7
  rw [(qM_beg _ _).2, show c + 4 + 1 = c + 5 by omega] at hI7
  rw [(ti_get (c + 4) x (c + 4) (tiF (c + 4))).1.1]
  have hO7 := hO6.put hF7 hI7 rfl
  refine goL ?_
  refine xalloc (z := .agg nd0) (by kernel_rfl) (fun w8 hB8 hE8 hs8 => ?_)
  refine xsta hB8 rfl rfl (by kernel_rfl) rfl (one_cells (l := ndC x7) (List.all_eq_true.2 (ndC_one hx7.in))) (fun w9 hB9 hF9 => ?_)
  have hE79 : Ext w7 w9 := hE8.trans hF9 fun j hj e => by have : j = w7.heap.size := e; omega
  have hO9 := hO7.ext hE79
  have z7 := hO7.i.k.lt
  refine goL ?_
  refine xcall rfl rfl (get_does w9 g (qM 1000 (c + 5)) vf ve6 vn6 nvs6 (tiU x (c + 4) (tiF (c + 4))) [] hO9.i (hbd 5 (by decide) (by decide))) ?_
  rintro r w10 ⟨x10, rfl, hx10, hn10, hI10, hF10⟩
  rw [(ti_get (c + 5) x (c + 4) (tiF (c + 4))).2.1.1, if_pos rfl, (ti_get (c + 5) x (c + 4) (tiF (c + 4))).2.1.2] at hn10
  rw [(qM_beg _ _).2, show c + 5 + 1 = c + 6 by omega] at hI10
  rw [(ti_get (c + 5) x (c + 4) (tiF (c + 4))).2.1.1]
  have hO10 := hO9.put hF10 hI10 rfl
  have hB9' := hB9.fr hF10 (show ¬ w7.heap.size = g by omega)
  refine goL ?_
  refine xalloc (z := .agg nd0) (by kernel_rfl) (fun w11 hB11 hE11 hs11 => ?_)
  refine xsta hB11 rfl rfl (by kernel_rfl) rfl (one_cells (l := ndC x10) (List.all_eq_true.2 (ndC_one hx10.in))) (fun w12 hB12 hF12 => ?_)
  have hE1012 : Ext w10 w12 := hE11.trans hF12 fun j hj e => by have : j = w10.heap.size := e; omega
  have hO12 := hO10.ext hE1012
  have z10 := hO10.i.k.lt
  have hB9'' := hB9'.ext hE1012
  refine goL ?_
  refine xcall rfl rfl (get_does w12 g (qM 1000 (c + 6)) vf ve6 vn6 nvs6 (tiU x (c + 4) (tiF (c + 4))) [100, 47, 102] hO12.i (hbd 6 (by decide) (by decide))) ?_
  rintro r w13 ⟨x13, rfl, hx13, hn13, hI13, hF13⟩
  rw [(ti_get (c + 6) x (c + 4) (tiF (c + 4))).2.2.1, if_pos rfl, (ti_get (c + 6) x (c + 4) (tiF (c + 4))).2.2.2] at hn13
  rw [(qM_beg _ _).2, show c + 6 + 1 = c + 7 by omega] at hI13
  rw [(ti_get (c + 6) x (c + 4) (tiF (c + 4))).2.2.1]
  have hO13 := hO12.put hF13 hI13 rfl
  have hBp := hB9''.fr hF13 (show ¬ w7.heap.size = g by omega)
  have hBq := hB12.fr hF13 (show ¬ w10.heap.size = g by omega)
  refine goL ?_
  refine xalloc (z := .agg nd0) (by kernel_rfl) (fun w14 hB14 hE14 hs14 => ?_)
  refine xsta hB14 rfl rfl (by kernel_rfl) rfl (one_cells (l := ndC x13) (List.all_eq_true.2 (ndC_one hx13.in))) (fun w15 hB15 hF15 => ?_)
  have hE1315 : Ext w13 w15 := hE14.trans hF15 fun j hj e => by have : j = w13.heap.size := e; omega
  have hO15 := hO13.ext hE1315
  have hF715 : Fr (w.heap.size ≤ ·) w6 w15 := by
    have hgB : ∀ {a b : World}, Fr (· = g) a b → Fr (w.heap.size ≤ ·) a b := fun h => h.mono fun b _ hb => by have : b = g := hb; have := hO1.b; show w.heap.size ≤ b; omega
    exact ((((((hgB hF7).te hE79).t (hgB hF10)).te hE1012).t (hgB hF13)).te hE1315)
  have e16 := ti5 (c := c + 7) (a := x) (b := c + 4) (d := c + 4) (by omega)
  refine goL ?_
  refine xcall rfl rfl (write_does w15 w.heap.size g (qM 1000 (c + 7)) vf ve6 vn6 nvs6 (tiU x (c + 4) (tiF (c + 4))) [100, 47, 102] 0 [97, 98, 99] hO15 (hbd 7 (by decide) (by decide)) (by decide) (by decide)) ?_
  rintro r w16 ⟨rfl, nvs16, hS16⟩
  rw [e16.2, (qM_beg _ _).2, show c + 7 + 1 = c + 8 by omega] at hS16
  rw [e16.1]
  have hO16 := hS16.o
  have hnK : ∀ b, b = w7.heap.size ∨ b = w10.heap.size ∨ b = w13.heap.size → ¬ FsK g ve6 vn6 b := fun b hb hK => by
    have h1 := (hO7.ltK hK).2
    have := hF10.size; have := hF13.size; have := hE79.size; have := hE1012.size
    omega
  have hBp16 := (hBp.ext hE1315).fr hS16.f (hnK _ (.inl rfl))
  have hBq16 := (hBq.ext hE1315).fr hS16.f (hnK _ (.inr (.inl rfl)))
  have hBr16 := Blk.fr hB15 hS16.f (hnK _ (.inr (.inr rfl)))
  have z13 := hO13.i.k.lt
  refine goL ?_
  refine xcall rfl rfl (get_does w16 g (qM 1000 (c + 8)) vf ve6 vn6 nvs16 (tiU x (c + 4) (tiW (c + 8))) [100, 47, 102] hO16.i (hbd 8 (by decide) (by decide))) ?_
  rintro r w17 ⟨x17, rfl, hx17, hn17, hI17, hF17⟩
  rw [(ti_get (c + 8) x (c + 4) (tiW (c + 8))).2.2.1, if_pos rfl, (ti_get (c + 8) x (c + 4) (tiW (c + 8))).2.2.2] at hn17
  rw [(ti_get (c + 8) x (c + 4) (tiW (c + 8))).2.2.1]
  have hBp17 := hBp16.fr hF17 (show ¬ w7.heap.size = g by omega)
  have hBq17 := hBq16.fr hF17 (show ¬ w10.heap.size = g by omega)
  have hBr17 := hBr16.fr hF17 (show ¬ w13.heap.size = g by omega)
  refine goL ?_
  refine xalloc (z := .agg nd0) (by kernel_rfl) (fun w18 hB18 hE18 hs18 => ?_)
  refine xsta hB18 rfl rfl (by kernel_rfl) rfl (one_cells (l := ndC x17) (List.all_eq_true.2 (ndC_one hx17.in))) (fun w19 hB19 hF19 => ?_)
  have hE1719 : Ext w17 w19 := hE18.trans hF19 fun j hj e => by have : j = w17.heap.size := e; omega
  refine goL ?_
  refine xcall rfl rfl (told7_does w19) ?_
  rintro r w20 ⟨rfl, hE20⟩
  have hE1720 := hE1719.t hE20
  have kp : w20.cell? ⟨w7.heap.size, 4, none⟩ = some (.int .i64 x7.n.time) := (hBp17.ext hE1720).cell 4
  have kq : w20.cell? ⟨w10.heap.size, 4, none⟩ = some (.int .i64 x10.n.time) := (hBq17.ext hE1720).cell 4
  have kr : w20.cell? ⟨w13.heap.size, 4, none⟩ = some (.int .i64 x13.n.time) := (hBr17.ext hE1720).cell 4
  have ks : w20.cell? ⟨w17.heap.size, 4, none⟩ = some (.int .i64 x17.n.time) := (Blk.ext hB19 hE20).cell 4
  rw [hn7] at kp
  rw [hn10] at kq
  rw [hn13] at kr
  rw [hn17] at ks
  have kp : w20.cell? ⟨w7.heap.size, 4, none⟩ = some (.int .i64 (c + 4)) := kp
  have kq : w20.cell? ⟨w10.heap.size, 4, none⟩ = some (.int .i64 x) := kq
  have kr : w20.cell? ⟨w13.heap.size, 4, none⟩ = some (.int .i64 (c + 4)) := kr
  have ks : w20.cell? ⟨w17.heap.size, 4, none⟩ = some (.int .i64 (c + 8)) := ks
  have hgB : ∀ {a b : World}, Fr (· = g) a b → Fr (w.heap.size ≤ ·) a b := fun h => h.mono fun b _ hb => by have : b = g := hb; have := hO1.b; show w.heap.size ≤ b; omega
  have hEE : Ext w w20 := hE1.trans ((((hF6.t hF715).t (hS16.frB hO15)).t (hgB hF17)).te hE1720) fun j hj hb => by have : w.heap.size ≤ j := hb; omega
  refine goL ?_
  exact tret1 rfl rfl ⟨rfl, hEE⟩
end Eng
end Go.Proofs.YtiebbecknfpdeaaGreatDoor
namespace Go.Proofs.YtiebbecknfpdeaaGreatDoor
open Go.RowKit
namespace Eng
theorem quT_write {q c pos : Int} {n : Nd} {s : Str} (hk : n.kind = 2) (h0 : (writeN n pos s).2 = 0) : writeE (qM q c) (quT n) [102] pos s = (if q < (bytesP (writeN n pos s).1.data : Int) then 10 else 0) ∧ writeT (qM q c) (quT n) [102] pos s = (if q < (bytesP (writeN n pos s).1.data : Int) then quT n else quT (timeN (writeN n pos s).1 (c + 1))) := by
  have hb := qM_beg q c
  have hg : ¬ ((begM (qM q c)).1 ≠ 2 ∧ (begM (qM q c)).2.1 ≠ 0) := fun h => h.2 rfl
  have hs : shortS (qM q c) s = s := rfl
  have he : changeE (qM q (c + 1)) (quT n) [102] (fun n => writeN n pos s) = if q < (bytesP (writeN n pos s).1.data : Int) then 10 else 0 := by
    rw [quT_change _ _ _ hk, if_neg (fun h => h h0)]
    rfl
  constructor
  · unfold writeE
    rw [if_neg hg, hs, hb.2, he]
    split
    · rw [if_pos (by decide)]
    · rw [if_neg (by decide)]; exact hb.1
  · unfold writeT
    rw [if_neg hg, hs, hb.2, quT_set, he]
    split
    · rw [if_neg (by decide)]
    · rw [if_pos rfl]; rfl
theorem quT_size {q c size : Int} {n : Nd} (hk : n.kind = 2) (h0 : (cutN n size).2 = 0) (hq : ¬ q < (bytesP (cutN n size).1.data : Int)) : sizeE (qM q c) (quT n) [102] size = 0 ∧ sizeT (qM q c) (quT n) [102] size = quT (timeN (cutN n size).1 (c + 1)) := by
  have hb := qM_beg q c
  have hg : ¬ (begM (qM q c)).2.1 ≠ 0 := fun h => h rfl
  have he : changeE (qM q (c + 1)) (quT n) [102] (fun n => cutN n size) = 0 := by
    rw [quT_change _ _ _ hk, if_neg (fun h => h h0)]
    exact if_neg hq
  constructor
  · unfold sizeE
    rw [if_neg hg, hb.2, he]
  · unfold sizeT
    rw [if_neg hg, hb.2, quT_set, if_pos he]
    rfl
theorem quT_make (q : Int) : makeE (qM q 0) rootT [102] (kV 2).n = 0 ∧ makeT (qM q 0) rootT [102] (kV 2).n = quT (madeN (kN 2) 1) := ⟨by kernel_rfl, by kernel_rfl⟩
theorem quN_zero (k : Nat) : QuN k 0 0 (madeN (kN 2) 1) := ⟨by decide +kernel, rfl, Nat.le_refl _, rfl, Nat.le_refl _, fun p hp => by cases hp⟩
theorem calls_q {q c : Int} (h : 0 ≤ c ∧ c ≤ 100) : 0 ≤ (qM q c).calls ∧ (qM q c).calls ≤ 4000000000000000000 := by show 0 ≤ c ∧ c ≤ _; omega
attribute [local irreducible] xs T
set_option maxRecDepth 20000 in
set_option maxHeartbeats 16000000 in
theorem fsQuota_core (w : World) (zq zn : Int) : Does Tryz.prog 11 #[.int .i64 zq, .int .i64 zn] w fun r w' => r = .bool true ∧ Ext w w' := by
  refine does2 Tryz.func11 rfl (by kernel_rfl) ?_
  have hub := uN_lt zq
  have huk := uN_lt zn
  repeat' (first | refine xcv (r := ((uN zq : Nat) : Int)) rfl rfl rfl (uN_eq zq) ?_ | refine xcv (r := ((uN zn : Nat) : Int)) rfl rfl rfl (uN_eq zn) ?_ | refine go1LU ?_ | fail)
  obtain ⟨q, hq⟩ : ∃ q : Int, q = ((uN zq : Nat) : Int) % 301 := ⟨_, rfl⟩
  obtain ⟨k, hk⟩ : ∃ k : Nat, k = 1 + uN zn % 60 := ⟨_, rfl⟩
  have hkz : 1 + ((uN zn : Nat) : Int) % 60 = (k : Int) := by omega
  rw [← hq, hkz]
  have hq0 : 0 ≤ q ∧ q ≤ 300 := by omega
  have hk1 : 1 ≤ k ∧ k ≤ 60 := by omega
  clear hq hkz hk
  have hnew : newE q = 0 := by unfold newE; rw [if_neg (by omega)]
  refine goL ?_
  refine xcall rfl rfl (new_does w (.slice none 0 0) q [] (Rw.nil _ _ (by decide)) (by decide)) ?_
  rintro r w1 ⟨hE1, hr⟩
  rw [hnew] at hr
  rcases hr with ⟨hr, _⟩ | ⟨_, g, vf, ve, vn, nvs, rfl, hO1⟩
  · exact absurd rfl hr
  have hO1 : FsO w1 w.heap.size g (qM q 0) vf ve vn nvs rootT := hO1
  refine goL ?_
  refine xbd (cells := (ndC (kV 2)).toArray) rfl (by kernel_rfl) ?_
  refine goL ?_
  refine xcall rfl rfl (make_does w1 w.heap.size g (qM q 0) vf ve vn nvs rootT [102] (kV 2) hO1 (kV_in _ _) (fun b hb => absurd hb (kV_no _ _)) (by decide) (by show (0 : Int) ≤ 0 ∧ (0 : Int) ≤ _; decide) (by decide) (by decide)) ?_
  rintro r w2 ⟨rfl, ve2, vn2, nvs2, hS2⟩
  rw [(quT_make q).2, (qM_beg _ _).2] at hS2
  rw [(quT_make q).1]
  have hO2 := hS2.o
  refine goL ?_
  refine xmk sl_u8 rfl rfl rfl (by omega) (by omega) (by omega) (fun w3 hB3 hE3 hs3 => ?_)
  rw [Int.toNat_natCast] at hB3
  rw [byC_zero k] at hB3
  refine goL ?_
  refine xcbu hB3 rfl (by rw [List.length_replicate, Int.toNat_natCast]) (by unfold maxLen; omega) ?_
  obtain ⟨s, hs⟩ : ∃ s : Str, s = List.replicate k 0 := ⟨_, rfl⟩
  rw [← hs]
  have hsl : s.length = k := by rw [hs, List.length_replicate]
  refine goL ?_
  refine tloop (α := Nat × Nat) (fun x => [(5, .int .i64 q), (6, .int .i64 (k : Int)), (7, .pointer (some ⟨g, 0, none⟩)), (8, .string (su s)), (9, .int .i64 ((x.1 * (k + 1000) : Nat) : Int)), (10, .int .i64 (x.2 : Int)), (11, .int .i64 (x.1 : Int))])
    (fun x w' => x.1 ≤ 16 ∧ (x.2 : Int) ≤ q ∧ (∃ n ve' vn' nvs', QuN k x.1 x.2 n ∧ FsO w' w.heap.size g (qM q ((x.1 : Int) + 1)) vf ve' vn' nvs' (quT n)) ∧ Fr (w.heap.size ≤ ·) w1 w') (fun x => 16 - x.1) (0, 0) (sub ⟨rfl, rfl, rfl, rfl, ieq (by dsimp only; omega), rfl, rfl⟩) ⟨by dsimp only; omega, by dsimp only; omega, ⟨_, ve2, vn2, nvs2, quN_zero k, hO2.ext hE3⟩, (hS2.frB hO1).te hE3⟩ ?_
  rintro ⟨i, took⟩ w4 ⟨hi, htq, ⟨n, ve4, vn4, nvs4, hQ, hO4⟩, hF4⟩
  dsimp only at hi htq hQ hO4 ⊢
  have hpos : i * (k + 1000) ≤ 16 * 1060 := Nat.mul_le_mul hi (by omega)
  by_cases hlt : i < 16
  · obtain ⟨w1', w2', w3'⟩ := hQ.write hk1 hlt hsl (c := (i : Int) + 1 + 1) (by omega)
    obtain ⟨pw1, pw2⟩ := quT_write (q := q) (c := (i : Int) + 1) hQ.kd w1'
    rw [w2'] at pw1 pw2
    have hsm : (i + 1) * (k + 1000) = i * (k + 1000) + k + 1000 := by rw [Nat.succ_mul]; omega
    have hci := calls_q (q := q) (c := (i : Int) + 1) (by omega)
    refine goL ?_
    refine xcall rfl rfl (write_does w4 w.heap.size g (qM q ((i : Int) + 1)) vf ve4 vn4 nvs4 (quT n) [102] ((i * (k + 1000) : Nat) : Int) s hO4 hci (by omega) (by omega)) ?_
    rintro r w5 ⟨rfl, nvs5, hS5⟩
    rw [(qM_beg _ _).2] at hS5
    have hF5 := hF4.t (hS5.frB hO4)
    by_cases hle : q < ((took + k : Nat) : Int)
    · rw [if_pos hle] at pw1 pw2
      rw [pw1]
      rw [pw2] at hS5
      repeat' (first | refine xbne rfl rfl ?_ | refine go1L ?_ | fail)
      exact tfin ⟨(i + 1, took), sub ⟨rfl, rfl, rfl, rfl, ieq (by dsimp only; omega), rfl, ieq (by dsimp only; omega)⟩, ⟨hlt, htq, ⟨n, ve4, vn4, nvs5, hQ.skip, by have := hS5.o; rwa [show ((i + 1 : Nat) : Int) = (i : Int) + 1 by omega]⟩, hF5⟩, by show 16 - (i + 1) < 16 - i; omega⟩
    · rw [if_neg hle] at pw1 pw2
      rw [pw1]
      rw [pw2] at hS5
      repeat' (first | refine xbne rfl rfl ?_ | refine go1L ?_ | fail)
      exact tfin ⟨(i + 1, took + k), sub ⟨rfl, rfl, rfl, rfl, ieq (by dsimp only; omega), ieq (by dsimp only; omega), ieq (by dsimp only; omega)⟩, ⟨hlt, by dsimp only; omega, ⟨_, ve4, vn4, nvs5, w3', by have := hS5.o; rwa [show ((i + 1 : Nat) : Int) = (i : Int) + 1 by omega]⟩, hF5⟩, by show 16 - (i + 1) < 16 - i; omega⟩
  obtain rfl : i = 16 := by omega
  obtain ⟨c1, c2⟩ := hQ.cut
  obtain ⟨ps1, ps2⟩ := quT_size (q := q) (c := ((16 : Nat) : Int) + 1) hQ.kd c1 (by omega)
  refine goL ?_
  refine xcall rfl rfl (size_does w4 w.heap.size g (qM q (((16 : Nat) : Int) + 1)) vf ve4 vn4 nvs4 (quT n) [102] 1099511627776 hO4 (calls_q (by decide))) ?_
  rintro r w5 ⟨rfl, nvs5, hS5⟩
  rw [(qM_beg _ _).2, ps2] at hS5
  rw [ps1]
  have hO5 := hS5.o
  have htk : totalT (quT (timeN (cutN n 1099511627776).1 (((16 : Nat) : Int) + 1 + 1))).ns = took := by rw [quT_total]; exact c2
  refine goL ?_
  refine xcall rfl rfl (used_does w5 g _ vf _ _ nvs5 _ hO5.i) ?_
  rintro r w6 ⟨rfl, hE6⟩
  rw [htk]
  have hO6 := hO5.ext hE6
  obtain ⟨g1, g2⟩ := quT_gone (qM q (((16 : Nat) : Int) + 1 + 1)) (timeN (cutN n 1099511627776).1 (((16 : Nat) : Int) + 1 + 1)) rfl
  refine goL ?_
  refine xcall rfl rfl (gone_does w6 w.heap.size g _ vf _ _ nvs5 _ [102] hO6 (calls_q (by decide)) ⟨⟨[], 0⟩, List.mem_cons_self, rfl⟩) ?_
  rintro r w7 ⟨rfl, ve7, vn7, nvs7, hS7⟩
  rw [g1]
  refine goL ?_
  refine xcall rfl rfl (told7_does w7) ?_
  rintro r w8 ⟨rfl, hE8⟩
  refine goL ?_
  refine xcall rfl rfl (used_does w8 g _ vf _ _ nvs7 _ (hS7.o.ext hE8).i) ?_
  rintro r w9 ⟨rfl, hE9⟩
  rw [g2]
  have hF9 : Fr (w.heap.size ≤ ·) w1 w9 := (((((hF4.t (hS5.frB hO4)).te hE6).t (hS7.frB hO6)).te hE8).te hE9)
  have hEE : Ext w w9 := hE1.trans hF9 fun j hj hb => by have : w.heap.size ≤ j := hb; omega
  refine goL ?_
  exact tret1 rfl rfl ⟨rfl, hEE⟩
end Eng
end Go.Proofs.YtiebbecknfpdeaaGreatDoor
namespace Go.Proofs.YtiebbecknfpdeaaGreatDoor
open Go.RowKit
namespace Eng
open Wr
def lkP (j : Nat) : Str := [108, UInt8.ofNat (48 + j)]
def lkN (i : Nat) : List Str := [97] :: (List.range i).map lkP
def lkE (i : Nat) : List En := ⟨[], 0⟩ :: ⟨[97], 1⟩ :: (List.range i).map fun j => ⟨lkP j, 1⟩
def lkT (i : Nat) (r : Int) (n : Nd) : Tre := ⟨lkE i, [timeN rootN r, n]⟩
def lkF (c : Int) : Nd := madeN (kN 2) c
theorem lk_make (q : Int) : makeE (qM q 0) rootT [97] (kV 2).n = 0 ∧ makeT (qM q 0) rootT [97] (kV 2).n = lkT 0 1 (lkF 1) := ⟨by kernel_rfl, by kernel_rfl⟩
theorem lkN_len (i : Nat) : (lkN i).length = i + 1 := by simp [lkN]
theorem lk_cases {i : Nat} (h : i ≤ 5) : i = 0 ∨ i = 1 ∨ i = 2 ∨ i = 3 ∨ i = 4 ∨ i = 5 := by omega
theorem lk_find {i j : Nat} (hi : i ≤ 5) (hj : j ≤ i) (r : Int) (n : Nd) : findM (lkT i r n) ((lkN i).getD j []) = (1, 0) := by
  rcases lk_cases hi with rfl | rfl | rfl | rfl | rfl | rfl <;> rcases lk_cases (Nat.le_trans hj hi) with rfl | rfl | rfl | rfl | rfl | rfl <;> first | (exfalso; omega) | kernel_rfl
theorem lk_link {i j : Nat} (hi : i < 5) (hj : j ≤ i) (r c : Int) : linkE (qM 1000 c) (lkT i r (lkF 1)) (lkP i) ((lkN i).getD j []) = 0 ∧ linkT (qM 1000 c) (lkT i r (lkF 1)) (lkP i) ((lkN i).getD j []) = lkT (i + 1) (c + 1) (lkF 1) := by
  rcases lk_cases (Nat.le_of_lt hi) with rfl | rfl | rfl | rfl | rfl | rfl <;> rcases lk_cases (Nat.le_trans hj (Nat.le_of_lt hi)) with rfl | rfl | rfl | rfl | rfl | rfl <;> first | (exfalso; omega) | exact ⟨by kernel_rfl, by kernel_rfl⟩
def lkW (s : Str) (d : Int) : Nd := ⟨2, 0, 0, 0, d, [], [], s.length, if s = [] then [] else [⟨0, s⟩], [], 0, 0⟩
theorem lk_wr {s : Str} (hs : s.length ≤ 100) {c d : Int} (hc : 0 ≤ c) : (writeN (lkF c) 0 s).2 = 0 ∧ timeN (writeN (lkF c) 0 s).1 d = lkW s d ∧ bytesP (writeN (lkF c) 0 s).1.data = s.length := by
  have h : nodeOK (lkF c) = true := ti_made (k := 2) (by decide +kernel) hc
  have hw : s ≠ [] → wrP [] 0 s = [⟨0, s⟩] := fun h0 => wr_end (l := []) List.Pairwise.nil fun p hp => by cases hp
  have hg : ¬ (nodeOK (lkF c) = false ∨ (lkF c).kind ≠ 2 ∨ (0 : Int) < 0 ∨ (1099511627776 : Int) < 0) := fun hh => by
    rcases hh with hh | hh | hh | hh
    · rw [h] at hh; cases hh
    · exact hh rfl
    · omega
    · omega
  by_cases h0 : s = []
  · subst h0
    unfold writeN
    rw [if_neg hg, if_neg (by decide), if_pos rfl]
    exact ⟨rfl, rfl, rfl⟩
  · have hd : (lkF c).data = [] := rfl
    have hb : bytesP [(⟨0, s⟩ : Pce)] = s.length := by show s.length + 0 = _; omega
    unfold writeN
    rw [if_neg hg, if_neg (by omega), if_neg h0, hd, hw h0, if_neg (by rw [hb]; show ¬ (4000 < s.length ∨ 16 < 1); omega)]
    refine ⟨rfl, ?_, hb⟩
    unfold lkW
    rw [if_neg h0]
    show (⟨2, 0, 0, 0, d, [], [], max 0 (0 + (s.length : Int)), [⟨0, s⟩], [], 0, 0⟩ : Nd) = _
    rw [show max 0 (0 + (s.length : Int)) = s.length by omega]
theorem lk_node (i : Nat) (r : Int) (n : Nd) : nodeAt (lkT i r n) 1 = n := rfl
theorem lk_total (i : Nat) (r : Int) (n : Nd) : totalT (lkT i r n).ns = bytesP n.data := by
  show 0 + (bytesP n.data + 0) = _
  omega
theorem lk_write {i j : Nat} (hi : i ≤ 5) (hj : j ≤ i) {r c : Int} {s : Str} (hs : s.length ≤ 100) : writeE (qM 1000 c) (lkT i r (lkF 1)) ((lkN i).getD j []) 0 s = 0 ∧ writeT (qM 1000 c) (lkT i r (lkF 1)) ((lkN i).getD j []) 0 s = lkT i r (lkW s (c + 1)) := by
  have hb := qM_beg 1000 c
  have hf := lk_find hi hj r (lkF 1)
  obtain ⟨w1, w2, w3⟩ := lk_wr hs (c := 1) (d := c + 1) (by decide)
  have hg : ¬ ((begM (qM 1000 c)).1 ≠ 2 ∧ (begM (qM 1000 c)).2.1 ≠ 0) := fun h => h.2 rfl
  have he : changeE (qM 1000 (c + 1)) (lkT i r (lkF 1)) ((lkN i).getD j []) (fun n => writeN n 0 s) = 0 := by
    unfold changeE
    rw [hf, lk_node, lk_total, if_neg (by decide), if_neg (by show ¬ (2 : Int) = 1; decide), if_neg (by show ¬ (2 : Int) ≠ 2; decide), if_neg (fun h => h w1)]
    refine if_neg ?_
    show ¬ (1000 : Int) < (bytesP (lkF 1).data : Int) - bytesP (lkF 1).data + bytesP (writeN (lkF 1) 0 s).1.data
    rw [w3]
    omega
  have hsh : shortS (qM 1000 c) s = s := rfl
  constructor
  · unfold writeE
    rw [if_neg hg, hsh, hb.2, he, if_neg (by decide)]
    exact hb.1
  · unfold writeT
    rw [if_neg hg, hsh, hb.2]
    unfold changeT
    rw [if_pos he, hf, lk_node]
    show (⟨lkE i, [timeN rootN r, timeN (writeN (lkF 1) 0 s).1 (c + 1)]⟩ : Tre) = _
    rw [w2]
    rfl
/-- Metadata set. -/
theorem lk_set {i j : Nat} (hi : i ≤ 5) (hj : j ≤ i) {r c : Int} {n : Nd} {d : Nd → Nd} (hd : metaOK (d n) = true) : setE (qM 1000 c) (lkT i r n) ((lkN i).getD j []) (fun _ => 0) d = 0 ∧ setT (qM 1000 c) (lkT i r n) ((lkN i).getD j []) (fun _ => 0) d = lkT i r (d n) := by
  have hb := qM_beg 1000 c
  have hf := lk_find hi hj r n
  have he : setE (qM 1000 c) (lkT i r n) ((lkN i).getD j []) (fun _ => 0) d = 0 := by
    unfold setE
    rw [hb.1, if_neg (fun h => h rfl), hf, if_neg (fun h => h rfl), if_neg (fun h => h rfl), lk_node, hd]
    rfl
  refine ⟨he, ?_⟩
  unfold setT
  rw [if_pos he, hf, lk_node]
  rfl
def lkQ (s : Str) : Nd := ⟨2, 416, 5, 6, 77, [], [], s.length, if s = [] then [] else [⟨0, s⟩], [], 0, 0⟩
def lkA (s : Str) (d : Int) : Nd := ownN 5 6 (lkW s d)
def lkB (s : Str) (d : Int) : Nd := modeN 416 (lkA s d)
theorem clr0 : clrM 0 = 0 := by decide +kernel
theorem lk_own (s : Str) (d : Int) : lkA s d = ⟨2, 0, 5, 6, d, [], [], s.length, if s = [] then [] else [⟨0, s⟩], [], 0, 0⟩ := by
  unfold lkA ownN
  rw [if_neg (by show ¬ (2 : Int) = 1; decide)]
  show (⟨2, clrM 0, 5, 6, d, [], [], s.length, if s = [] then [] else [⟨0, s⟩], [], 0, 0⟩ : Nd) = _
  rw [clr0]
theorem lk_time (s : Str) (d : Int) : timeN (lkB s d) 77 = lkQ s := by
  unfold lkB
  rw [lk_own]
  rfl
theorem lk_meta {s : Str} {d : Int} (hd : 0 ≤ d) : metaOK (lkA s d) = true ∧ metaOK (lkB s d) = true ∧ metaOK (timeN (lkB s d) 77) = true := by
  have h1 : metaOK (lkA s d) = true := by
    rw [lk_own]
    unfold metaOK
    dsimp only
    rw [decide_eq_true hd]
    rfl
  have h2 : metaOK (lkB s d) = true := by
    unfold lkB modeN
    rw [lk_own]
    unfold metaOK
    dsimp only
    rw [decide_eq_true hd]
    rfl
  exact ⟨h1, h2, metaOK_time h2 (by decide)⟩
theorem lkQ_ok {s : Str} (hs : s.length ≤ 100) : nodeOK (lkQ s) = true := by
  have hm : metaOK (lkQ s) = true := rfl
  have hf : fileOK (lkQ s) = true := by
    rw [file_iff]
    unfold lkQ
    dsimp only
    by_cases h0 : s = []
    · subst h0
      exact ⟨by decide, by decide, by decide, by decide, List.Pairwise.nil, fun p hp => by simp at hp⟩
    · rw [if_neg h0]
      refine ⟨by omega, by omega, by simp, by show s.length + 0 ≤ _; omega, List.pairwise_singleton _ _, fun p hp => ?_⟩
      rw [List.mem_singleton.1 hp]
      exact ⟨h0, Int.le_refl _, by show (0 : Int) + (s.length : Int) ≤ _; omega⟩
  unfold nodeOK
  rw [hm, if_neg (by show ¬ ((2 : Int) = 1 ∨ (2 : Int) = 6); decide), if_pos (show (lkQ s).kind = 2 from rfl), hf]
  rfl
theorem lkQ_read {s : Str} (hs : s.length ≤ 100) : readRN (lkQ s) 0 200 = (s, 0) := by
  unfold readRN
  rw [if_neg (fun hh => by
    rcases hh with hh | hh | hh | hh | hh
    · rw [lkQ_ok hs] at hh; cases hh
    · exact hh rfl
    · omega
    · omega
    · omega)]
  have hz : (lkQ s).size = s.length := rfl
  by_cases h0 : s = []
  · subst h0; rfl
  · have hp := List.length_pos_iff.2 h0
    have hd : (lkQ s).data = [⟨0, s⟩] := by unfold lkQ; dsimp only; rw [if_neg h0]
    have hk : readK (lkQ s) 0 200 = s.length := by unfold readK; rw [hz]; omega
    rw [if_neg (by rw [hz]; omega), hk, hd, Int.toNat_natCast, clip_all (fun p hp => by rw [List.mem_singleton.1 hp]; exact ⟨h0, Int.le_refl _, Int.le_refl _⟩)]
    show (ovr (List.replicate s.length 0) (0 - 0 : Int).toNat s, (0 : Int)) = _
    have : ovr (List.replicate s.length 0) (0 - 0 : Int).toNat s = s := by
      show ovr (List.replicate s.length 0) 0 s = s
      unfold ovr
      rw [List.take_zero, List.nil_append, Nat.sub_zero, Nat.zero_add, List.length_replicate, List.take_length, List.drop_of_length_le (by rw [List.length_replicate]; omega), List.append_nil]
    rw [this]
/-- One path gone. -/
def lkG (i j : Nat) (r : Int) (n : Nd) : Tre := ⟨(lkE i).filter fun e => decide (e.path ≠ (lkN i).getD j []), [timeN rootN r, n]⟩
theorem lk_gone {i j : Nat} (hi : i ≤ 5) (hi0 : 1 ≤ i) (hj : j ≤ i) (r c : Int) (n : Nd) : goneE (qM 1000 c) (lkT i r n) ((lkN i).getD j []) = 0 ∧ goneT (qM 1000 c) (lkT i r n) ((lkN i).getD j []) = lkG i j (c + 1) n := by
  rcases lk_cases hi with rfl | rfl | rfl | rfl | rfl | rfl <;> rcases lk_cases (Nat.le_trans hj hi) with rfl | rfl | rfl | rfl | rfl | rfl <;> first | (exfalso; omega) | exact ⟨by kernel_rfl, by kernel_rfl⟩
theorem lk_get {i j x : Nat} (hi : i ≤ 5) (hj : j ≤ i) (hx : x ≤ i) (r c : Int) (n : Nd) : getE (qM 1000 c) (lkG i j r n) ((lkN i).getD x []) = (if x = j then 7 else 0) ∧ (x ≠ j → nodeAt (lkG i j r n) (findM (lkG i j r n) ((lkN i).getD x [])).1 = n) := by
  rcases lk_cases hi with rfl | rfl | rfl | rfl | rfl | rfl <;> rcases lk_cases (Nat.le_trans hj hi) with rfl | rfl | rfl | rfl | rfl | rfl <;> first | (exfalso; omega) | (rcases lk_cases (Nat.le_trans hx hi) with rfl | rfl | rfl | rfl | rfl | rfl <;> first | (exfalso; omega) | exact ⟨by kernel_rfl, fun h => by first | (exact absurd rfl h) | kernel_rfl⟩)
theorem lkN_inj {i j x : Nat} (hi : i ≤ 5) (hj : j ≤ i) (hx : x ≤ i) : (lkN i).getD x [] = (lkN i).getD j [] ↔ x = j := by
  rcases lk_cases hi with rfl | rfl | rfl | rfl | rfl | rfl <;> rcases lk_cases (Nat.le_trans hj hi) with rfl | rfl | rfl | rfl | rfl | rfl <;> first | (exfalso; omega) | (rcases lk_cases (Nat.le_trans hx hi) with rfl | rfl | rfl | rfl | rfl | rfl <;> first | (exfalso; omega) | decide +kernel)
theorem lkG_nodes {i j : Nat} (hi : i ≤ 5) (hi0 : 1 ≤ i) (hj : j ≤ i) (r : Int) (n : Nd) : (renT (lkG i j r n).ns (sortE (lkG i j r n).es)).ns.length = 2 := by
  rcases lk_cases hi with rfl | rfl | rfl | rfl | rfl | rfl <;> rcases lk_cases (Nat.le_trans hj hi) with rfl | rfl | rfl | rfl | rfl | rfl <;> first | (exfalso; omega) | kernel_rfl
theorem lkN_get {i j : Nat} (hj : j ≤ i) : (lkN i)[j]? = some ((lkN i).getD j []) := by
  rw [List.getD_eq_getElem?_getD, List.getElem?_eq_getElem (by rw [lkN_len]; omega)]
  rfl
theorem lkN_snoc (i : Nat) : lkN (i + 1) = lkN i ++ [lkP i] := by unfold lkN; rw [List.range_succ, List.map_append]; rfl
theorem lk_dec {i : Nat} (h : i < 5) : [108] ++ decU i = lkP i := by
  rcases lk_cases (Nat.le_of_lt h) with rfl | rfl | rfl | rfl | rfl | rfl <;> decide +kernel
end Eng
end Go.Proofs.YtiebbecknfpdeaaGreatDoor
