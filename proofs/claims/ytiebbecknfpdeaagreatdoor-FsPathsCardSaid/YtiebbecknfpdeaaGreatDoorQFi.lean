/-
  The filesystem's laws: FsPaths.
-/
import Derived.Test.YtiebbecknfpdeaaGreatDoorQB12a
import Derived.Test.YtiebbecknfpdeaaGreatDoorQB12b
import Derived.Test.YtiebbecknfpdeaaGreatDoorQWv
namespace Go.Proofs.YtiebbecknfpdeaaGreatDoor
open Go.RowKit
namespace Eng
def paK (u : Nat) : Int := [2, 3, 4, 5, 6, 0].getD u 0
def paN (k : Int) : Nd := if k = 3 then { kN 3 with target := [100] } else kN k
def paV (k : Int) : NdV := ⟨paN k, .slice none 0 0, .slice none 0 0, .slice none 0 0⟩
theorem paV_in (w : World) (k : Int) : NdIn w (paV k) := by
  have h : (paN k).attrs = [] ∧ (paN k).acl = [] ∧ (paN k).data = [] := by unfold paN; split <;> exact ⟨rfl, rfl, rfl⟩
  refine ⟨?_, ?_, ?_⟩
  · show Rw attC w _ (paN k).attrs; rw [h.1]; exact Rw.nil _ _ (by decide)
  · show Rw acC w _ (paN k).acl; rw [h.2.1]; exact Rw.nil _ _ (by decide)
  · show Rw pcC w _ (paN k).data; rw [h.2.2]; exact Rw.nil _ _ (by decide)
theorem paV_no (k : Int) (b : Nat) : ¬ NdN (paV k) b := fun h => by
  have h0 : (paN k).attrs = [] ∧ (paN k).acl = [] ∧ (paN k).data = [] := by unfold paN; split <;> exact ⟨rfl, rfl, rfl⟩
  rcases h with h | h | h
  · have := h.1; rw [show (paV k).n.attrs = [] from h0.1] at this; exact absurd this (by decide)
  · have := h.1; rw [show (paV k).n.acl = [] from h0.2.1] at this; exact absurd this (by decide)
  · have := h.1; rw [show (paV k).n.data = [] from h0.2.2] at this; exact absurd this (by decide)
def paP : Nat → Str
  | 0 => [119]
  | i + 1 => paP i ++ [47, 120]
theorem paP_len : ∀ i, (paP i).length = 2 * i + 1
  | 0 => rfl
  | i + 1 => by rw [paP, List.length_append, paP_len i]; simp; omega
def paT (k : Int) : Tre := makeT (qM 100 1) (tiT 1 1) [119] (paN k)
theorem pa_none : ∀ i, i < 5 → wrongM (tiT 1 1) (paP (i + 1)) = 7 := by decide +kernel
theorem pa_kind {u : Nat} (hu : u < 5) : makeE (qM 100 1) (tiT 1 1) [119] (paN (paK u)) = 0 ∧ (∀ i, i < 5 → wrongM (paT (paK u)) (paP (i + 1)) = 9) ∧ findM (paT (paK u)) [100] = (1, 0) ∧ (nodeAt (paT (paK u)) 1).kind = 1 ∧ (paT (paK u)).es.length = 3 ∧ (paT (paK u)).ns.length = 3 ∧ bytesP (paN (paK u)).data ≤ 1000000 := by
  have : u = 0 ∨ u = 1 ∨ u = 2 ∨ u = 3 ∨ u = 4 := by omega
  rcases this with rfl | rfl | rfl | rfl | rfl <;> decide +kernel
theorem pa_cell {u : Nat} (hu : u < 6) : (#[.int .i64 2, .int .i64 3, .int .i64 4, .int .i64 5, .int .i64 6, .int .i64 0] : Array Value)[u]? = some (.int .i64 (paK u)) ∧ (u < 5 ↔ paK u ≠ 0) := by
  have : u = 0 ∨ u = 1 ∨ u = 2 ∨ u = 3 ∨ u = 4 ∨ u = 5 := by omega
  rcases this with rfl | rfl | rfl | rfl | rfl | rfl <;> exact ⟨rfl, by decide⟩
theorem pa_bad {q : Int} {t : Tre} {p : Str} {want : Int} (h : wrongM t p = want) (hw : want ≠ 0) : (∀ c, getE (qM q c) t p = want) ∧ (∀ c, listE (qM q c) t p = want) ∧ (∀ c n, makeE (qM q c) t p n = want ∧ makeT (qM q c) t p n = t) ∧ (∀ c pos s, writeE (qM q c) t p pos s = want ∧ writeT (qM q c) t p pos s = t) ∧ (∀ c, goneE (qM q c) t p = want ∧ goneT (qM q c) t p = t) := by
  have hf : findM t p = (0, want) := by unfold findM; rw [h, if_pos hw]
  have hb : ∀ c, (begM (qM q c)).2.1 = 0 := fun c => rfl
  have hl : ∀ c, listE (qM q c) t p = want := fun c => by unfold listE; rw [hb, if_pos rfl, hf]; exact if_neg hw
  have hm : ∀ c n, makeE (qM q c) t p n = want := fun c n => by unfold makeE; rw [hb, if_neg (fun h => h rfl), h, if_pos hw]
  have hg : ∀ c, goneE (qM q c) t p = want := fun c => by unfold goneE; rw [hb, if_neg (fun h => h rfl), hf, if_pos hw]
  have hch : ∀ c f, changeE (qM q c) t p f = want := fun c f => by unfold changeE; rw [hf, if_pos hw]
  have hng : ∀ c, ¬ ((begM (qM q c)).1 ≠ 2 ∧ (begM (qM q c)).2.1 ≠ 0) := fun c h => h.2 rfl
  refine ⟨fun c => by unfold getE; rw [hb, if_pos rfl, hf], hl, fun c n => ⟨hm c n, make_same (by rw [hm]; exact hw)⟩, fun c pos s => ⟨?_, ?_⟩, fun c => ⟨hg c, gone_same (by rw [hg]; exact hw)⟩⟩
  · unfold writeE
    rw [if_neg (hng c), (qM_beg _ _).2, hch, if_pos hw]
  · unfold writeT
    rw [if_neg (hng c), (qM_beg _ _).2]
    unfold changeT
    rw [hch, if_neg hw]
theorem pa_link {q c : Int} {t : Tre} {p : Str} (hD : findM t [100] = (1, 0) ∧ (nodeAt t 1).kind = 1) : linkE (qM q c) t p [100] = 8 ∧ linkT (qM q c) t p [100] = t := by
  have he : linkE (qM q c) t p [100] = 8 := by
    unfold linkE
    rw [(qM_beg _ _).1, if_neg (fun h => h rfl), hD.1, if_neg (fun h => h rfl), if_pos hD.2]
  refine ⟨he, ?_⟩
  unfold linkT
  rw [he, if_neg (by decide)]
attribute [local irreducible] xs T
set_option maxRecDepth 20000 in
set_option maxHeartbeats 32000000 in
theorem fsPaths_core (hmk : MkD) (w : World) (zk zd : Int) : Does Tryz.prog 10 #[.int .i64 zk, .int .i64 zd] w fun r w' => r = .bool true ∧ Ext w w' := by
  refine does2 Tryz.func10 rfl (by kernel_rfl) ?_
  have hub := uN_lt zk
  have hud := uN_lt zd
  obtain ⟨u, hu⟩ : ∃ u : Nat, u = uN zk % 6 := ⟨_, rfl⟩
  obtain ⟨d, hd⟩ : ∃ d : Nat, d = uN zd % 5 := ⟨_, rfl⟩
  have hu6 : u < 6 := by omega
  have hd5 : d < 5 := by omega
  have huz : ((uN zk : Nat) : Int) % 6 = (u : Int) := by omega
  have hdz : ((uN zd : Nat) : Int) % 5 = (d : Int) := by omega
  refine goL ?_
  refine xcall rfl rfl (new_does w (.slice none 0 0) 100 [] (Rw.nil _ _ (by decide)) (by decide)) ?_
  rintro r w1 ⟨hE1, hr⟩
  rcases hr with ⟨hr, _⟩ | ⟨_, g, vf, ve, vn, nvs, rfl, hO1⟩
  · exact absurd rfl hr
  have hO1 : FsO w1 w.heap.size g (qM 100 0) vf ve vn nvs rootT := hO1
  refine goL ?_
  refine xbs sl_ints rfl rfl (by decide) (by decide) (fun u hu => by
    simp only [List.mem_cons, List.not_mem_nil, or_false] at hu
    rcases hu with rfl | rfl | rfl | rfl | rfl | rfl <;> rfl) (fun w2 hB2 hE2 hs2 => ?_)
  obtain ⟨pc1, pc2⟩ := pa_cell hu6
  have k0 : w2.cell? ⟨w1.heap.size, u, none⟩ = some (.int .i64 (paK u)) := by rw [Blk.cell hB2]; exact pc1
  obtain ⟨k, hk⟩ : ∃ k, k = paK u := ⟨_, rfl⟩
  rw [← hk] at k0 pc2
  have hO2 := hO1.ext hE2
  repeat' (first | refine xcv (r := ((uN zk : Nat) : Int)) rfl rfl rfl (uN_eq zk) ?_ | refine xisq u u rfl rfl rfl (by omega) (by omega) (by omega) ?_ | refine go1LU ?_ | fail)
  refine xbd (cells := (ndC (kV 1)).toArray) rfl (by kernel_rfl) ?_
  refine goL ?_
  refine xcall rfl rfl (make_does w2 w.heap.size g (qM 100 0) vf ve vn nvs rootT [100] (kV 1) hO2 (kV_in _ _) (fun b hb => absurd hb (kV_no _ _)) (by decide) (by decide) (by decide) (by decide)) ?_
  rintro r w3 ⟨rfl, ve3, vn3, nvs3, hS3⟩
  have e1 : makeE (qM 100 0) rootT [100] (kV 1).n = 0 ∧ makeT (qM 100 0) rootT [100] (kV 1).n = tiT 1 1 := ⟨by kernel_rfl, by kernel_rfl⟩
  rw [e1.2, (qM_beg _ _).2] at hS3
  rw [e1.1]
  have hO3 : FsO w3 w.heap.size g (qM 100 1) vf ve3 vn3 nvs3 (tiT 1 1) := hS3.o
  have hF13 : Fr (w.heap.size ≤ ·) w1 w3 := hE2.fr.t (hS3.frB hO2)
  have hG1 : FsG (tiT 1 1) := by rw [← e1.2]; exact make_fsg (may_fsg rootT_may) (by decide)
  by_cases hk0 : k = 0
  · obtain ⟨T, hT⟩ : ∃ T, T = tiT 1 1 := ⟨_, rfl⟩
    have hP : ∀ i, i < 5 → wrongM T (paP (i + 1)) = 7 := by rw [hT]; exact pa_none
    have hD : findM T [100] = (1, 0) ∧ (nodeAt T 1).kind = 1 := by rw [hT]; exact ⟨by kernel_rfl, rfl⟩
    have hl3 : T.es.length ≤ 3 ∧ T.ns.length ≤ 3 := by rw [hT]; exact ⟨by decide, by decide⟩
    rw [← hT] at hO3 hG1
    obtain ⟨want, hwt⟩ : ∃ want : Int, want = 7 := ⟨_, rfl⟩
    have hw : want ≠ 0 := by omega
    rw [← hwt] at hP
    obtain ⟨c, hc⟩ : ∃ c : Int, c = 1 := ⟨_, rfl⟩
    rw [← hc] at hO3
    have hOa := hO3
    have hFa := hF13
    have hGa := hG1
    obtain ⟨l1, l2⟩ := hl3
    refine goL ?_

    have hcI : ∀ d : Int, 0 ≤ d → d ≤ 10 → 0 ≤ (qM 100 (c + d)).calls ∧ (qM 100 (c + d)).calls ≤ 4000000000000000000 := fun d h1 h2 => by show 0 ≤ c + d ∧ c + d ≤ _; omega
    refine tloop (α := Nat) (fun i => [(1, .int .i64 zd), (5, .pointer (some ⟨g, 0, none⟩)), (7, .int .i64 want), (9, .string (su (paP i))), (10, .int .u64 (i : Int))]) (fun i w' => w3 = w' ∧ i ≤ d + 1) (fun i => d + 1 - i) 0 (sub ⟨rfl, rfl, ieq (by omega), rfl, rfl⟩) ⟨rfl, Nat.zero_le _⟩ ?_
    rintro i y2 ⟨rfl, hi⟩
    have hpl := paP_len i
    by_cases hlt : i ≤ d
    · repeat' (first | refine xcv (r := ((uN zd : Nat) : Int)) rfl rfl rfl (uN_eq zd) ?_ | refine xuadd (b := [47, 120]) rfl rfl (by show _ + 2 ≤ _; omega) ?_ | refine go1LU ?_ | fail)
      exact tfin ⟨i + 1, sub ⟨rfl, rfl, rfl, rfl, ieq (by omega)⟩, ⟨rfl, by omega⟩, by show d + 1 - (i + 1) < d + 1 - i; omega⟩
    obtain rfl : i = d + 1 := by omega
    obtain ⟨p, hp⟩ : ∃ p, p = paP (d + 1) := ⟨_, rfl⟩
    rw [← hp]
    have hwp : wrongM T p = want := by rw [hp]; exact hP d hd5
    obtain ⟨x1, x2, x3, x4, x5⟩ := pa_bad (q := 100) (t := T) hwp hw
    obtain ⟨x6, x7⟩ := pa_link (q := 100) (t := T) hD
    have hnT := good_norm hGa.f.g
    repeat' (first | refine xcv (r := ((uN zd : Nat) : Int)) rfl rfl rfl (uN_eq zd) ?_ | refine go1LU ?_ | fail)
    refine xcall rfl rfl (tree_does w3 g _ vf ve3 vn3 nvs3 T _ hOa.i hnT) ?_
    rintro r wb ⟨veb, vnb, nvsb, rfl, hTb, hEb⟩
    obtain ⟨Ab, cb, rfl, _, _⟩ := hTb.e.form
    obtain ⟨Nb, db, rfl, _, _⟩ := hTb.n.form
    have hOb := hOa.ext hEb
    refine goL ?_
    refine xalloc (z := .agg #[.slice none 0 0, .slice none 0 0]) (by kernel_rfl) (fun wc hBc hEc hsc => ?_)
    refine xsta hBc rfl rfl (by kernel_rfl) rfl (one_cells (l := [.slice Ab (renT T.ns (sortE T.es)).es.length cb, .slice Nb nvsb.length db]) rfl) (fun we hBe hFe => ?_)
    have hEbe : Ext wb we := hEc.trans hFe fun j hj e => by have : j = wb.heap.size := e; omega
    have hOe := hOb.ext hEbe
    have zb : wb.heap.size < we.heap.size := hBe.lt
    have zab := hEb.size
    have hfr : ∀ b, w3.heap.size ≤ b → b < we.heap.size → ¬ FsK g ve3 vn3 b := fun b h1 _ hK => by have := (hOa.ltK hK).2; omega
    refine goL ?_
    refine xcall rfl rfl (get_does we g (qM 100 c) vf ve3 vn3 nvs3 T p hOe.i (by have := hcI 0 (by decide) (by decide); rwa [Int.add_zero] at this)) ?_
    rintro r y3 ⟨xg, rfl, hxg, _, hI3, hF3⟩
    rw [x1 c]
    rw [(qM_beg _ _).2] at hI3
    have hO3 := hOe.put hF3 hI3 rfl
    refine goL ?_
    refine xalloc (z := .agg nd0) (by kernel_rfl) (fun y4 hB4 hE4 hs4 => ?_)
    refine xsta hB4 rfl rfl (by kernel_rfl) rfl (one_cells (l := ndC xg) (List.all_eq_true.2 (ndC_one hxg.in))) (fun y5 hB5 hF5 => ?_)
    have hE35 : Ext y3 y5 := hE4.trans hF5 fun j hj e => by have : j = y3.heap.size := e; omega
    have hO5 := hO3.ext hE35
    refine goL ?_
    refine xcall rfl rfl (list_does y5 g (qM 100 (c + 1)) vf ve3 vn3 nvs3 T p hO5.i (hcI 1 (by decide) (by decide))) ?_
    rintro r y6 ⟨vl, rfl, _, hI6, hF6⟩
    rw [x2 (c + 1)]
    rw [(qM_beg _ _).2] at hI6
    have hO6 := hO5.put hF6 hI6 rfl
    have hFe6 : Fr (· = g) we y6 := (hF3.te hE35).t hF6
    have hgB := hOa.b
    have hgl := hOa.i.k.lt
    have hBt6 := hBe.fr hFe6 (show ¬ wb.heap.size = g by omega)
    have hTw6 : TrV y6 (.slice Ab (renT T.ns (sortE T.es)).es.length cb) (.slice Nb nvsb.length db) nvsb (renT T.ns (sortE T.es)) := (hTb.v.ext hEbe).fr hFe6 fun b hb e => by have := (hTb.lt hb).1; have : b = g := e; omega
    have hfr6 : ∀ b, w3.heap.size ≤ b → b < we.heap.size → ¬ FsK g ve3 vn3 b := hfr
    have z6 := hFe6.size
    have hd6 := Fr.drew noneB y6
    have hE6d : Ext y6 y6.drew := hd6
    have hO6d := hO6.ext hE6d
    have hBt6d := hBt6.ext hE6d
    refine goL ?_
    refine tdrawH [107] (fun w' => Blk w' wb.heap.size 29 #[.slice Ab (renT T.ns (sortE T.es)).es.length cb, .slice Nb nvsb.length db]) (by kernel_rfl) (by decide +kernel) hBt6d ?_
    refine goL ?_
    refine xcall rfl rfl (told7_does y6.drew) ?_ (fun r w' h => hBt6d.ext h.2)
    rintro r y7 ⟨rfl, hE7⟩
    have hO7 := hO6d.ext hE7
    have hBt7 := hBt6d.ext hE7
    have hTw7 := (hTw6.ext hE6d).ext hE7
    refine goL ?_
    refine xbd (cells := (ndC (kV 6)).toArray) rfl (by kernel_rfl) ?_
    refine goL ?_
    refine xcall rfl rfl (make_does y7 w.heap.size g (qM 100 (c + 1 + 1)) vf ve3 vn3 nvs3 T p (kV 6) hO7 (kV_in _ _) (fun b hb => absurd hb (kV_no _ _)) (by decide) (by have := hcI 2 (by decide) (by decide); rwa [show c + 2 = c + 1 + 1 by omega] at this) (by omega) (by omega)) ?_ (fun r w' h => by
      obtain ⟨_, _, _, _, h⟩ := h
      exact hBt7.fr h.f (hfr6 _ zab zb))
    rintro r y8 ⟨rfl, ve8, vn8, nvs8, hS8⟩
    rw [(x3 _ (kV 6).n).2, (qM_beg _ _).2] at hS8
    rw [(x3 _ (kV 6).n).1]
    have z7 := hE7.size
    have zd6 := hE6d.size
    have hfr8 : ∀ b, w3.heap.size ≤ b → b < we.heap.size → ¬ FsK g ve8 vn8 b := fun b h1 h2 => hS8.keep (by omega) (hfr6 b h1 h2)
    have hBt8 := hBt7.fr hS8.f (hfr6 _ zab zb)
    have hTw8 := hTw7.fr hS8.f fun b hb => hfr6 b (hTb.lt hb).1 (by have := (hTb.lt hb).2; omega)
    have z8 := hS8.f.size
    refine goL ?_
    refine xcall rfl rfl (write_does y8 w.heap.size g (qM 100 (c + 1 + 1 + 1)) vf ve8 vn8 nvs8 T p 0 [97] hS8.o (by have := hcI 3 (by decide) (by decide); rwa [show c + 3 = c + 1 + 1 + 1 by omega] at this) (by decide) (by decide)) ?_ (fun r w' h => by
      obtain ⟨_, _, h⟩ := h
      exact hBt8.fr h.f (hfr8 _ zab zb))
    rintro r y9 ⟨rfl, nvs9, hS9⟩
    rw [(x4 _ 0 [97]).2, (qM_beg _ _).2] at hS9
    rw [(x4 _ 0 [97]).1]
    have hBt9 := hBt8.fr hS9.f (hfr8 _ zab zb)
    have hTw9 := hTw8.fr hS9.f fun b hb => hfr8 b (hTb.lt hb).1 (by have := (hTb.lt hb).2; omega)
    have z9 := hS9.f.size
    refine goL ?_
    refine xcall rfl rfl (gone_does y9 w.heap.size g (qM 100 (c + 1 + 1 + 1 + 1)) vf ve8 vn8 nvs9 T p hS9.o (by have := hcI 4 (by decide) (by decide); rwa [show c + 4 = c + 1 + 1 + 1 + 1 by omega] at this) (fs_root hGa.f)) ?_ (fun r w' h => by
      obtain ⟨_, _, _, _, h⟩ := h
      exact hBt9.fr h.f (hfr8 _ zab zb))
    rintro r y10 ⟨rfl, ve10, vn10, nvs10, hS10⟩
    rw [(x5 _).2, (qM_beg _ _).2] at hS10
    rw [(x5 _).1]
    have hfr10 : ∀ b, w3.heap.size ≤ b → b < we.heap.size → ¬ FsK g ve10 vn10 b := fun b h1 h2 => hS10.keep (by omega) (hfr8 b h1 h2)
    have hBt10 := hBt9.fr hS10.f (hfr8 _ zab zb)
    have hTw10 := hTw9.fr hS10.f fun b hb => hfr8 b (hTb.lt hb).1 (by have := (hTb.lt hb).2; omega)
    have z10 := hS10.f.size
    refine goL ?_
    refine xcall rfl rfl (link_does y10 w.heap.size g (qM 100 (c + 1 + 1 + 1 + 1 + 1)) vf ve10 vn10 nvs10 T p [100] hS10.o (by have := hcI 5 (by decide) (by decide); rwa [show c + 5 = c + 1 + 1 + 1 + 1 + 1 by omega] at this) (by omega)) ?_ (fun r w' h => by
      obtain ⟨_, _, _, h⟩ := h
      exact hBt10.fr h.f (hfr10 _ zab zb))
    rintro r y11 ⟨rfl, ve11, nvs11, hS11⟩
    rw [x7, (qM_beg _ _).2] at hS11
    rw [x6]
    have hBt11 := hBt10.fr hS11.f (hfr10 _ zab zb)
    have hTw11 := hTw10.fr hS11.f fun b hb => hfr10 b (hTb.lt hb).1 (by have := (hTb.lt hb).2; omega)
    refine goL ?_
    refine xcall rfl rfl (tree_does y11 g _ vf _ _ nvs11 T _ hS11.o.i hnT) ?_ (fun r w' h => by obtain ⟨_, _, _, _, _, h⟩ := h; exact hBt11.ext h)
    rintro r y12 ⟨ve12, vn12, nvs12, rfl, hT12, hE12⟩
    have hBt12 := hBt11.ext hE12
    refine goL ?_
    refine xldzh (cs := [.slice Ab (renT T.ns (sortE T.es)).es.length cb, .slice Nb nvsb.length db]) rfl (by kernel_rfl) (fun w' (h : Blk w' _ _ _) j u hu => by rw [Nat.zero_add, h.cell, List.getElem?_toArray]; exact hu) ?_
    refine goL ?_
    refine xcall rfl rfl (alike_does y12 _ _ _ _ nvs12 nvsb _ _ hT12.v (hTw11.ext hE12)) ?_ (fun r w' h => hBt12.ext h.2)
    rintro r y13 ⟨rfl, hE13⟩
    rw [alikeT_same]
    have hBt13 := hBt12.ext hE13
    refine goL ?_
    refine xcall rfl rfl (hmk y13 (.slice none 0 0) [] ⟨none, 0, rfl, Nat.le_refl _, by decide, fun h => absurd h (Nat.not_lt_zero _)⟩) ?_ (fun r w' h => by obtain ⟨_, _, _, _, _, h⟩ := h; exact hBt13.ext h)
    rintro r y14 ⟨ve14, vn14, nvs14, rfl, hT14, hE14⟩
    obtain ⟨A14, c14, rfl, _, _, _⟩ := hT14.e.op enC_len
    rw [show (mkT ([].map uN)).es.length = 1 by decide +kernel]
    have hgBf : ∀ {a b : World}, Fr (· = g) a b → Fr (w.heap.size ≤ ·) a b := fun h => h.mono fun b _ hb => by have : b = g := hb; show w.heap.size ≤ b; omega
    have hFF : Fr (w.heap.size ≤ ·) w1 y14 := ((((((((((hFa.te hEb).te hEbe).t (hgBf hFe6)).te hE6d).te hE7).t (hS8.frB hO7)).t (hS9.frB hS8.o)).t (hS10.frB hS9.o)).t (hS11.frB hS10.o)).te ((hE12.t hE13).t hE14))
    have hEE : Ext w y14 := hE1.trans hFF fun j hj hb => by have : w.heap.size ≤ j := hb; omega
    repeat' (first | refine xflde rfl ?_ | refine go1L ?_ | fail)
    exact tret1 rfl rfl ⟨rfl, hEE⟩
  by_cases hk3 : k = 3
  · have hu5 : u < 5 := pc2.2 hk0
    obtain ⟨q1, q2, q3, q4, q5, q6, q7⟩ := pa_kind hu5
    rw [← hk] at q1 q2 q3 q4 q5 q6 q7
    have hG2 : FsG (paT k) := make_fsg hG1 (by decide)
    refine goL ?_
    refine xbd (cells := (ndC (kV k)).toArray) rfl (by kernel_rfl) ?_
    refine goL ?_
    refine xalloc (z := .agg nd0) (by kernel_rfl) (fun w4 hB4 hE4 hs4 => ?_)
    refine xsta hB4 rfl rfl (by kernel_rfl) rfl (one_cells (l := ndC (kV k)) rfl) (fun w5 hB5 hF5 => ?_)
    have hE35 : Ext w3 w5 := hE4.trans hF5 fun j hj e => by have : j = w3.heap.size := e; omega
    refine goL ?_
    refine xstb hB5 rfl rfl (by kernel_rfl) rfl rfl (fun w6 hB6 hF6 => ?_)
    have hE36 : Ext w3 w6 := hE35.trans hF6 fun j hj e => by have : j = w3.heap.size := e; omega
    have hBn : Blk w6 w3.heap.size 67 (ndC (paV k)).toArray := by rw [show paV k = ⟨{ kN k with target := [100] }, .slice none 0 0, .slice none 0 0, .slice none 0 0⟩ by unfold paV paN; rw [if_pos hk3, hk3]]; exact hB6
    have hO6 := hO3.ext hE36
    refine goL ?_
    refine xlda (t := 67) hBn rfl rfl ?_
    refine goL ?_
    refine xcall rfl rfl (make_does w6 w.heap.size g (qM 100 1) vf ve3 vn3 nvs3 (tiT 1 1) [119] (paV k) hO6 (paV_in _ _) (fun b hb => absurd hb (paV_no _ _)) q7 (by decide) (by decide) (by decide)) ?_
    rintro r w7 ⟨rfl, ve7, vn7, nvs7, hS7⟩
    rw [show (paV k).n = paN k from rfl, (qM_beg _ _).2] at hS7
    rw [show (paV k).n = paN k from rfl, q1]
    have hO7 : FsO w7 w.heap.size g (qM 100 2) vf ve7 vn7 nvs7 (paT k) := hS7.o
    have hFa : Fr (w.heap.size ≤ ·) w1 w7 := (hF13.te hE36).t (hS7.frB hO6)
    obtain ⟨T, hT⟩ : ∃ T, T = paT k := ⟨_, rfl⟩
    rw [← hT] at hO7 hG2 q2 q3 q4 q5 q6
    have hP := q2
    have hD := And.intro q3 q4
    obtain ⟨want, hwt⟩ : ∃ want : Int, want = 9 := ⟨_, rfl⟩
    have hw : want ≠ 0 := by omega
    rw [← hwt] at hP
    obtain ⟨c, hc⟩ : ∃ c : Int, c = 2 := ⟨_, rfl⟩
    rw [← hc] at hO7
    have hOa := hO7
    have hGa := hG2
    obtain ⟨l1, l2⟩ : T.es.length ≤ 3 ∧ T.ns.length ≤ 3 := ⟨by omega, by omega⟩
    refine goL ?_
    have hcI : ∀ d : Int, 0 ≤ d → d ≤ 10 → 0 ≤ (qM 100 (c + d)).calls ∧ (qM 100 (c + d)).calls ≤ 4000000000000000000 := fun d h1 h2 => by show 0 ≤ c + d ∧ c + d ≤ _; omega
    refine tloop (α := Nat) (fun i => [(1, .int .i64 zd), (5, .pointer (some ⟨g, 0, none⟩)), (7, .int .i64 want), (9, .string (su (paP i))), (10, .int .u64 (i : Int))]) (fun i w' => w7 = w' ∧ i ≤ d + 1) (fun i => d + 1 - i) 0 (sub ⟨rfl, rfl, ieq (by omega), rfl, rfl⟩) ⟨rfl, Nat.zero_le _⟩ ?_
    rintro i y2 ⟨rfl, hi⟩
    have hpl := paP_len i
    by_cases hlt : i ≤ d
    · repeat' (first | refine xcv (r := ((uN zd : Nat) : Int)) rfl rfl rfl (uN_eq zd) ?_ | refine xuadd (b := [47, 120]) rfl rfl (by show _ + 2 ≤ _; omega) ?_ | refine go1LU ?_ | fail)
      exact tfin ⟨i + 1, sub ⟨rfl, rfl, rfl, rfl, ieq (by omega)⟩, ⟨rfl, by omega⟩, by show d + 1 - (i + 1) < d + 1 - i; omega⟩
    obtain rfl : i = d + 1 := by omega
    obtain ⟨p, hp⟩ : ∃ p, p = paP (d + 1) := ⟨_, rfl⟩
    rw [← hp]
    have hwp : wrongM T p = want := by rw [hp]; exact hP d hd5
    obtain ⟨x1, x2, x3, x4, x5⟩ := pa_bad (q := 100) (t := T) hwp hw
    obtain ⟨x6, x7⟩ := pa_link (q := 100) (t := T) hD
    have hnT := good_norm hGa.f.g
    repeat' (first | refine xcv (r := ((uN zd : Nat) : Int)) rfl rfl rfl (uN_eq zd) ?_ | refine go1LU ?_ | fail)
    refine xcall rfl rfl (tree_does w7 g _ vf ve7 vn7 nvs7 T _ hOa.i hnT) ?_
    rintro r wb ⟨veb, vnb, nvsb, rfl, hTb, hEb⟩
    obtain ⟨Ab, cb, rfl, _, _⟩ := hTb.e.form
    obtain ⟨Nb, db, rfl, _, _⟩ := hTb.n.form
    have hOb := hOa.ext hEb
    refine goL ?_
    refine xalloc (z := .agg #[.slice none 0 0, .slice none 0 0]) (by kernel_rfl) (fun wc hBc hEc hsc => ?_)
    refine xsta hBc rfl rfl (by kernel_rfl) rfl (one_cells (l := [.slice Ab (renT T.ns (sortE T.es)).es.length cb, .slice Nb nvsb.length db]) rfl) (fun we hBe hFe => ?_)
    have hEbe : Ext wb we := hEc.trans hFe fun j hj e => by have : j = wb.heap.size := e; omega
    have hOe := hOb.ext hEbe
    have zb : wb.heap.size < we.heap.size := hBe.lt
    have zab := hEb.size
    have hfr : ∀ b, w7.heap.size ≤ b → b < we.heap.size → ¬ FsK g ve7 vn7 b := fun b h1 _ hK => by have := (hOa.ltK hK).2; omega
    refine goL ?_
    refine xcall rfl rfl (get_does we g (qM 100 c) vf ve7 vn7 nvs7 T p hOe.i (by have := hcI 0 (by decide) (by decide); rwa [Int.add_zero] at this)) ?_
    rintro r y3 ⟨xg, rfl, hxg, _, hI3, hF3⟩
    rw [x1 c]
    rw [(qM_beg _ _).2] at hI3
    have hO3 := hOe.put hF3 hI3 rfl
    refine goL ?_
    refine xalloc (z := .agg nd0) (by kernel_rfl) (fun y4 hB4 hE4 hs4 => ?_)
    refine xsta hB4 rfl rfl (by kernel_rfl) rfl (one_cells (l := ndC xg) (List.all_eq_true.2 (ndC_one hxg.in))) (fun y5 hB5 hF5 => ?_)
    have hE35 : Ext y3 y5 := hE4.trans hF5 fun j hj e => by have : j = y3.heap.size := e; omega
    have hO5 := hO3.ext hE35
    refine goL ?_
    refine xcall rfl rfl (list_does y5 g (qM 100 (c + 1)) vf ve7 vn7 nvs7 T p hO5.i (hcI 1 (by decide) (by decide))) ?_
    rintro r y6 ⟨vl, rfl, _, hI6, hF6⟩
    rw [x2 (c + 1)]
    rw [(qM_beg _ _).2] at hI6
    have hO6 := hO5.put hF6 hI6 rfl
    have hFe6 : Fr (· = g) we y6 := (hF3.te hE35).t hF6
    have hgB := hOa.b
    have hgl := hOa.i.k.lt
    have hBt6 := hBe.fr hFe6 (show ¬ wb.heap.size = g by omega)
    have hTw6 : TrV y6 (.slice Ab (renT T.ns (sortE T.es)).es.length cb) (.slice Nb nvsb.length db) nvsb (renT T.ns (sortE T.es)) := (hTb.v.ext hEbe).fr hFe6 fun b hb e => by have := (hTb.lt hb).1; have : b = g := e; omega
    have hfr6 : ∀ b, w7.heap.size ≤ b → b < we.heap.size → ¬ FsK g ve7 vn7 b := hfr
    have z6 := hFe6.size
    have hd6 := Fr.drew noneB y6
    have hE6d : Ext y6 y6.drew := hd6
    have hO6d := hO6.ext hE6d
    have hBt6d := hBt6.ext hE6d
    refine goL ?_
    refine tdrawH [107] (fun w' => Blk w' wb.heap.size 29 #[.slice Ab (renT T.ns (sortE T.es)).es.length cb, .slice Nb nvsb.length db]) (by kernel_rfl) (by decide +kernel) hBt6d ?_
    refine goL ?_
    refine xcall rfl rfl (told7_does y6.drew) ?_ (fun r w' h => hBt6d.ext h.2)
    rintro r y7 ⟨rfl, hE7⟩
    have hO7 := hO6d.ext hE7
    have hBt7 := hBt6d.ext hE7
    have hTw7 := (hTw6.ext hE6d).ext hE7
    refine goL ?_
    refine xbd (cells := (ndC (kV 6)).toArray) rfl (by kernel_rfl) ?_
    refine goL ?_
    refine xcall rfl rfl (make_does y7 w.heap.size g (qM 100 (c + 1 + 1)) vf ve7 vn7 nvs7 T p (kV 6) hO7 (kV_in _ _) (fun b hb => absurd hb (kV_no _ _)) (by decide) (by have := hcI 2 (by decide) (by decide); rwa [show c + 2 = c + 1 + 1 by omega] at this) (by omega) (by omega)) ?_ (fun r w' h => by
      obtain ⟨_, _, _, _, h⟩ := h
      exact hBt7.fr h.f (hfr6 _ zab zb))
    rintro r y8 ⟨rfl, ve8, vn8, nvs8, hS8⟩
    rw [(x3 _ (kV 6).n).2, (qM_beg _ _).2] at hS8
    rw [(x3 _ (kV 6).n).1]
    have z7 := hE7.size
    have zd6 := hE6d.size
    have hfr8 : ∀ b, w7.heap.size ≤ b → b < we.heap.size → ¬ FsK g ve8 vn8 b := fun b h1 h2 => hS8.keep (by omega) (hfr6 b h1 h2)
    have hBt8 := hBt7.fr hS8.f (hfr6 _ zab zb)
    have hTw8 := hTw7.fr hS8.f fun b hb => hfr6 b (hTb.lt hb).1 (by have := (hTb.lt hb).2; omega)
    have z8 := hS8.f.size
    refine goL ?_
    refine xcall rfl rfl (write_does y8 w.heap.size g (qM 100 (c + 1 + 1 + 1)) vf ve8 vn8 nvs8 T p 0 [97] hS8.o (by have := hcI 3 (by decide) (by decide); rwa [show c + 3 = c + 1 + 1 + 1 by omega] at this) (by decide) (by decide)) ?_ (fun r w' h => by
      obtain ⟨_, _, h⟩ := h
      exact hBt8.fr h.f (hfr8 _ zab zb))
    rintro r y9 ⟨rfl, nvs9, hS9⟩
    rw [(x4 _ 0 [97]).2, (qM_beg _ _).2] at hS9
    rw [(x4 _ 0 [97]).1]
    have hBt9 := hBt8.fr hS9.f (hfr8 _ zab zb)
    have hTw9 := hTw8.fr hS9.f fun b hb => hfr8 b (hTb.lt hb).1 (by have := (hTb.lt hb).2; omega)
    have z9 := hS9.f.size
    refine goL ?_
    refine xcall rfl rfl (gone_does y9 w.heap.size g (qM 100 (c + 1 + 1 + 1 + 1)) vf ve8 vn8 nvs9 T p hS9.o (by have := hcI 4 (by decide) (by decide); rwa [show c + 4 = c + 1 + 1 + 1 + 1 by omega] at this) (fs_root hGa.f)) ?_ (fun r w' h => by
      obtain ⟨_, _, _, _, h⟩ := h
      exact hBt9.fr h.f (hfr8 _ zab zb))
    rintro r y10 ⟨rfl, ve10, vn10, nvs10, hS10⟩
    rw [(x5 _).2, (qM_beg _ _).2] at hS10
    rw [(x5 _).1]
    have hfr10 : ∀ b, w7.heap.size ≤ b → b < we.heap.size → ¬ FsK g ve10 vn10 b := fun b h1 h2 => hS10.keep (by omega) (hfr8 b h1 h2)
    have hBt10 := hBt9.fr hS10.f (hfr8 _ zab zb)
    have hTw10 := hTw9.fr hS10.f fun b hb => hfr8 b (hTb.lt hb).1 (by have := (hTb.lt hb).2; omega)
    have z10 := hS10.f.size
    refine goL ?_
    refine xcall rfl rfl (link_does y10 w.heap.size g (qM 100 (c + 1 + 1 + 1 + 1 + 1)) vf ve10 vn10 nvs10 T p [100] hS10.o (by have := hcI 5 (by decide) (by decide); rwa [show c + 5 = c + 1 + 1 + 1 + 1 + 1 by omega] at this) (by omega)) ?_ (fun r w' h => by
      obtain ⟨_, _, _, h⟩ := h
      exact hBt10.fr h.f (hfr10 _ zab zb))
    rintro r y11 ⟨rfl, ve11, nvs11, hS11⟩
    rw [x7, (qM_beg _ _).2] at hS11
    rw [x6]
    have hBt11 := hBt10.fr hS11.f (hfr10 _ zab zb)
    have hTw11 := hTw10.fr hS11.f fun b hb => hfr10 b (hTb.lt hb).1 (by have := (hTb.lt hb).2; omega)
    refine goL ?_
    refine xcall rfl rfl (tree_does y11 g _ vf _ _ nvs11 T _ hS11.o.i hnT) ?_ (fun r w' h => by obtain ⟨_, _, _, _, _, h⟩ := h; exact hBt11.ext h)
    rintro r y12 ⟨ve12, vn12, nvs12, rfl, hT12, hE12⟩
    have hBt12 := hBt11.ext hE12
    refine goL ?_
    refine xldzh (cs := [.slice Ab (renT T.ns (sortE T.es)).es.length cb, .slice Nb nvsb.length db]) rfl (by kernel_rfl) (fun w' (h : Blk w' _ _ _) j u hu => by rw [Nat.zero_add, h.cell, List.getElem?_toArray]; exact hu) ?_
    refine goL ?_
    refine xcall rfl rfl (alike_does y12 _ _ _ _ nvs12 nvsb _ _ hT12.v (hTw11.ext hE12)) ?_ (fun r w' h => hBt12.ext h.2)
    rintro r y13 ⟨rfl, hE13⟩
    rw [alikeT_same]
    have hBt13 := hBt12.ext hE13
    refine goL ?_
    refine xcall rfl rfl (hmk y13 (.slice none 0 0) [] ⟨none, 0, rfl, Nat.le_refl _, by decide, fun h => absurd h (Nat.not_lt_zero _)⟩) ?_ (fun r w' h => by obtain ⟨_, _, _, _, _, h⟩ := h; exact hBt13.ext h)
    rintro r y14 ⟨ve14, vn14, nvs14, rfl, hT14, hE14⟩
    obtain ⟨A14, c14, rfl, _, _, _⟩ := hT14.e.op enC_len
    rw [show (mkT ([].map uN)).es.length = 1 by decide +kernel]
    have hgBf : ∀ {a b : World}, Fr (· = g) a b → Fr (w.heap.size ≤ ·) a b := fun h => h.mono fun b _ hb => by have : b = g := hb; show w.heap.size ≤ b; omega
    have hFF : Fr (w.heap.size ≤ ·) w1 y14 := ((((((((((hFa.te hEb).te hEbe).t (hgBf hFe6)).te hE6d).te hE7).t (hS8.frB hO7)).t (hS9.frB hS8.o)).t (hS10.frB hS9.o)).t (hS11.frB hS10.o)).te ((hE12.t hE13).t hE14))
    have hEE : Ext w y14 := hE1.trans hFF fun j hj hb => by have : w.heap.size ≤ j := hb; omega
    repeat' (first | refine xflde rfl ?_ | refine go1L ?_ | fail)
    exact tret1 rfl rfl ⟨rfl, hEE⟩
  · have hu5 : u < 5 := pc2.2 hk0
    obtain ⟨q1, q2, q3, q4, q5, q6, q7⟩ := pa_kind hu5
    rw [← hk] at q1 q2 q3 q4 q5 q6 q7
    have hG2 : FsG (paT k) := make_fsg hG1 (by decide)
    refine goL ?_
    refine xbd (cells := (ndC (kV k)).toArray) rfl (by kernel_rfl) ?_
    refine goL ?_
    refine xalloc (z := .agg nd0) (by kernel_rfl) (fun w4 hB4 hE4 hs4 => ?_)
    refine xsta hB4 rfl rfl (by kernel_rfl) rfl (one_cells (l := ndC (kV k)) rfl) (fun w5 hB5 hF5 => ?_)
    have hE35 : Ext w3 w5 := hE4.trans hF5 fun j hj e => by have : j = w3.heap.size := e; omega
    obtain ⟨w6, hw6⟩ : ∃ w6, w6 = w5 := ⟨_, rfl⟩
    have hE36 : Ext w3 w6 := by rw [hw6]; exact hE35
    have hBn : Blk w6 w3.heap.size 67 (ndC (paV k)).toArray := by rw [hw6, show paV k = kV k by unfold paV paN; rw [if_neg hk3]; rfl]; exact hB5
    rw [← hw6]
    have hO6 := hO3.ext hE36
    refine goL ?_
    refine xlda (t := 67) hBn rfl rfl ?_
    refine goL ?_
    refine xcall rfl rfl (make_does w6 w.heap.size g (qM 100 1) vf ve3 vn3 nvs3 (tiT 1 1) [119] (paV k) hO6 (paV_in _ _) (fun b hb => absurd hb (paV_no _ _)) q7 (by decide) (by decide) (by decide)) ?_
    rintro r w7 ⟨rfl, ve7, vn7, nvs7, hS7⟩
    rw [show (paV k).n = paN k from rfl, (qM_beg _ _).2] at hS7
    rw [show (paV k).n = paN k from rfl, q1]
    have hO7 : FsO w7 w.heap.size g (qM 100 2) vf ve7 vn7 nvs7 (paT k) := hS7.o
    have hFa : Fr (w.heap.size ≤ ·) w1 w7 := (hF13.te hE36).t (hS7.frB hO6)
    obtain ⟨T, hT⟩ : ∃ T, T = paT k := ⟨_, rfl⟩
    rw [← hT] at hO7 hG2 q2 q3 q4 q5 q6
    have hP := q2
    have hD := And.intro q3 q4
    obtain ⟨want, hwt⟩ : ∃ want : Int, want = 9 := ⟨_, rfl⟩
    have hw : want ≠ 0 := by omega
    rw [← hwt] at hP
    obtain ⟨c, hc⟩ : ∃ c : Int, c = 2 := ⟨_, rfl⟩
    rw [← hc] at hO7
    have hOa := hO7
    have hGa := hG2
    obtain ⟨l1, l2⟩ : T.es.length ≤ 3 ∧ T.ns.length ≤ 3 := ⟨by omega, by omega⟩
    refine goL ?_
    have hcI : ∀ d : Int, 0 ≤ d → d ≤ 10 → 0 ≤ (qM 100 (c + d)).calls ∧ (qM 100 (c + d)).calls ≤ 4000000000000000000 := fun d h1 h2 => by show 0 ≤ c + d ∧ c + d ≤ _; omega
    refine tloop (α := Nat) (fun i => [(1, .int .i64 zd), (5, .pointer (some ⟨g, 0, none⟩)), (7, .int .i64 want), (9, .string (su (paP i))), (10, .int .u64 (i : Int))]) (fun i w' => w7 = w' ∧ i ≤ d + 1) (fun i => d + 1 - i) 0 (sub ⟨rfl, rfl, ieq (by omega), rfl, rfl⟩) ⟨rfl, Nat.zero_le _⟩ ?_
    rintro i y2 ⟨rfl, hi⟩
    have hpl := paP_len i
    by_cases hlt : i ≤ d
    · repeat' (first | refine xcv (r := ((uN zd : Nat) : Int)) rfl rfl rfl (uN_eq zd) ?_ | refine xuadd (b := [47, 120]) rfl rfl (by show _ + 2 ≤ _; omega) ?_ | refine go1LU ?_ | fail)
      exact tfin ⟨i + 1, sub ⟨rfl, rfl, rfl, rfl, ieq (by omega)⟩, ⟨rfl, by omega⟩, by show d + 1 - (i + 1) < d + 1 - i; omega⟩
    obtain rfl : i = d + 1 := by omega
    obtain ⟨p, hp⟩ : ∃ p, p = paP (d + 1) := ⟨_, rfl⟩
    rw [← hp]
    have hwp : wrongM T p = want := by rw [hp]; exact hP d hd5
    obtain ⟨x1, x2, x3, x4, x5⟩ := pa_bad (q := 100) (t := T) hwp hw
    obtain ⟨x6, x7⟩ := pa_link (q := 100) (t := T) hD
    have hnT := good_norm hGa.f.g
    repeat' (first | refine xcv (r := ((uN zd : Nat) : Int)) rfl rfl rfl (uN_eq zd) ?_ | refine go1LU ?_ | fail)
    refine xcall rfl rfl (tree_does w7 g _ vf ve7 vn7 nvs7 T _ hOa.i hnT) ?_
    rintro r wb ⟨veb, vnb, nvsb, rfl, hTb, hEb⟩
    obtain ⟨Ab, cb, rfl, _, _⟩ := hTb.e.form
    obtain ⟨Nb, db, rfl, _, _⟩ := hTb.n.form
    have hOb := hOa.ext hEb
    refine goL ?_
    refine xalloc (z := .agg #[.slice none 0 0, .slice none 0 0]) (by kernel_rfl) (fun wc hBc hEc hsc => ?_)
    refine xsta hBc rfl rfl (by kernel_rfl) rfl (one_cells (l := [.slice Ab (renT T.ns (sortE T.es)).es.length cb, .slice Nb nvsb.length db]) rfl) (fun we hBe hFe => ?_)
    have hEbe : Ext wb we := hEc.trans hFe fun j hj e => by have : j = wb.heap.size := e; omega
    have hOe := hOb.ext hEbe
    have zb : wb.heap.size < we.heap.size := hBe.lt
    have zab := hEb.size
    have hfr : ∀ b, w7.heap.size ≤ b → b < we.heap.size → ¬ FsK g ve7 vn7 b := fun b h1 _ hK => by have := (hOa.ltK hK).2; omega
    refine goL ?_
    refine xcall rfl rfl (get_does we g (qM 100 c) vf ve7 vn7 nvs7 T p hOe.i (by have := hcI 0 (by decide) (by decide); rwa [Int.add_zero] at this)) ?_
    rintro r y3 ⟨xg, rfl, hxg, _, hI3, hF3⟩
    rw [x1 c]
    rw [(qM_beg _ _).2] at hI3
    have hO3 := hOe.put hF3 hI3 rfl
    refine goL ?_
    refine xalloc (z := .agg nd0) (by kernel_rfl) (fun y4 hB4 hE4 hs4 => ?_)
    refine xsta hB4 rfl rfl (by kernel_rfl) rfl (one_cells (l := ndC xg) (List.all_eq_true.2 (ndC_one hxg.in))) (fun y5 hB5 hF5 => ?_)
    have hE35 : Ext y3 y5 := hE4.trans hF5 fun j hj e => by have : j = y3.heap.size := e; omega
    have hO5 := hO3.ext hE35
    refine goL ?_
    refine xcall rfl rfl (list_does y5 g (qM 100 (c + 1)) vf ve7 vn7 nvs7 T p hO5.i (hcI 1 (by decide) (by decide))) ?_
    rintro r y6 ⟨vl, rfl, _, hI6, hF6⟩
    rw [x2 (c + 1)]
    rw [(qM_beg _ _).2] at hI6
    have hO6 := hO5.put hF6 hI6 rfl
    have hFe6 : Fr (· = g) we y6 := (hF3.te hE35).t hF6
    have hgB := hOa.b
    have hgl := hOa.i.k.lt
    have hBt6 := hBe.fr hFe6 (show ¬ wb.heap.size = g by omega)
    have hTw6 : TrV y6 (.slice Ab (renT T.ns (sortE T.es)).es.length cb) (.slice Nb nvsb.length db) nvsb (renT T.ns (sortE T.es)) := (hTb.v.ext hEbe).fr hFe6 fun b hb e => by have := (hTb.lt hb).1; have : b = g := e; omega
    have hfr6 : ∀ b, w7.heap.size ≤ b → b < we.heap.size → ¬ FsK g ve7 vn7 b := hfr
    have z6 := hFe6.size
    have hd6 := Fr.drew noneB y6
    have hE6d : Ext y6 y6.drew := hd6
    have hO6d := hO6.ext hE6d
    have hBt6d := hBt6.ext hE6d
    refine goL ?_
    refine tdrawH [107] (fun w' => Blk w' wb.heap.size 29 #[.slice Ab (renT T.ns (sortE T.es)).es.length cb, .slice Nb nvsb.length db]) (by kernel_rfl) (by decide +kernel) hBt6d ?_
    refine goL ?_
    refine xcall rfl rfl (told7_does y6.drew) ?_ (fun r w' h => hBt6d.ext h.2)
    rintro r y7 ⟨rfl, hE7⟩
    have hO7 := hO6d.ext hE7
    have hBt7 := hBt6d.ext hE7
    have hTw7 := (hTw6.ext hE6d).ext hE7
    refine goL ?_
    refine xbd (cells := (ndC (kV 6)).toArray) rfl (by kernel_rfl) ?_
    refine goL ?_
    refine xcall rfl rfl (make_does y7 w.heap.size g (qM 100 (c + 1 + 1)) vf ve7 vn7 nvs7 T p (kV 6) hO7 (kV_in _ _) (fun b hb => absurd hb (kV_no _ _)) (by decide) (by have := hcI 2 (by decide) (by decide); rwa [show c + 2 = c + 1 + 1 by omega] at this) (by omega) (by omega)) ?_ (fun r w' h => by
      obtain ⟨_, _, _, _, h⟩ := h
      exact hBt7.fr h.f (hfr6 _ zab zb))
    rintro r y8 ⟨rfl, ve8, vn8, nvs8, hS8⟩
    rw [(x3 _ (kV 6).n).2, (qM_beg _ _).2] at hS8
    rw [(x3 _ (kV 6).n).1]
    have z7 := hE7.size
    have zd6 := hE6d.size
    have hfr8 : ∀ b, w7.heap.size ≤ b → b < we.heap.size → ¬ FsK g ve8 vn8 b := fun b h1 h2 => hS8.keep (by omega) (hfr6 b h1 h2)
    have hBt8 := hBt7.fr hS8.f (hfr6 _ zab zb)
    have hTw8 := hTw7.fr hS8.f fun b hb => hfr6 b (hTb.lt hb).1 (by have := (hTb.lt hb).2; omega)
    have z8 := hS8.f.size
    refine goL ?_
    refine xcall rfl rfl (write_does y8 w.heap.size g (qM 100 (c + 1 + 1 + 1)) vf ve8 vn8 nvs8 T p 0 [97] hS8.o (by have := hcI 3 (by decide) (by decide); rwa [show c + 3 = c + 1 + 1 + 1 by omega] at this) (by decide) (by decide)) ?_ (fun r w' h => by
      obtain ⟨_, _, h⟩ := h
      exact hBt8.fr h.f (hfr8 _ zab zb))
    rintro r y9 ⟨rfl, nvs9, hS9⟩
    rw [(x4 _ 0 [97]).2, (qM_beg _ _).2] at hS9
    rw [(x4 _ 0 [97]).1]
    have hBt9 := hBt8.fr hS9.f (hfr8 _ zab zb)
    have hTw9 := hTw8.fr hS9.f fun b hb => hfr8 b (hTb.lt hb).1 (by have := (hTb.lt hb).2; omega)
    have z9 := hS9.f.size
    refine goL ?_
    refine xcall rfl rfl (gone_does y9 w.heap.size g (qM 100 (c + 1 + 1 + 1 + 1)) vf ve8 vn8 nvs9 T p hS9.o (by have := hcI 4 (by decide) (by decide); rwa [show c + 4 = c + 1 + 1 + 1 + 1 by omega] at this) (fs_root hGa.f)) ?_ (fun r w' h => by
      obtain ⟨_, _, _, _, h⟩ := h
      exact hBt9.fr h.f (hfr8 _ zab zb))
    rintro r y10 ⟨rfl, ve10, vn10, nvs10, hS10⟩
    rw [(x5 _).2, (qM_beg _ _).2] at hS10
    rw [(x5 _).1]
    have hfr10 : ∀ b, w7.heap.size ≤ b → b < we.heap.size → ¬ FsK g ve10 vn10 b := fun b h1 h2 => hS10.keep (by omega) (hfr8 b h1 h2)
    have hBt10 := hBt9.fr hS10.f (hfr8 _ zab zb)
    have hTw10 := hTw9.fr hS10.f fun b hb => hfr8 b (hTb.lt hb).1 (by have := (hTb.lt hb).2; omega)
    have z10 := hS10.f.size
    refine goL ?_
    refine xcall rfl rfl (link_does y10 w.heap.size g (qM 100 (c + 1 + 1 + 1 + 1 + 1)) vf ve10 vn10 nvs10 T p [100] hS10.o (by have := hcI 5 (by decide) (by decide); rwa [show c + 5 = c + 1 + 1 + 1 + 1 + 1 by omega] at this) (by omega)) ?_ (fun r w' h => by
      obtain ⟨_, _, _, h⟩ := h
      exact hBt10.fr h.f (hfr10 _ zab zb))
    rintro r y11 ⟨rfl, ve11, nvs11, hS11⟩
    rw [x7, (qM_beg _ _).2] at hS11
    rw [x6]
    have hBt11 := hBt10.fr hS11.f (hfr10 _ zab zb)
    have hTw11 := hTw10.fr hS11.f fun b hb => hfr10 b (hTb.lt hb).1 (by have := (hTb.lt hb).2; omega)
    refine goL ?_
    refine xcall rfl rfl (tree_does y11 g _ vf _ _ nvs11 T _ hS11.o.i hnT) ?_ (fun r w' h => by obtain ⟨_, _, _, _, _, h⟩ := h; exact hBt11.ext h)
    rintro r y12 ⟨ve12, vn12, nvs12, rfl, hT12, hE12⟩
    have hBt12 := hBt11.ext hE12
    refine goL ?_
    refine xldzh (cs := [.slice Ab (renT T.ns (sortE T.es)).es.length cb, .slice Nb nvsb.length db]) rfl (by kernel_rfl) (fun w' (h : Blk w' _ _ _) j u hu => by rw [Nat.zero_add, h.cell, List.getElem?_toArray]; exact hu) ?_
    refine goL ?_
    refine xcall rfl rfl (alike_does y12 _ _ _ _ nvs12 nvsb _ _ hT12.v (hTw11.ext hE12)) ?_ (fun r w' h => hBt12.ext h.2)
    rintro r y13 ⟨rfl, hE13⟩
    rw [alikeT_same]
    have hBt13 := hBt12.ext hE13
    refine goL ?_
    refine xcall rfl rfl (hmk y13 (.slice none 0 0) [] ⟨none, 0, rfl, Nat.le_refl _, by decide, fun h => absurd h (Nat.not_lt_zero _)⟩) ?_ (fun r w' h => by obtain ⟨_, _, _, _, _, h⟩ := h; exact hBt13.ext h)
    rintro r y14 ⟨ve14, vn14, nvs14, rfl, hT14, hE14⟩
    obtain ⟨A14, c14, rfl, _, _, _⟩ := hT14.e.op enC_len
    rw [show (mkT ([].map uN)).es.length = 1 by decide +kernel]
    have hgBf : ∀ {a b : World}, Fr (· = g) a b → Fr (w.heap.size ≤ ·) a b := fun h => h.mono fun b _ hb => by have : b = g := hb; show w.heap.size ≤ b; omega
    have hFF : Fr (w.heap.size ≤ ·) w1 y14 := ((((((((((hFa.te hEb).te hEbe).t (hgBf hFe6)).te hE6d).te hE7).t (hS8.frB hO7)).t (hS9.frB hS8.o)).t (hS10.frB hS9.o)).t (hS11.frB hS10.o)).te ((hE12.t hE13).t hE14))
    have hEE : Ext w y14 := hE1.trans hFF fun j hj hb => by have : w.heap.size ≤ j := hb; omega
    repeat' (first | refine xflde rfl ?_ | refine go1L ?_ | fail)
    exact tret1 rfl rfl ⟨rfl, hEE⟩
end Eng
end Go.Proofs.YtiebbecknfpdeaaGreatDoor
