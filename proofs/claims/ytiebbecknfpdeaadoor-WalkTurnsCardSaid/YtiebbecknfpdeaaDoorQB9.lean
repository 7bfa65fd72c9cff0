/-
  Parts of the proof, joined: Zq, Zx.
-/
import Derived.Test.YtiebbecknfpdeaaDoorQB7
import Derived.Test.YtiebbecknfpdeaaDoorQZo
import Derived.Test.YtiebbecknfpdeaaDoorQZu
namespace Go.Proofs.YtiebbecknfpdeaaDoor
open Go.RowKit
namespace Eng
theorem norm_nodes {t u : Tre} (h : normT t = some u) : ∀ n ∈ u.ns, n ∈ t.ns ∨ n = default := by
  intro n hn
  rw [(norm_form h).2.2] at hn
  unfold renT at hn
  obtain ⟨k, _, rfl⟩ := List.mem_map.1 hn
  rw [List.getD_eq_getElem?_getD]
  cases hk : t.ns[k.toNat]? with
  | none => exact .inr rfl
  | some x => exact .inl (List.mem_of_getElem? hk)
theorem norm_paths {t u : Tre} (h : normT t = some u) : (u.es.map (·.path)).Perm (t.es.map (·.path)) := by
  rw [(norm_form h).2.2]
  unfold renT
  rw [renG_paths]
  exact (sortE_perm t.es).map _
theorem norm_nsok {t u : Tre} (h : normT t = some u) (hs : NsOK t.ns) (hl : ∀ n ∈ t.ns, NdL n) : NsOK u.ns ∧ ∀ n ∈ u.ns, NdL n :=
  ⟨fun n hn => (norm_nodes h n hn).elim (hs n) fun e => by rw [e]; decide, fun n hn => (norm_nodes h n hn).elim (hl n) fun e => by rw [e]; exact ⟨by decide, by decide, by decide⟩⟩
theorem look_all {B gw g : Nat} {t u : Tre} {vf ve vn : Value} {nvs : List NdV} (ht : FsT t) (hu : normT t = some u) : ∀ f, LookC f B gw g t u vf ve vn nvs
  | 0 => by
    intro w s vo ve' vn' vm nvu d h hd hf
    have := parts_len d.path
    omega
  | f + 1 => look_does ht hu f (visit_does ht f (look_all ht hu f))
def AllR (g : Nat) (t u : Tre) (vf ve vn : Value) (nvs : List NdV) (w : World) (y : Int × WkS) (r : Value) (w' : World) : Prop :=
  ∃ va, r = .tuple #[va, .int .i64 y.1] ∧ FsI w' g y.2.m vf ve vn nvs t ∧ Fr (· = g) w w' ∧ (y.1 = 0 → ∃ ve' vn' nvs', va = .agg #[ve', vn'] ∧ TrO w' w.heap.size ve' vn' nvs' u) ∧ (y.1 ≠ 0 → va = .agg #[.slice none 0 0, .slice none 0 0])
attribute [local irreducible] xs T
set_option maxRecDepth 20000 in
set_option maxHeartbeats 4000000 in
theorem allnil_does (w : World) : Does Tryd.prog 10 #[.pointer none, .slice none 0 0] w fun r w' => r = .tuple #[.agg #[.slice none 0 0, .slice none 0 0], .int .i64 1] ∧ Ext w w' := by
  refine does2 Tryd.func10 rfl (by kernel_rfl) ?_
  refine goL ?_
  refine xalloc (z := .agg #[.slice none 0 0, .slice none 0 0]) (by kernel_rfl) (fun w1 hB1 hE1 hs1 => ?_)
  refine goL ?_
  refine xbd (cells := #[.slice none 0 0, .slice none 0 0]) rfl (by kernel_rfl) ?_
  refine goL ?_
  refine xsta hB1 rfl rfl (by kernel_rfl) rfl (one_cells (l := [.slice none 0 0, .slice none 0 0]) rfl) (fun w2 hB2 hF2 => ?_)
  refine goL ?_
  exact tretc2 rfl rfl rfl hB2 (by kernel_rfl) ⟨rfl, hE1.trans hF2 fun j hj e => by have : j = w.heap.size := e; omega⟩
set_option maxRecDepth 20000 in
set_option maxHeartbeats 8000000 in
theorem all_does (w : World) (g : Nat) (m : FsM) (vf ve vn vo : Value) (nvs : List NdV) (t u : Tre) (o : List Int) (h : FsI w g m vf ve vn nvs t) (ht : FsT t) (hu : normT t = some u) (ho : OrdI w w.heap.size g vo o) (hc0 : 0 ≤ m.calls) (hc : m.calls ≤ 3000000000000000000) :
    Does Tryd.prog 10 #[.pointer (some ⟨g, 0, none⟩), vo] w (AllR g t u vf ve vn nvs w (lookM t 9 [] ⟨m, o, []⟩)) := by
  refine does2 Tryd.func10 rfl (by kernel_rfl) ?_
  have hg := h.k.lt
  obtain ⟨Ao, co, rfl, hco1, hco2, hoc⟩ := id ho
  clear hoc
  refine goL ?_
  refine xalloc (z := .agg #[.slice none 0 0, .slice none 0 0]) (by kernel_rfl) (fun w1 hB1 hE1 hs1 => ?_)
  refine goL ?_
  refine xcall rfl rfl (tree_does w1 g m vf ve vn nvs t u (h.ext hE1) hu) ?_
  rintro r w2 ⟨ve', vn', nvs', rfl, hT, hE2⟩
  obtain ⟨A2, c2, rfl, _, _⟩ := hT.e.form
  obtain ⟨A3, c3, rfl, _, _⟩ := hT.n.form
  refine goL ?_
  refine xbd (cells := wkC g (.slice Ao o.length co) (.slice A2 u.es.length c2) (.slice A3 nvs'.length c3) (.slice none 0 0)) rfl (by kernel_rfl) ?_
  refine goL ?_
  refine xalloc (z := .agg #[.pointer none, .slice none 0 0, .slice none 0 0, .slice none 0 0, .slice none 0 0]) (by kernel_rfl) (fun w3 hB3 hE3 hs3 => ?_)
  refine goL ?_
  refine xsta hB3 rfl rfl (by kernel_rfl) rfl (one_cells (l := [.pointer (some ⟨g, 0, none⟩), .slice Ao o.length co, .slice A2 u.es.length c2, .slice A3 nvs'.length c3, .slice none 0 0]) rfl) (fun w4 hB4 hF4 => ?_)
  have hE24 : Ext w2 w4 := hE3.trans hF4 fun j hj e => by have : j = w2.heap.size := e; omega
  have hE12 : Ext w1 w4 := hE2.t hE24
  have hE04 : Ext w w4 := hE1.t hE12
  have z1 := hE1.size
  have z2 := hE2.size
  have z4 := hE24.size
  have hT4 := (hT.ext hE24).mono z1
  have hwk : WkI w4 w.heap.size w2.heap.size g t u vf ve vn nvs ⟨m, o, []⟩ (.slice Ao o.length co) (.slice A2 u.es.length c2) (.slice A3 nvs'.length c3) (.slice none 0 0) nvs' :=
    ⟨h.ext hE04, fun b hb => by
      rcases hb with rfl | hb
      · exact hg
      · exact h.lt b hb, hB4, by omega, ho.fr hE04 fun _ hb => hb.elim, hT4.e, hT4.n, hT4.i, hT4.m, Ow.nil _ _ _, fun b _ hb => by cases hb⟩
  obtain ⟨d, hd, hdp, hdk⟩ := ht.g.root
  have hul : (underL t d.path).length ≤ 100 := by
    rw [hdp, (under_root ht).length_eq, List.length_map]
    exact ht.g.len
  have hlk := look_all (B := w.heap.size) (gw := w2.heap.size) (g := g) (vf := vf) (ve := ve) (vn := vn) (nvs := nvs) ht hu 9 w4 ⟨m, o, []⟩ _ _ _ _ _ d hwk hd (Nat.le_add_left _ _) hc0 (by have := bdF_nine; dsimp only; omega) (by rw [List.length_nil]; omega)
  rw [hdp] at hlk
  have hB14 := Blk.ext hB1 hE12
  refine goL ?_
  refine xcall rfl rfl hlk ?_
  rintro r w5 ⟨rfl, hF5, vo5, vm5, nvu5, h5, hv5⟩
  obtain ⟨y, hy⟩ : ∃ y, y = lookM t 9 [] ⟨m, o, []⟩ := ⟨_, rfl⟩
  rw [← hy] at h5 ⊢
  have hTn : ∀ b, (Value.slice A3 nvs'.length c3).ownBlock = some b → w1.heap.size ≤ b := fun b hb => (hT.n.blk hb).1
  have hs1' : w1.heap.size = w.heap.size + 1 := hs1
  have hF05 : Fr (· = g) w w5 := hE04.fr.trans hF5 fun j hj hS => by
    rcases hS with hS | hS | hS | hS
    · exact hS
    · omega
    · have := hTn j hS; omega
    · cases hS
  have hR5 := hB14.fr hF5 fun hS => by
    rcases hS with hS | hS | hS | hS
    · omega
    · omega
    · have := hTn _ hS; omega
    · cases hS
  have z5 := hF05.size
  have z45 := hF5.size
  by_cases e : y.1 = 0
  · rw [e]
    have hn1 := norm_nsok hu h.s h.l
    obtain ⟨L, oL, hL, hyL⟩ := look_ok ht 9 d hd (Nat.le_add_left _ _) ⟨m, o, []⟩ y.2 (by rw [hdp, ← hy, ← e])
    have hmet : y.2.met = L := by rw [hyL]; rfl
    have hnorm : normT ⟨metE u y.2.met, u.ns⟩ = some u := by
      refine met_norm (norm_may hu) ?_
      rw [hmet]
      rw [hdp] at hL
      exact (hL.trans (under_root ht)).trans (norm_paths hu).symm
    obtain ⟨A6, c6, rfl, _, _⟩ := h5.me.form
    have k3 : w5.cell? ⟨w2.heap.size, 3, none⟩ = some (.slice A3 nvs'.length c3) := h5.k.cell 3
    have k4 : w5.cell? ⟨w2.heap.size, 4, none⟩ = some (.slice A6 (metE u y.2.met).length c6) := h5.k.cell 4
    refine goL ?_
    refine xbd (cells := #[.slice A6 (metE u y.2.met).length c6, .slice A3 nvs'.length c3]) rfl (by kernel_rfl) ?_
    refine goL ?_
    refine xcall rfl rfl (norm_doesO w5 _ _ nvu5 ⟨metE u y.2.met, u.ns⟩ ⟨h5.me.rw, h5.un.rw, fun x hx => (h5.ui x hx).in, h5.um⟩ hn1.1 hn1.2) ?_
    rintro r w6 ⟨hE6, hr⟩
    rw [hnorm] at hr
    obtain ⟨ve6, vn6, nvs6, rfl, hT6⟩ := hr
    obtain ⟨A7, c7, rfl, _, _⟩ := hT6.e.form
    obtain ⟨A8, c8, rfl, _, _⟩ := hT6.n.form
    refine goL ?_
    refine xalloc (z := .agg #[.slice none 0 0, .slice none 0 0]) (by kernel_rfl) (fun w7 hB7 hE7 hs7 => ?_)
    refine goL ?_
    refine xsta hB7 rfl rfl (by kernel_rfl) rfl (one_cells (l := [.slice A7 u.es.length c7, .slice A8 nvs6.length c8]) rfl) (fun w8 hB8 hF8 => ?_)
    have hE68 : Ext w6 w8 := hE7.trans hF8 fun j hj e => by have : j = w6.heap.size := e; omega
    have hE58 : Ext w5 w8 := hE6.t hE68
    refine goL ?_
    refine xlda (t := 43) hB8 rfl rfl ?_
    refine goL ?_
    refine xsta (hR5.ext hE58) rfl rfl (by kernel_rfl) rfl (one_cells (l := [.slice A7 u.es.length c7, .slice A8 nvs6.length c8]) rfl) (fun w9 hB9 hF9 => ?_)
    have z8 := hE58.size
    refine goL ?_
    refine tretc2 rfl rfl rfl hB9 (by kernel_rfl) ⟨_, by rw [e], (h5.fs.ext hE58).fr hF9 fun b hb => ?_, (hF05.te hE58).trans hF9 fun j hj e => (by have : j = w.heap.size := e; omega), fun _ => ⟨_, _, nvs6, rfl, ((hT6.ext hE68).fr hF9 fun b hb => ?_).mono (by omega)⟩, fun h => absurd e h⟩
    · have := h5.fb b hb
      show ¬ b = w.heap.size
      omega
    · have := (hT6.lt hb).1
      show ¬ b = w.heap.size
      omega
  · refine goL ?_
    refine xbd (cells := #[.slice none 0 0, .slice none 0 0]) rfl (by kernel_rfl) ?_
    refine goL ?_
    refine xsta hR5 rfl rfl (by kernel_rfl) rfl (one_cells (l := [.slice none 0 0, .slice none 0 0]) rfl) (fun w9 hB9 hF9 => ?_)
    refine goL ?_
    refine tretc2 rfl rfl rfl hB9 (by kernel_rfl) ⟨_, rfl, h5.fs.fr hF9 fun b hb => ?_, hF05.trans hF9 fun j hj e => (by have : j = w.heap.size := e; omega), fun h => absurd h e, fun _ => rfl⟩
    have := h5.fb b hb
    show ¬ b = w.heap.size
    omega
end Eng
end Go.Proofs.YtiebbecknfpdeaaDoor
namespace Go.Proofs.YtiebbecknfpdeaaDoor
open Go.RowKit
namespace Eng
def kN (k : Int) : Nd := ⟨k, 0, 0, 0, 0, [], [], 0, [], [], 0, 0⟩
def kV (k : Int) : NdV := ⟨kN k, .slice none 0 0, .slice none 0 0, .slice none 0 0⟩
theorem kV_in (w : World) (k : Int) : NdIn w (kV k) := ⟨Rw.nil _ _ (by decide), Rw.nil _ _ (by decide), Rw.nil _ _ (by decide)⟩
theorem kV_no (k : Int) (b : Nat) : ¬ NdN (kV k) b := fun h => by rcases h with h | h | h <;> exact absurd h.1 (by show ¬ 0 < 0; decide)
def tm0 : FsM := ⟨10, [], 0, false⟩
def tm1 : FsM := ⟨10, [], 1, false⟩
def tm2 : FsM := ⟨10, [], 2, false⟩
def tt1 : Tre := ⟨[⟨[], 0⟩, ⟨[98], 1⟩], [timeN rootN 1, madeN (kN 6) 1]⟩
def tt2 : Tre := ⟨[⟨[], 0⟩, ⟨[97], 2⟩, ⟨[98], 1⟩], [timeN (timeN rootN 1) 2, madeN (kN 6) 1, madeN (kN 1) 2]⟩
theorem tm1_eq : (begM tm0).2.2 = tm1 := rfl
theorem tm2_eq : (begM tm1).2.2 = tm2 := rfl
theorem tt1_eq : makeT tm0 rootT [98] (kN 6) = tt1 := by kernel_rfl
theorem tt2_eq : makeT tm1 tt1 [97] (kN 1) = tt2 := by kernel_rfl
theorem tt2_norm : normT tt2 = some (renT tt2.ns (sortE tt2.es)) := by unfold normT; rw [if_pos (by decide +kernel)]
theorem tt2_fst : FsT tt2 := ⟨norm_good tt2_norm, by show tt2.es.Pairwise (fun x y => lessP x.path y.path = true); decide +kernel⟩
theorem tt2_len : (renT tt2.ns (sortE tt2.es)).es.length = 3 := by decide +kernel
theorem tt2_look : (lookM tt2 9 [] ⟨tm2, [1], []⟩).1 = 0 ∧ (lookM tt2 9 [] ⟨tm2, [1], []⟩).2.m.calls = 7 := by decide +kernel
attribute [local irreducible] xs T
set_option maxRecDepth 20000 in
set_option maxHeartbeats 8000000 in
theorem told8_does (w : World) : Does Tryd.prog 6 #[] w fun r w' => r = .bool true ∧ Ext w w' := by
  refine does0 Tryd.func6 rfl ?_
  refine goL ?_
  refine xcall rfl rfl (new_does w (.slice none 0 0) 10 [] (Rw.nil _ _ (by decide)) (by decide)) ?_
  rintro r w1 ⟨hE1, hr⟩
  rcases hr with ⟨hr, _⟩ | ⟨_, g, vf, ve, vn, nvs, rfl, hO1⟩
  · exact absurd rfl hr
  have hO1 : FsO w1 w.heap.size g tm0 vf ve vn nvs rootT := hO1
  refine goL ?_
  refine xbd (cells := (ndC (kV 6)).toArray) rfl (by kernel_rfl) ?_
  refine goL ?_
  refine xcall rfl rfl (make_does w1 w.heap.size g tm0 vf ve vn nvs rootT [98] (kV 6) hO1 (kV_in _ _) (fun b hb => absurd hb (kV_no _ _)) (by decide) (by decide) (by decide) (by decide)) ?_
  rintro r w2 ⟨_, ve2, vn2, nvs2, hS2⟩
  rw [tm1_eq, show (kV 6).n = kN 6 from rfl, tt1_eq] at hS2
  refine goL ?_
  refine xbd (cells := (ndC (kV 1)).toArray) rfl (by kernel_rfl) ?_
  refine goL ?_
  refine xcall rfl rfl (make_does w2 w.heap.size g tm1 vf ve2 vn2 nvs2 tt1 [97] (kV 1) hS2.o (kV_in _ _) (fun b hb => absurd hb (kV_no _ _)) (by decide) (by decide) (by decide) (by decide)) ?_
  rintro r w3 ⟨_, ve3, vn3, nvs3, hS3⟩
  rw [tm2_eq, show (kV 1).n = kN 1 from rfl, tt2_eq] at hS3
  have hS13 := hS2.t hS3
  have hE03 : Ext w w3 := hE1.trans hS13.f fun j hj hb => by
    have : w.heap.size ≤ j := by
      rcases hb with rfl | hb | hb
      · exact hO1.b
      · exact (hO1.o.e.blk hb).1
      · exact (hO1.o.n.blk hb).1
    omega
  have hO3 := hS13.o
  refine goL ?_
  refine xbs sl_ints rfl rfl (by decide) (by decide) (fun u hu => by rw [List.mem_singleton.1 hu]; rfl) (fun w4 hB4 hE4 hs4 => ?_)
  have hO4 := hO3.ext hE4
  have hB4' : Blk w4 w3.heap.size 3 #[.int .i64 1] := hB4
  have hord : OrdI w4 w4.heap.size g (.slice (some ⟨w3.heap.size, 0, none⟩) 1 1) [1] :=
    ⟨_, 1, rfl, Nat.le_refl _, by decide, fun _ => ⟨w3.heap.size, 0, rfl, by omega, by omega, by have := hO3.i.k.lt; omega, fun i z hz => by
      rcases i with _ | i
      · injection hz with hz
        subst hz
        exact hB4'.cell 0
      · simp at hz⟩⟩
  refine goL ?_
  refine xcall rfl rfl (all_does w4 g tm2 vf ve3 vn3 _ nvs3 tt2 _ [1] hO4.i tt2_fst tt2_norm hord (by decide) (by decide)) ?_
  rintro r w5 ⟨va, rfl, hI5, hF5, hok, _⟩
  obtain ⟨ve5, vn5, nvs5, rfl, hT5⟩ := hok tt2_look.1
  rw [tt2_look.1]
  obtain ⟨A5, c5, rfl, _, _⟩ := hT5.e.form
  obtain ⟨A6, c6, rfl, _, _⟩ := hT5.n.form
  have hgw : w.heap.size ≤ g := hO1.b
  have hE05 : Ext w w5 := (hE03.t hE4).trans hF5 fun j hj hb => by have : j = g := hb; omega
  refine goL ?_
  refine xalloc (z := .agg #[.slice none 0 0, .slice none 0 0]) (by kernel_rfl) (fun w6 hB6 hE6 hs6 => ?_)
  refine goL ?_
  refine xsta hB6 rfl rfl (by kernel_rfl) rfl (one_cells (l := [.slice A5 (renT tt2.ns (sortE tt2.es)).es.length c5, .slice A6 nvs5.length c6]) rfl) (fun w7 hB7 hF7 => ?_)
  have hE57 : Ext w5 w7 := hE6.trans hF7 fun j hj e => by have : j = w5.heap.size := e; omega
  refine goL ?_
  refine xcall rfl rfl (allnil_does w7) ?_
  rintro r w8 ⟨rfl, hE8⟩
  refine goL ?_
  refine xalloc (z := .agg #[.slice none 0 0, .slice none 0 0]) (by kernel_rfl) (fun w9 hB9 hE9 hs9 => ?_)
  refine goL ?_
  refine xsta hB9 rfl rfl (by kernel_rfl) rfl (one_cells (l := [.slice none 0 0, .slice none 0 0]) rfl) (fun w10 hB10 hF10 => ?_)
  have hE810 : Ext w8 w10 := hE9.trans hF10 fun j hj e => by have : j = w8.heap.size := e; omega
  have hE710 := hE8.t hE810
  refine goL ?_
  refine xbs sl_strs rfl rfl (by decide) (by decide) (fun u hu => by
    simp only [List.mem_cons, List.not_mem_nil, or_false] at hu
    rcases hu with rfl | rfl <;> rfl) (fun w11 hB11 hE11 hs11 => ?_)
  have hO11 : Ow stC 1 w11 0 9 (.slice (some ⟨w10.heap.size, 0, none⟩) 2 2) [[97], [98]] := Ow.of_blk stC_len hB11 rfl (Nat.zero_le _) rfl (by decide)
  refine goL ?_
  refine xcall rfl rfl (order_does w11 _ [[97], [98]] 1 hO11.rw (by decide)) ?_
  rintro r w12 ⟨hO12, hE12⟩
  rw [show ordM ([[97], [98]] : List Str).length [[97], [98]] (uN 1) = [[98], [97]] by decide +kernel] at hO12
  refine goL ?_
  refine xbs sl_strs rfl rfl (by decide) (by decide) (fun u hu => by
    simp only [List.mem_cons, List.not_mem_nil, or_false] at hu
    rcases hu with rfl | rfl <;> rfl) (fun w13 hB13 hE13 hs13 => ?_)
  have hO13 : Ow stC 1 w13 0 9 (.slice (some ⟨w12.heap.size, 0, none⟩) 2 2) [[98], [97]] := Ow.of_blk stC_len hB13 rfl (Nat.zero_le _) rfl (by decide)
  refine goL ?_
  refine xcall rfl rfl (texts_does w13 _ _ _ _ (hO12.rw.ext hE13) hO13.rw) ?_
  rintro r w14 ⟨rfl, hE14⟩
  rw [decide_eq_true (rfl : ([[98], [97]] : List Str) = [[98], [97]])]
  refine goL ?_
  refine xcall rfl rfl (order_does w14 (.slice none 0 0) [] 5 (Rw.nil _ _ (by decide)) (by decide)) ?_
  rintro r w15 ⟨hO15, hE15⟩
  rw [show ordM ([] : List Str).length [] (uN 5) = [] by decide +kernel] at hO15
  obtain ⟨A15, c15, e15, _, _⟩ := hO15.form
  rw [List.length_nil] at e15
  subst e15
  have hE1015 : Ext w10 w15 := (((hE11.t hE12).t hE13).t hE14).t hE15
  have hE715 := hE710.t hE1015
  have k0 : w15.cell? ⟨w5.heap.size, 0, none⟩ = some (.slice A5 (renT tt2.ns (sortE tt2.es)).es.length c5) := (hB7.ext hE715).cell 0
  rw [tt2_len] at k0
  have hI15 := (hI5.ext hE57).ext hE715
  refine goL ?_
  refine xcall rfl rfl (calls_does w15 g _ vf _ _ hI15.k) ?_
  rintro r w16 ⟨rfl, rfl⟩
  rw [tt2_look.2]
  refine goL ?_
  exact tret1 rfl rfl ⟨rfl, (hE05.t hE57).t hE715⟩
end Eng
end Go.Proofs.YtiebbecknfpdeaaDoor
