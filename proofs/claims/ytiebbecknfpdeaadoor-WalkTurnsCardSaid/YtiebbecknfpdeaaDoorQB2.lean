/-
  Parts of the proof, joined: Wc, Zd, Zf, Zp.
-/
import Derived.Test.YtiebbecknfpdeaaDoorQB0a
import Derived.Test.YtiebbecknfpdeaaDoorQB0b
import Derived.Test.YtiebbecknfpdeaaDoorQWb
namespace Go.Proofs.YtiebbecknfpdeaaDoor
open Go.RowKit
namespace Eng
attribute [local irreducible] xs T
theorem drop_get {α : Type} {l : List α} {i : Nat} {c : α} (hc : l[i]? = some c) : l.drop i = c :: l.drop (i + 1) := by
  have hlt := (List.getElem?_eq_some_iff.1 hc).1
  rw [List.drop_eq_getElem_cons hlt]
  rw [List.getElem?_eq_getElem hlt] at hc
  rw [Option.some.inj hc]
end Eng
end Go.Proofs.YtiebbecknfpdeaaDoor
namespace Go.Proofs.YtiebbecknfpdeaaDoor
open Go.RowKit
namespace Eng
attribute [local irreducible] xs T
/-- A filesystem but for its tree. -/
structure FsM where
  quota : Int
  flts : List (Int × Int)
  calls : Int
  down : Bool
def flC (a : Int × Int) : List Value := [.int .i64 a.1, .int .i64 a.2]
theorem flC_len (a : Int × Int) : (flC a).length = 2 := rfl
def fsC (m : FsM) (vf ve vn : Value) : Array Value := #[.int .i64 m.quota, vf, .int .i64 m.calls, .bool m.down, ve, vn]
/-- A call begins: the kind of fault, the error, what is left. -/
def begM (m : FsM) : Int × Int × FsM :=
  if m.down then (0, 12, m)
  else match m.flts.find? fun a => decide (a.1 = m.calls) with
    | none => (0, 0, { m with calls := m.calls + 1 })
    | some a => if a.2 = 3 then (3, 12, { m with calls := m.calls + 1, down := true }) else (a.2, 11, { m with calls := m.calls + 1 })
theorem begM_down {m : FsM} (h : m.down = true) : begM m = (0, 12, m) := by unfold begM; rw [if_pos h]
set_option maxRecDepth 20000 in
set_option maxHeartbeats 4000000 in
theorem fsnone_does (w : World) (g : Nat) (m : FsM) (vf vn : Value) (A : Option Addr) (n c : Nat) (hB : Blk w g 59 (fsC m vf (.slice A n c) vn)) (h0 : 0 < n) : Does Tryd.prog 24 #[.pointer (some ⟨g, 0, none⟩)] w fun r w' => r = .bool false ∧ w = w' := by
  refine does1 Tryd.func24 rfl (by kernel_rfl) ?_
  have k4 : w.cell? ⟨g, 4, none⟩ = some (.slice A n c) := hB.cell 4
  refine goL ?_
  exact tret1 rfl rfl ⟨rfl, rfl⟩
set_option maxRecDepth 20000 in
set_option maxHeartbeats 4000000 in
theorem begin_does (w : World) (g : Nat) (m : FsM) (vf vn : Value) (A : Option Addr) (n c : Nat) (hB : Blk w g 59 (fsC m vf (.slice A n c) vn)) (h0 : 0 < n) (hf : Rw flC w vf m.flts) (hc : 0 ≤ m.calls ∧ m.calls ≤ 4000000000000000000) (ha : vf.ownBlock ≠ some g) :
    Does Tryd.prog 13 #[.pointer (some ⟨g, 0, none⟩)] w fun r w' => r = .tuple #[.int .i64 (begM m).1, .int .i64 (begM m).2.1] ∧ Blk w' g 59 (fsC (begM m).2.2 vf (.slice A n c) vn) ∧ Fr (· = g) w w' := by
  refine does1 Tryd.func13 rfl (by kernel_rfl) ?_
  obtain ⟨AF, cF, rfl, hcF1, hcF2, hAF⟩ := hf.op flC_len
  have k2 : w.cell? ⟨g, 2, none⟩ = some (.int .i64 m.calls) := hB.cell 2
  have k3 : w.cell? ⟨g, 3, none⟩ = some (.bool m.down) := hB.cell 3
  have hne : ∀ {b o n c}, (Value.slice (some ⟨b, o, none⟩) n c).ownBlock ≠ some g → b ≠ g := fun h e => h (by rw [e]; rfl)
  have hnone := fsnone_does w g m (.slice AF m.flts.length cF) vn A n c hB h0
  refine goL ?_
  refine tscope1 (α := Nat) 0 rfl (fun i => [(0, .pointer (some ⟨g, 0, none⟩)), (4, .int .i64 m.calls), (5, .int .i64 (i : Int))])
    (fun i w' => Blk w' g 59 (fsC { m with calls := m.calls + 1 } (.slice AF m.flts.length cF) (.slice A n c) vn) ∧ Fr (· = g) w w' ∧ i ≤ m.flts.length ∧ m.down = false ∧ (m.flts.drop i).find? (fun a => decide (a.1 = m.calls)) = m.flts.find? (fun a => decide (a.1 = m.calls)))
    (fun i => m.flts.length - i) ?_ ?_
  · rintro i w1 ⟨hB1, hF1, hi, hd, hgo⟩
    have k1 : w1.cell? ⟨g, 1, none⟩ = some (.slice AF m.flts.length cF) := hB1.cell 1
    by_cases hlt : i < m.flts.length
    · obtain ⟨b, o, a, rfl, _, hx, hdr, hcell⟩ := hAF.at_ hlt
      have hbg : b ≠ g := hne ha
      have q0 : w1.cell? ⟨b, o + i * 2 + 0, none⟩ = some (.int .i64 a.1) := hF1.cell (hcell 0 _ rfl) hbg
      have q1 : w1.cell? ⟨b, o + i * 2 + 1, none⟩ = some (.int .i64 a.2) := hF1.cell (hcell 1 _ rfl) hbg
      rw [hdr, List.find?_cons] at hgo
      by_cases h1 : a.1 = m.calls
      · rw [decide_eq_true h1] at hgo
        dsimp only at hgo
        by_cases h3 : a.2 = 3
        · have hbm : begM m = (3, 12, { m with calls := m.calls + 1, down := true }) := by
            unfold begM; rw [if_neg (by rw [hd]; decide), ← hgo]; dsimp only; rw [if_pos h3]
          repeat' (first | refine xizq i (o + i * 2) rfl rfl rfl rfl rfl hlt ?_ | refine go1L ?_ | fail)
          refine xstb hB1 rfl rfl (by kernel_rfl) rfl rfl (fun w2 hB2 hF2 => ?_)
          refine goL ?_
          exact tret2 rfl rfl rfl ⟨by rw [hbm, h3], by rw [hbm]; exact hB2, hF1.trans hF2 fun _ _ h => h⟩
        · have hbm : begM m = (a.2, 11, { m with calls := m.calls + 1 }) := by
            unfold begM; rw [if_neg (by rw [hd]; decide), ← hgo]; dsimp only; rw [if_neg h3]
          repeat' (first | refine xizq i (o + i * 2) rfl rfl rfl rfl rfl hlt ?_ | refine go1L ?_ | fail)
          exact tret2 rfl rfl rfl ⟨by rw [hbm], by rw [hbm]; exact hB1, hF1⟩
      · rw [decide_eq_false h1] at hgo
        dsimp only at hgo
        repeat' (first | refine xizq i (o + i * 2) rfl rfl rfl rfl rfl hlt ?_ | refine go1L ?_ | fail)
        exact tgoto rfl ⟨_, by dsimp only; omega, rfl, i + 1, sub ⟨rfl, rfl, rfl⟩, ⟨hB1, hF1, hlt, hd, hgo⟩, rfl⟩
    · obtain rfl : i = m.flts.length := by omega
      rw [List.drop_length] at hgo
      have hbm : begM m = (0, 0, { m with calls := m.calls + 1 }) := by
        unfold begM; rw [if_neg (by rw [hd]; decide), ← hgo]; rfl
      refine goL ?_
      exact tret2 rfl rfl rfl ⟨by rw [hbm], by rw [hbm]; exact hB1, hF1⟩
  · intro H
    rcases Bool.eq_false_or_eq_true m.down with hd | hd
    · rw [hd] at k3
      refine goL ?_
      refine xcall rfl rfl hnone ?_
      rintro r w1 ⟨rfl, rfl⟩
      refine goL ?_
      exact tret2 rfl rfl rfl ⟨by rw [begM_down hd], by rw [begM_down hd]; exact hB, Fr.refl _ _⟩
    · rw [hd] at k3
      refine goL ?_
      refine xcall rfl rfl hnone ?_
      rintro r w1 ⟨rfl, rfl⟩
      refine goL ?_
      refine xstb hB rfl rfl (by kernel_rfl) rfl rfl (fun w2 hB2 hF2 => ?_)
      refine goL ?_
      refine tlabel ?_
      exact tweak (H 0 w2 ⟨hB2, hF2, Nat.zero_le _, hd, rfl⟩) (sub ⟨rfl, rfl, rfl⟩)
end Eng
end Go.Proofs.YtiebbecknfpdeaaDoor
namespace Go.Proofs.YtiebbecknfpdeaaDoor
open Go.RowKit
namespace Eng
/-- A tree as a filesystem holds it: good, its entries rising. -/
structure FsT (t : Tre) : Prop where
  g : GoodT t
  a : t.es.Pairwise ltE
def kindP (t : Tre) (p : Str) : Int := match findT t.es p with
  | some k => kindAt t.ns k
  | none => 0
theorem kindP_of {t : Tre} (h : FsT t) {d : En} (hd : d ∈ t.es) : kindP t d.path = kindAt t.ns d.node := by
  unfold kindP; rw [findT_nodup h.g.nd hd]
def nextO : List Int → Int × List Int
  | [] => (0, [])
  | n :: r => (n, r)
structure WkS where
  m : FsM
  o : List Int
  met : List Str
def visL (look : Str → WkS → Int × WkS) (p : Str) : List Str → WkS → Int × WkS
  | [], s => (0, s)
  | x :: r, s => if (look (joinB p x) s).1 = 0 then visL look p r (look (joinB p x) s).2 else look (joinB p x) s
def belM (look : Str → WkS → Int × WkS) (t : Tre) (p : Str) (s : WkS) : Int × WkS :=
  if (begM s.m).2.1 = 0 then visL look p (ordM (kidsT t p).length (kidsT t p) (uN (nextO s.o).1)) { s with m := (begM s.m).2.2, o := (nextO s.o).2 }
  else ((begM s.m).2.1, { s with m := (begM s.m).2.2 })
/-- A node is got, and what is below it is looked at. -/
def lookM (t : Tre) : Nat → Str → WkS → Int × WkS
  | 0, _, s => (0, s)
  | f + 1, p, s =>
    if (begM s.m).2.1 = 0 then
      if kindP t p = 1 then belM (lookM t f) t p { s with m := (begM s.m).2.2, met := s.met ++ [p] }
      else (0, { s with m := (begM s.m).2.2, met := s.met ++ [p] })
    else ((begM s.m).2.1, { s with m := (begM s.m).2.2 })
theorem begM_ok {m : FsM} (h : (begM m).2.1 = 0) : (begM m).2.2 = { m with calls := m.calls + 1 } := by
  unfold begM at *
  by_cases hd : m.down = true
  · rw [if_pos hd] at h; exact absurd h (by show ¬ ((12 : Int) = 0); decide)
  · rw [if_neg hd] at h ⊢
    cases hf : m.flts.find? (fun a => decide (a.1 = m.calls)) with
    | none => rfl
    | some a =>
      rw [hf] at h
      dsimp only at h
      split at h
      · exact absurd h (by show ¬ ((12 : Int) = 0); decide)
      · exact absurd h (by show ¬ ((11 : Int) = 0); decide)
theorem kid_of {t : Tre} (h : FsT t) {d : En} (hd : d ∈ t.es) {k : Str} (hk : k ∈ kidsT t d.path) : ∃ e ∈ t.es, joinP d.path k = some e.path ∧ e.path = joinB d.path k ∧ partsP e.path = partsP d.path ++ [k] := by
  obtain ⟨e, he, h1, rfl⟩ := kid_mem hk
  obtain ⟨h2, h3⟩ := par_some h1
  have hj := join_up (h.g.path e he) (h3 ▸ h.g.path d hd) h2
  rw [h3] at hj
  refine ⟨e, he, hj, ?_, (joinP_op hj).2.1⟩
  unfold joinP at hj
  split at hj
  · split at hj
    · exact (Option.some.inj hj).symm
    · cases hj
  · cases hj
theorem kids_nodup {t : Tre} (h : FsT t) {d : En} (hd : d ∈ t.es) : (kidsT t d.path).Nodup := by
  unfold kidsT
  rw [List.Nodup, List.pairwise_map]
  refine (h.a.sublist List.filter_sublist).imp_of_mem fun {a b} ha hb hab e => ?_
  obtain ⟨a1, a2⟩ := List.mem_filter.1 ha
  obtain ⟨b1, b2⟩ := List.mem_filter.1 hb
  have := less_last (h.g.path a a1) (h.g.path b b1) (h.g.path d hd) (of_decide_eq_true a2) (of_decide_eq_true b2) hab
  rw [e, bl_irr] at this
  cases this
theorem kids_dir {t : Tre} (h : FsT t) {d : En} (hd : d ∈ t.es) {k : Str} (hk : k ∈ kidsT t d.path) : kindAt t.ns d.node = 1 := by
  obtain ⟨e, he, h1, _⟩ := kid_mem hk
  obtain ⟨h2, h3⟩ := par_some h1
  have hne : e.path ≠ [] := fun e0 => by rw [e0, partsP_nil] at h2; exact h2 rfl
  obtain ⟨x, hx, h4, h5⟩ := h.g.par e he hne
  rw [← nodup_path h.g.nd hx hd (h4.trans h3)]
  exact h5
/-- All paths under a path. -/
def underL (t : Tre) (p : Str) : List Str := (t.es.filter fun e => underP e.path p).map (·.path)
theorem mem_underL {t : Tre} (h : FsT t) {p q : Str} (hp : mayP p = true) : q ∈ underL t p ↔ ∃ e ∈ t.es, e.path = q ∧ partsP p <+: partsP q := by
  unfold underL
  rw [List.mem_map]
  constructor
  · rintro ⟨e, he, rfl⟩
    obtain ⟨h1, h2⟩ := List.mem_filter.1 he
    exact ⟨e, h1, rfl, (under_iff (h.g.path e h1) hp).1 h2⟩
  · rintro ⟨e, he, rfl, h2⟩
    exact ⟨e, List.mem_filter.2 ⟨he, (under_iff (h.g.path e he) hp).2 h2⟩, rfl⟩
theorem underL_nodup {t : Tre} (h : FsT t) (p : Str) : (underL t p).Nodup := h.g.nd.sublist (List.Sublist.map _ List.filter_sublist)
theorem up_ent {t : Tre} (h : FsT t) {e : En} (he : e ∈ t.es) (h0 : partsP e.path ≠ []) : ∃ d ∈ t.es, parP e.path = some d.path ∧ partsP e.path = partsP d.path ++ [lastP e.path] ∧ kindAt t.ns d.node = 1 := by
  have hne : e.path ≠ [] := fun e0 => by rw [e0, partsP_nil] at h0; exact h0 rfl
  obtain ⟨d, hd, h1, h2⟩ := h.g.par e he hne
  refine ⟨d, hd, by unfold parP; rw [if_neg h0, h1], ?_, h2⟩
  have hj := join_up (h.g.path e he) (h1 ▸ h.g.path d hd) h0
  rw [← h1] at hj
  exact (joinP_op hj).2.1
theorem under_kid {t : Tre} (h : FsT t) {d : En} (_ : d ∈ t.es) : ∀ (n : Nat) (e : En), e ∈ t.es → (partsP e.path).length ≤ n → partsP d.path <+: partsP e.path → e.path ≠ d.path → ∃ x ∈ kidsT t d.path, partsP d.path ++ [x] <+: partsP e.path
  | 0, e, he, hl, hp, hne => by
    have h0 : partsP e.path = [] := List.eq_nil_of_length_eq_zero (by omega)
    rw [h0] at hp
    have h1 := List.eq_nil_of_prefix_nil hp
    rename_i hd
    exact absurd (parts_inj (h.g.path e he) (h.g.path d hd) (h0.trans h1.symm)) hne
  | n + 1, e, he, hl, hp, hne => by
    rename_i hd
    have hpe : partsP d.path ≠ partsP e.path := fun e' => hne (parts_inj (h.g.path e he) (h.g.path d hd) e'.symm)
    have h0 : partsP e.path ≠ [] := fun e0 => by
      rw [e0] at hp hpe
      exact hpe (List.eq_nil_of_prefix_nil hp)
    obtain ⟨u, hu, h1, h2, _⟩ := up_ent h he h0
    have hpu : partsP d.path <+: partsP u.path := by
      have := prefix_drop hp hpe
      rwa [h2, List.dropLast_concat] at this
    by_cases hud : u.path = d.path
    · refine ⟨lastP e.path, ?_, ?_⟩
      · unfold kidsT
        exact List.mem_map.2 ⟨e, List.mem_filter.2 ⟨he, by rw [h1, hud]; exact decide_eq_true rfl⟩, rfl⟩
      · rw [← hud, ← h2]; exact List.prefix_refl _
    · obtain ⟨x, hx, h3⟩ := under_kid h hd n u hu (by rw [h2, List.length_append] at hl; simp only [List.length_cons, List.length_nil] at hl; omega) hpu hud
      exact ⟨x, hx, h3.trans (by rw [h2]; exact List.prefix_append _ _)⟩
theorem under_split {t : Tre} (h : FsT t) {d : En} (hd : d ∈ t.es) : (underL t d.path).Perm (d.path :: (kidsT t d.path).flatMap fun x => underL t (joinB d.path x)) := by
  have hdm := h.g.path d hd
  have hnd : (d.path :: (kidsT t d.path).flatMap fun x => underL t (joinB d.path x)).Nodup := by
    rw [List.nodup_cons]
    refine ⟨fun hm => ?_, ?_⟩
    · obtain ⟨x, hx, hq⟩ := List.mem_flatMap.1 hm
      obtain ⟨e, he, _, h2, h3⟩ := kid_of h hd hx
      rw [← h2] at hq
      obtain ⟨_, _, _, h5⟩ := (mem_underL h (h.g.path e he)).1 hq
      have := h5.length_le
      rw [h3, List.length_append] at this
      simp only [List.length_cons, List.length_nil] at this
      omega
    · rw [List.Nodup, List.pairwise_flatMap]
      refine ⟨fun x _ => underL_nodup h _, (kids_nodup h hd).imp_of_mem fun {a b} ha hb hab x hx y hy hxy => hab ?_⟩
      subst hxy
      obtain ⟨e, he, _, h2, h3⟩ := kid_of h hd ha
      obtain ⟨e', he', _, h2', h3'⟩ := kid_of h hd hb
      rw [← h2] at hx
      rw [← h2'] at hy
      obtain ⟨_, _, _, h5⟩ := (mem_underL h (h.g.path e he)).1 hx
      obtain ⟨_, _, _, h6⟩ := (mem_underL h (h.g.path e' he')).1 hy
      rw [h3] at h5
      rw [h3'] at h6
      obtain ⟨r, h7⟩ := h5
      obtain ⟨r', h8⟩ := h6
      rw [← h8, List.append_assoc, List.append_assoc] at h7
      have := List.append_cancel_left h7
      simp only [List.singleton_append] at this
      injection this
  rw [List.perm_ext_iff_of_nodup (underL_nodup h _) hnd]
  intro q
  rw [mem_underL h hdm, List.mem_cons, List.mem_flatMap]
  constructor
  · rintro ⟨e, he, rfl, hp⟩
    by_cases hne : e.path = d.path
    · exact .inl hne
    · obtain ⟨x, hx, h3⟩ := under_kid h hd _ e he (Nat.le_refl _) hp hne
      obtain ⟨e', he', _, h2', h3'⟩ := kid_of h hd hx
      exact .inr ⟨x, hx, by rw [← h2']; exact (mem_underL h (h.g.path e' he')).2 ⟨e, he, rfl, by rw [h3']; exact h3⟩⟩
  · rintro (rfl | ⟨x, hx, hq⟩)
    · exact ⟨d, hd, rfl, List.prefix_refl _⟩
    · obtain ⟨e', he', _, h2', h3'⟩ := kid_of h hd hx
      rw [← h2'] at hq
      obtain ⟨e, he, h5, h6⟩ := (mem_underL h (h.g.path e' he')).1 hq
      exact ⟨e, he, h5, (by rw [h3'] at h6; exact (List.prefix_append _ _).trans h6)⟩
theorem under_leaf {t : Tre} (h : FsT t) {d : En} (hd : d ∈ t.es) (hk : kindAt t.ns d.node ≠ 1) : (underL t d.path).Perm [d.path] := by
  have := under_split h hd
  have h0 : kidsT t d.path = [] := by
    cases hx : kidsT t d.path with
    | nil => rfl
    | cons x r => exact absurd (kids_dir h hd (k := x) (by rw [hx]; exact List.mem_cons_self)) hk
  rwa [h0] at this
def isD (t : Tre) (p : Str) : Bool := decide (kindP t p = 1)
def doneS (t : Tre) (s : WkS) (L : List Str) (o : List Int) : WkS := ⟨{ s.m with calls := s.m.calls + ((L.length + L.countP (isD t) : Nat) : Int) }, o, s.met ++ L⟩
theorem vis_ok {t : Tre} (look : Str → WkS → Int × WkS) (p : Str) : ∀ (xs : List Str), (∀ x ∈ xs, ∀ s s', look (joinB p x) s = (0, s') → ∃ L o, L.Perm (underL t (joinB p x)) ∧ s' = doneS t s L o) → ∀ s s', visL look p xs s = (0, s') → ∃ L o, L.Perm (xs.flatMap fun x => underL t (joinB p x)) ∧ s' = doneS t s L o
  | [], _, s, s', h => by
    rw [visL] at h
    injection h with _ h
    refine ⟨[], s.o, List.Perm.refl _, ?_⟩
    rw [← h]
    unfold doneS
    simp
  | x :: xs, H, s, s', h => by
    rw [visL] at h
    split at h
    · rename_i h0
      obtain ⟨L1, o1, h1, h2⟩ := H x List.mem_cons_self s (look (joinB p x) s).2 (by rw [← h0])
      obtain ⟨L2, o2, h3, h4⟩ := vis_ok look p xs (fun y hy => H y (List.mem_cons_of_mem _ hy)) _ _ h
      refine ⟨L1 ++ L2, o2, by rw [List.flatMap_cons]; exact h1.append h3, ?_⟩
      rw [h4, h2]
      unfold doneS
      dsimp only
      rw [List.append_assoc, List.length_append, List.countP_append]
      congr 2
      omega
    · rename_i h0
      rw [h] at h0
      exact absurd rfl h0
theorem look_ok {t : Tre} (h : FsT t) : ∀ (f : Nat) (d : En), d ∈ t.es → 9 ≤ (partsP d.path).length + f → ∀ s s', lookM t f d.path s = (0, s') → ∃ L o, L.Perm (underL t d.path) ∧ s' = doneS t s L o
  | 0, d, _, hf, _, _, _ => by have := parts_len d.path; omega
  | f + 1, d, hd, hf, s, s', hs => by
    rw [lookM] at hs
    split at hs
    · rename_i hb
      rw [kindP_of h hd, begM_ok hb] at hs
      have hD : isD t d.path = decide (kindAt t.ns d.node = 1) := by unfold isD; rw [kindP_of h hd]
      split at hs
      · rename_i hk
        unfold belM at hs
        dsimp only at hs
        split at hs
        · rename_i hb2
          rw [begM_ok hb2] at hs
          have hperm := ordM_perm (kidsT t d.path).length (kidsT t d.path) (uN (nextO s.o).1) rfl
          obtain ⟨L, o, h1, h2⟩ := vis_ok (t := t) (lookM t f) d.path _ (fun x hx s s' hl => by
            obtain ⟨e, he, _, h2, h3⟩ := kid_of h hd (hperm.mem_iff.1 hx)
            rw [← h2] at hl ⊢
            exact look_ok h f e he (by rw [h3, List.length_append]; simp only [List.length_cons, List.length_nil]; omega) s s' hl) _ _ hs
          refine ⟨d.path :: L, o, ((h1.trans (hperm.flatMap_right _)).cons _).trans (under_split h hd).symm, ?_⟩
          rw [h2]
          unfold doneS
          dsimp only
          rw [List.append_assoc, List.singleton_append, List.length_cons, List.countP_cons, hD, decide_eq_true hk]
          congr 2
          simp only [if_true]
          omega
        · rename_i hb2
          injection hs with e1
          exact absurd e1 hb2
      · rename_i hk
        injection hs with _ hs
        refine ⟨[d.path], s.o, (under_leaf h hd hk).symm, ?_⟩
        rw [← hs]
        unfold doneS
        dsimp only
        rw [List.length_singleton, List.countP_cons, List.countP_nil, hD, decide_eq_false hk]
        rfl
    · rename_i hb
      injection hs with e1
      exact absurd e1 hb
theorem wrong_zero {t : Tre} (h : FsT t) : ∀ (f : Nat) (d : En), d ∈ t.es → wrongU t f (parP d.path) 0 = 0
  | 0, _, _ => rfl
  | f + 1, d, hd => by
    by_cases h0 : partsP d.path = []
    · have : parP d.path = none := by unfold parP; rw [if_pos h0]
      rw [this]; rfl
    · obtain ⟨u, hu, h1, _, h3⟩ := up_ent h hd h0
      rw [h1, wrongU, findT_nodup h.g.nd hu]
      show (if kindAt t.ns u.node = 1 then _ else _) = (0 : Int)
      rw [if_pos h3]
      exact wrong_zero h f u hu
theorem find_ent {t : Tre} (h : FsT t) {d : En} (hd : d ∈ t.es) : wrongM t d.path = 0 ∧ findM t d.path = (d.node, 0) := by
  have hw : wrongM t d.path = 0 := by
    unfold wrongM
    rw [if_pos (h.g.path d hd)]
    exact wrong_zero h _ d hd
  refine ⟨hw, ?_⟩
  unfold findM
  rw [if_neg (by rw [hw]; decide), findT_nodup h.g.nd hd]
theorem norm_perm {t : Tre} {s : List En} (h : s.Perm t.es) : normT ⟨s, t.ns⟩ = normT t := by
  have h1 := norm_any (t := t) ((sortE_perm s).trans h) (sortE_sorted s)
  have h2 := norm_any (t := ⟨s, t.ns⟩) (sortE_perm s) (sortE_sorted s)
  rw [← h1, ← h2]
/-- What was met is the whole tree. -/
theorem met_norm {u : Tre} (h : mayT u = true) {L : List Str} (hL : L.Perm (u.es.map (·.path))) : normT ⟨L.map fun p => ⟨p, (findT u.es p).getD 0⟩, u.ns⟩ = some u := by
  rw [← norm_same h]
  refine norm_perm ?_
  refine (hL.map fun p => (⟨p, (findT u.es p).getD 0⟩ : En)).trans ?_
  rw [List.map_map]
  have : u.es.map ((fun p => (⟨p, (findT u.es p).getD 0⟩ : En)) ∘ (·.path)) = u.es := by
    conv => rhs; rw [← List.map_id u.es]
    refine List.map_congr_left fun e he => ?_
    show (⟨e.path, (findT u.es e.path).getD 0⟩ : En) = e
    rw [findT_nodup (may_good h).nd he]
    rfl
  rw [this]
theorem under_root {t : Tre} (h : FsT t) : (underL t []).Perm (t.es.map (·.path)) := by
  unfold underL
  have : t.es.filter (fun e => underP e.path []) = t.es := List.filter_eq_self.2 fun e he => under_nil (h.g.path e he)
  rw [this]
end Eng
end Go.Proofs.YtiebbecknfpdeaaDoor
namespace Go.Proofs.YtiebbecknfpdeaaDoor
open Go.RowKit
namespace Eng
def roomM (t : Tre) (p : Str) : Int := if (findT t.es p).isSome then 6 else if 100 ≤ t.es.length then 13 else 0
def atP (p : Str) : List En → Nat
  | [] => 0
  | e :: r => if lessP e.path p then atP p r + 1 else 0
theorem atP_le (p : Str) : ∀ l, atP p l ≤ l.length
  | [] => Nat.le_refl _
  | e :: r => by
    rw [atP, List.length_cons]
    have := atP_le p r
    split <;> omega
def insP (es : List En) (p : Str) (k : Int) : List En := es.take (atP p es) ++ ⟨p, k⟩ :: es.drop (atP p es)
def timeN (n : Nd) (c : Int) : Nd := { n with time := c }
def stampN (t : Tre) (p : Str) (c : Int) : List Nd := match parP p with
  | none => t.ns
  | some q => match findT t.es q with
    | none => t.ns
    | some k => t.ns.set k.toNat (timeN (t.ns.getD k.toNat default) c)
def stampT (t : Tre) (p : Str) (c : Int) : Tre := ⟨t.es, stampN t p c⟩
def enterT (t : Tre) (p : Str) (k : Int) (c : Int) : Tre := stampT ⟨insP t.es p k, t.ns⟩ p c
def madeN (n : Nd) (c : Int) : Nd := ⟨n.kind, n.mode, 0, 0, c, [], [], 0, [], n.target, n.major, n.minor⟩
def makeE (m : FsM) (t : Tre) (p : Str) (n : Nd) : Int :=
  if (begM m).2.1 ≠ 0 then (begM m).2.1 else if wrongM t p ≠ 0 then wrongM t p else if nodeOK n = false then 1 else roomM t p
def makeT (m : FsM) (t : Tre) (p : Str) (n : Nd) : Tre :=
  if makeE m t p n = 0 then enterT ⟨t.es, t.ns ++ [madeN n (begM m).2.2.calls]⟩ p t.ns.length (begM m).2.2.calls else t
end Eng
end Go.Proofs.YtiebbecknfpdeaaDoor
