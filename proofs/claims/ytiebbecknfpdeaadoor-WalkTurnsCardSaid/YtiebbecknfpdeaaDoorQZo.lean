/-
  Package walk: look and visit.
-/
import Derived.Test.YtiebbecknfpdeaaDoorQB8
namespace Go.Proofs.YtiebbecknfpdeaaDoor
open Go.RowKit
namespace Eng
attribute [local irreducible] xs T
/-- What a walk that goes on comes to. -/
def WkR (B gw g : Nat) (t u : Tre) (vf ve vn : Value) (nvs : List NdV) (ve' vn' vm : Value) (w : World) (y : Int × WkS) (r : Value) (w' : World) : Prop :=
  r = .int .i64 y.1 ∧ Fr (WkF g gw vn' vm) w w' ∧ ∃ vo2 vm2 nvu2, WkI w' B gw g t u vf ve vn nvs y.2 vo2 ve' vn' vm2 nvu2 ∧ ∀ b, vm2.ownBlock = some b → vm.ownBlock = some b ∨ w.heap.size ≤ b
def LookC (f B gw g : Nat) (t u : Tre) (vf ve vn : Value) (nvs : List NdV) : Prop := ∀ (w : World) (s : WkS) (vo ve' vn' vm : Value) (nvu : List NdV) (d : En), WkI w B gw g t u vf ve vn nvs s vo ve' vn' vm nvu → d ∈ t.es → 9 ≤ (partsP d.path).length + f → 0 ≤ s.m.calls → s.m.calls + bdF f ≤ 4000000000000000000 → s.met.length + (underL t d.path).length ≤ 1000 →
  Does Tryd.prog 20 #[.pointer (some ⟨gw, 0, none⟩), .string (su d.path)] w (WkR B gw g t u vf ve vn nvs ve' vn' vm w (lookM t f d.path s))
def VisC (f B gw g : Nat) (t u : Tre) (vf ve vn : Value) (nvs : List NdV) : Prop := ∀ (w : World) (s : WkS) (vo ve' vn' vm : Value) (nvu : List NdV) (d : En), WkI w B gw g t u vf ve vn nvs s vo ve' vn' vm nvu → d ∈ t.es → kindAt t.ns d.node = 1 → 9 ≤ (partsP d.path).length + (f + 1) → 0 ≤ s.m.calls → s.m.calls + (1 + 100 * bdF f) ≤ 4000000000000000000 → s.met.length + ((kidsT t d.path).flatMap fun x => underL t (joinB d.path x)).length ≤ 1000 →
  Does Tryd.prog 35 #[.pointer (some ⟨gw, 0, none⟩), .string (su d.path)] w (WkR B gw g t u vf ve vn nvs ve' vn' vm w (belM (lookM t f) t d.path s))
theorem WkR.of {B gw g : Nat} {t u : Tre} {vf ve vn : Value} {nvs : List NdV} {ve' vn' vm vm1 : Value} {w w1 : World} {y : Int × WkS} {r : Value} {w' : World} (h : WkR B gw g t u vf ve vn nvs ve' vn' vm1 w1 y r w') (hF : Fr (WkF g gw vn' vm) w w1) (hv : ∀ b, vm1.ownBlock = some b → vm.ownBlock = some b ∨ w.heap.size ≤ b) : WkR B gw g t u vf ve vn nvs ve' vn' vm w y r w' := by
  obtain ⟨h1, h2, vo2, vm2, nvu2, h3, h4⟩ := h
  have hz := hF.size
  refine ⟨h1, hF.trans h2 fun b hb hs => ?_, vo2, vm2, nvu2, h3, fun b hb => ?_⟩
  · rcases hs with h | h | h | h
    · exact .inl h
    · exact .inr (.inl h)
    · exact .inr (.inr (.inl h))
    · rcases hv b h with h | h
      · exact .inr (.inr (.inr h))
      · omega
  · rcases h4 b hb with h | h
    · exact hv b h
    · exact .inr (by omega)
set_option maxRecDepth 20000 in
set_option maxHeartbeats 8000000 in
theorem look_does {B gw g : Nat} {t u : Tre} {vf ve vn : Value} {nvs : List NdV} (ht : FsT t) (hu : normT t = some u) (f : Nat) (hV : VisC f B gw g t u vf ve vn nvs) : LookC (f + 1) B gw g t u vf ve vn nvs := by
  intro w s vo ve' vn' vm nvu d h hd hf hc0 hc hM
  have hc1 : s.m.calls ≤ 4000000000000000000 := by rw [bdF] at hc; have := bdF_pos f; omega
  refine does2 Tryd.func20 rfl (by kernel_rfl) ?_
  obtain ⟨AN, cN, rfl, hcN1, hcN2⟩ := h.un.form
  obtain ⟨AM, cM, rfl, hcM1, hcM2⟩ := h.me.form
  obtain ⟨AE, cE, rfl, hcE1, hcE2⟩ := h.ue.form
  have hkb := h.kb
  have hgB := h.gB
  have k0 : w.cell? ⟨gw, 0, none⟩ = some (.pointer (some ⟨g, 0, none⟩)) := h.k.cell 0
  obtain ⟨hw0, hfd⟩ := find_ent ht hd
  obtain ⟨k, hk1, hk2⟩ := norm_find hu hd
  have hkd := kindP_of ht hd
  refine goL ?_
  refine xcall rfl rfl (get_does w g s.m vf ve vn nvs t d.path h.fs ⟨hc0, hc1⟩) ?_
  rintro r w1 ⟨x', rfl, hx1, hxn, hf1, hF1⟩
  have h1 := h.put hF1 hf1
  have hF01 : Fr (WkF g gw (.slice AN nvu.length cN) (.slice AM (metE u s.met).length cM)) w w1 := hF1.mono fun b _ hb => .inl hb
  refine goL ?_
  refine xalloc (z := .agg nd0) (by kernel_rfl) (fun w2 hB2 hE2 hs2 => ?_)
  refine goL ?_
  refine xsta hB2 rfl rfl (by kernel_rfl) rfl (one_cells (l := ndC x') (List.all_eq_true.2 (ndC_one hx1.in))) (fun w3 hB3 hF3 => ?_)
  have hE13 : Ext w1 w3 := hE2.trans hF3 fun j hj e => by have : j = w1.heap.size := e; omega
  have h3 := h1.ext hE13
  have z1 := hF1.size
  have z3 := hE13.size
  by_cases e : (begM s.m).2.1 = 0
  · have hge : getE s.m t d.path = 0 := by unfold getE; rw [if_pos e, hfd]
    rw [hge]
    have hxn' : x'.n = t.ns.getD d.node.toNat default := by rw [hxn, if_pos hge, hfd]; rfl
    have hku : k < u.ns.length := (List.getElem?_eq_some_iff.1 hk2).1
    have hul : nvu.length = u.ns.length := by have := congrArg List.length h.um; simpa using this
    obtain ⟨gN, cN', e6, hgN, hgN2, _, _, _⟩ := OwnZ.go h.un (by omega)
    injection e6 with e6 _ e7
    subst e6
    have hlk : lookM t (f + 1) d.path s = (if kindAt t.ns d.node = 1 then belM (lookM t f) t d.path { s with m := (begM s.m).2.2, met := s.met ++ [d.path] } else (0, { s with m := (begM s.m).2.2, met := s.met ++ [d.path] })) := by
      rw [lookM, if_pos e, hkd]
    rw [hlk]
    refine goL ?_
    refine xldz (cs := [.slice AE u.es.length cE, .slice (some ⟨gN, 0, none⟩) nvu.length cN]) rfl (by kernel_rfl) (fun j v hj => ?_) ?_
    · rcases j with _ | _ | j
      · injection hj with hj; subst hj; exact h3.k.cell 2
      · injection hj with hj; subst hj; exact h3.k.cell 3
      · simp at hj
    refine goL ?_
    refine xcall rfl rfl (find_does w3 _ _ u.es d.path h3.ue.rw) ?_
    rintro r w4 ⟨rfl, hE4⟩
    have h4' := h3.ext hE4
    have hE4d : Ext w3 w4.drew := hE4.d
    have h4 := h3.ext hE4d
    rw [hk1]
    simp only [Option.getD_some, Option.isSome_some]
    have k3 : w4.cell? ⟨gw, 3, none⟩ = some (.slice (some ⟨gN, 0, none⟩) nvu.length cN) := h4'.k.cell 3
    have k3d : w4.drew.cell? ⟨gw, 3, none⟩ = some (.slice (some ⟨gN, 0, none⟩) nvu.length cN) := k3
    have hB4 := Blk.ext hB3 hE4d
    refine goL ?_
    refine xlda (t := 39) hB4 rfl rfl ?_
    repeat' (first | refine xizq k (k * 12) rfl rfl rfl rfl (by omega) (by omega) ?_ | refine go1L ?_ | fail)
    have hx4 : NdO w4.drew B x' := ((hx1.ext hE13).ext hE4d).mono (by have := h.k.lt; omega)
    refine xstow ndC_len k h4.un rfl rfl rfl (by kernel_rfl) (ndC_one hx4.in) (by omega) (fun w5 hO5 hF5 => ?_)
    have hgNw : ¬ gw = gN := by
      obtain ⟨csN, hN⟩ := h4.un.typ rfl
      exact h4.k.ne_ hN (by decide)
    have k4 : w5.cell? ⟨gw, 4, none⟩ = some (.slice AM (metE u s.met).length cM) := (h4.k.fr hF5 hgNw).cell 4
    refine goL ?_
    refine xbd (cells := (enC ⟨d.path, (k : Int)⟩).toArray) rfl (by kernel_rfl) ?_
    refine goL ?_
    refine xbz1 sl_ents rfl rfl (by decide) (by decide) (fun w6 hB6 hE6 hs6 => ?_)
    have hml : (metE u s.met).length ≤ 1000000 := by
      unfold metE
      rw [List.length_map]
      omega
    have hm5 : Ow enC 2 w5 B 50 (.slice AM (metE u s.met).length cM) (metE u s.met) := h4.me.fr hF5 fun b hb => by
      rintro rfl
      obtain ⟨csN, hN⟩ := h4.un.typ rfl
      obtain ⟨cm, hm⟩ := h4.me.typ hb
      exact hm.ne_ hN (by decide) rfl
    have hm6 := hm5.ext hE6
    unfold Ow at hm6
    have z4 := hE4d.size; have z5 := hF5.size; have z6 := hE6.size
    refine xapz (news := enC ⟨d.path, (k : Int)⟩) sl_ents rfl (by decide) rfl hm6 rfl (blk_row hB6 (by decide) rfl) rfl (fun v hv => by have := enC_one ([⟨d.path, (k : Int)⟩] : List En) v; simp at this; exact this hv) (by unfold maxLen; omega) (by omega) (by have := h.k.lt; omega) (fun v7 w7 hO7 hF7 hv7 => ?_)
    have hO7' : Ow enC 2 w7 B 50 v7 (metE u s.met ++ [⟨d.path, (k : Int)⟩]) := Ow.ext1 (cf := enC) (l' := ([⟨d.path, (k : Int)⟩] : List En)) (by simpa using hO7)
    obtain ⟨A7, c7, rfl, _, _⟩ := hO7'.form
    have hF57 : Fr (fun b => (Value.slice AM (metE u s.met).length cM).ownBlock = some b) w5 w7 := hE6.fr.t hF7
    have hk7 : Blk w7 gw 63 (wkC g vo (.slice AE u.es.length cE) (.slice (some ⟨gN, 0, none⟩) nvu.length cN) (.slice AM (metE u s.met).length cM)) := (h4.k.fr hF5 hgNw).fr hF57 fun e => by
      obtain ⟨cm, hm⟩ := h4.me.typ e
      exact hm.ne_ h4.k (by decide) rfl
    refine goL ?_
    refine xstb hk7 rfl rfl (by kernel_rfl) rfl rfl (fun w8 hB8 hF8 => ?_)
    have hx8 := WkI.met h4 hx4 (k := k) (p := d.path) (by rw [hxn']; exact hk2) hk1 hO5 hF5 hO7' hF57 (fun b hb => hv7.elim (fun e => .inl (by rw [← e]; exact hb)) fun e => .inr (by rw [e] at hb; injection hb with hb; omega)) hB8 hF8
    obtain ⟨h8, hF48⟩ := hx8
    have hF04 : Fr (WkF g gw (.slice (some ⟨gN, 0, none⟩) nvu.length cN) (.slice AM (metE u s.met).length cM)) w w4.drew := (hF01.te hE13).te hE4d
    have hF08 := hF04.t hF48
    have hv8 : ∀ b, (Value.slice A7 (metE u s.met ++ ([⟨d.path, (k : Int)⟩] : List En)).length c7).ownBlock = some b → (Value.slice AM (metE u s.met).length cM).ownBlock = some b ∨ w.heap.size ≤ b := fun b hb => hv7.elim (fun e => .inl (by rw [← e]; exact hb)) fun e => .inr (by rw [e] at hb; injection hb with hb; omega)
    have hkx : w8.cell? ⟨w1.heap.size, 0, none⟩ = some (.int .i64 x'.n.kind) := by
      have e1 := ((hB4.fr hF5 (show ¬ w1.heap.size = gN by omega)).fr hF57 (fun e => by have := (h.me.blk e).2; omega)).fr hF8 (show ¬ w1.heap.size = gw by have := h.k.lt; omega)
      exact e1.cell 0
    by_cases hkk : kindAt t.ns d.node = 1
    · have hx1' : x'.n.kind = 1 := by rw [hxn']; exact hkk
      rw [if_pos hkk]
      refine goL ?_
      refine xcall rfl rfl (hV w8 _ _ _ _ _ _ d h8 hd hkk (by omega) (by have := (begM_calls s.m).1; dsimp only; omega) (by have := (begM_calls s.m).2; rw [bdF] at hc; dsimp only; omega) (by have := (under_split ht hd).length_eq; rw [List.length_cons] at this; dsimp only; rw [List.length_append]; simp only [List.length_cons, List.length_nil]; omega)) ?_
      rintro r w9 hR
      have hR' := hR.of hF08 hv8
      obtain ⟨rfl, h9, h10⟩ := hR'
      refine goL ?_
      exact tret1 rfl rfl ⟨rfl, h9, h10⟩
    · have hx1' : ¬ x'.n.kind = 1 := by rw [hxn']; exact hkk
      rw [if_neg hkk]
      refine goL ?_
      exact tret1 rfl rfl ⟨rfl, hF08, _, _, _, h8, hv8⟩
  · have hge : getE s.m t d.path = (begM s.m).2.1 := by unfold getE; rw [if_neg e]
    have hlk : lookM t (f + 1) d.path s = ((begM s.m).2.1, { s with m := (begM s.m).2.2 }) := by rw [lookM, if_neg e]
    rw [hge, hlk]
    refine goL ?_
    exact tret1 rfl rfl ⟨rfl, hF01.te hE13, _, _, _, h3, fun _ hb => .inl hb⟩
/-- The loop over a directory's names: i are done. -/
structure ViS where
  i : Nat
  s : WkS
  vo : Value
  vm : Value
  nvu : List NdV
  vns : Value
theorem WkI.ord {w w' : World} {B gw g : Nat} {t u : Tre} {vf ve vn : Value} {nvs : List NdV} {s : WkS} {vo ve' vn' vm : Value} {nvu : List NdV} (h : WkI w B gw g t u vf ve vn nvs s vo ve' vn' vm nvu) {vo2 : Value} {o2 : List Int} (h8 : Blk w' gw 63 (wkC g vo2 ve' vn' vm)) (hF : Fr (· = gw) w w') (ho : OrdI w B g vo2 o2) : WkI w' B gw g t u vf ve vn nvs { s with o := o2 } vo2 ve' vn' vm nvu := by
  have hkb := h.kb
  have ne : ∀ {α : Type} {cf : α → List Value} {z : Nat} {e : TypeId} {v : Value} {l : List α}, Ow cf z w B e v l → e ≠ 63 → ∀ b, v.ownBlock = some b → ¬ b = gw := fun h1 he b hb e => by
    obtain ⟨cm, hm⟩ := h1.typ hb
    exact hm.ne_ h.k he e
  exact ⟨h.fs.fr hF fun b hb => by have := h.fb b hb; show ¬ b = gw; omega, h.fb, h8, hkb, ho.fr hF fun b hb => .inr (by have : b = gw := hb; omega), h.ue.fr hF (ne h.ue (by decide)), h.un.fr hF (ne h.un (by decide)), fun x hx => (h.ui x hx).fr hF fun b hb => (h.ui x hx).ne h.k (by decide) (by decide) (by decide) hb, h.um, h.me.fr hF (ne h.me (by decide)), h.sp⟩
structure ViI (B gw g : Nat) (t u : Tre) (vf ve vn : Value) (nvs : List NdV) (ve' vn' : Value) (look : Str → WkS → Int × WkS) (p : Str) (ns : List Str) (w0 : World) (vm0 : Value) (y : Int × WkS) (K : Int) (x : ViS) (w : World) : Prop where
  wk : WkI w B gw g t u vf ve vn nvs x.s x.vo ve' vn' x.vm x.nvu
  le : x.i ≤ ns.length
  ow : Ow stC 1 w B 9 x.vns ns
  go : visL look p (ns.drop x.i) x.s = y
  fr : Fr (WkF g gw vn' vm0) w0 w
  vm : ∀ b, x.vm.ownBlock = some b → vm0.ownBlock = some b ∨ w0.heap.size ≤ b
  c0 : 0 ≤ x.s.m.calls
  cK : x.s.m.calls + K * ((ns.length - x.i : Nat) : Int) ≤ 4000000000000000000
  mt : x.s.met.length + ((ns.drop x.i).flatMap fun x => underL t (joinB p x)).length ≤ 1000
theorem names_fr {w w' : World} {B gw g : Nat} {t u : Tre} {vf ve vn : Value} {nvs : List NdV} {s : WkS} {vo ve' vn' vm vns : Value} {nvu : List NdV} {ns : List Str} (h : WkI w B gw g t u vf ve vn nvs s vo ve' vn' vm nvu) (ho : Ow stC 1 w B 9 vns ns) (hF : Fr (WkF g gw vn' vm) w w') : Ow stC 1 w' B 9 vns ns :=
  ho.fr hF fun b hb hS => by
    obtain ⟨cs, hs⟩ := ho.typ hb
    have h1 := (ho.blk hb).1
    have h2 := h.gB
    rcases hS with rfl | rfl | hS | hS
    · omega
    · exact hs.ne_ h.k (by decide) rfl
    · obtain ⟨c2, hs2⟩ := h.un.typ hS
      exact hs.ne_ hs2 (by decide) rfl
    · obtain ⟨c2, hs2⟩ := h.me.typ hS
      exact hs.ne_ hs2 (by decide) rfl
set_option maxRecDepth 20000 in
set_option maxHeartbeats 8000000 in
theorem visit_does {B gw g : Nat} {t u : Tre} {vf ve vn : Value} {nvs : List NdV} (ht : FsT t) (f : Nat) (hL : LookC f B gw g t u vf ve vn nvs) : VisC f B gw g t u vf ve vn nvs := by
  intro w s vo ve' vn' vm nvu d h hd hkd hf hc0 hc hM
  have hK := bdF_pos f
  have hc1 : s.m.calls ≤ 4000000000000000000 := by omega
  refine does2 Tryd.func35 rfl (by kernel_rfl) ?_
  obtain ⟨hw0, hfd⟩ := find_ent ht hd
  have hkl : (kidsT t d.path).length ≤ 100 := by
    unfold kidsT
    rw [List.length_map]
    exact Nat.le_trans (List.length_filter_le _ _) ht.g.len
  have hperm := ordM_perm (kidsT t d.path).length (kidsT t d.path) (uN (nextO s.o).1) rfl
  obtain ⟨ns, hns⟩ : ∃ ns, ns = ordM (kidsT t d.path).length (kidsT t d.path) (uN (nextO s.o).1) := ⟨_, rfl⟩
  rw [← hns] at hperm
  have hnl : ns.length ≤ 100 := by rw [hns, ordM_len rfl]; exact hkl
  have k0 : w.cell? ⟨gw, 0, none⟩ = some (.pointer (some ⟨g, 0, none⟩)) := h.k.cell 0
  have hdp := mayP_len (ht.g.path d hd)
  have hkb := h.kb
  have hgB := h.gB
  have hle0 : listE s.m t d.path = (begM s.m).2.1 := by
    unfold listE
    split
    · rename_i e
      rw [hfd]
      dsimp only
      rw [if_pos rfl, if_pos (show (nodeAt t d.node).kind = 1 from hkd), e]
    · rfl
  refine goL ?_
  refine tscope1 (α := ViS) 0 rfl (fun x => [(0, .pointer (some ⟨gw, 0, none⟩)), (1, .string (su d.path)), (5, x.vns), (8, .int .i64 (x.i : Int))])
    (ViI B gw g t u vf ve vn nvs ve' vn' (lookM t f) d.path ns w vm (belM (lookM t f) t d.path s) (bdF f)) (fun x => ns.length - x.i) ?_ ?_
  · rintro ⟨i, s2, vo2, vm2, nvu2, vns⟩ w2 hI
    have h2 := hI.wk
    have hle := hI.le
    have how := hI.ow
    have hgo := hI.go
    have hF2 := hI.fr
    have hvm := hI.vm
    have hC0 := hI.c0
    have hCK := hI.cK
    have hmt := hI.mt
    dsimp only at h2 hle how hgo hF2 hvm hC0 hCK hmt ⊢
    obtain ⟨A, c, rfl, hc1', hc2', hA⟩ := how.rw.op stC_len
    by_cases hlt : i < ns.length
    · obtain ⟨b, o, x, rfl, _, hx, hdr, hcell⟩ := hA.at_ hlt
      have q0 : w2.cell? ⟨b, o + i, none⟩ = some (.string (su x)) := by
        have := hcell 0 _ rfl
        rwa [Nat.mul_one, Nat.add_zero] at this
      obtain ⟨e, he, hj, hje, hjp⟩ := kid_of ht hd (hperm.mem_iff.1 (List.mem_of_getElem? hx))
      have hxl : x.length ≤ 400000 := by
        have h1 := mayP_len (ht.g.path e he)
        rw [hje] at h1
        unfold joinB at h1
        split at h1
        · omega
        · simp only [List.length_append, List.length_cons] at h1
          omega
      rw [hdr, List.flatMap_cons, List.length_append, ← hje] at hmt
      rw [hdr, visL, ← hje] at hgo
      have hCK' : s2.m.calls + bdF f + bdF f * ((ns.length - (i + 1) : Nat) : Int) ≤ 4000000000000000000 := by
        have e1 : ((ns.length - i : Nat) : Int) = ((ns.length - (i + 1) : Nat) : Int) + 1 := by omega
        rw [e1, Int.mul_add, Int.mul_one] at hCK
        omega
      have hKn : 0 ≤ bdF f * ((ns.length - (i + 1) : Nat) : Int) := Int.mul_nonneg hK (Int.natCast_nonneg _)
      repeat' (first | refine xisq i (o + i) rfl rfl rfl rfl rfl hlt ?_ | refine go1L ?_ | fail)
      refine xcall rfl rfl (pjoin_does w2 d.path x (by omega) hxl) ?_
      rintro r w3 ⟨rfl, hE3⟩
      rw [joinR_some hj]
      have h3 := h2.ext hE3
      refine goL ?_
      refine xcall rfl rfl (hL w3 s2 vo2 ve' vn' vm2 nvu2 e h3 he (by rw [hjp, List.length_append]; simp only [List.length_cons, List.length_nil]; omega) hC0 (by omega) (by omega)) ?_
      rintro r w4 hR
      obtain ⟨hr4, hF34, vo4, vm4, nvu4, h4, hv4⟩ := hR
      subst hr4
      have hbd := look_bd t ht.g.len f e.path s2
      have hF24 : Fr (WkF g gw vn' vm2) w2 w4 := hE3.fr.t hF34
      have ho4 := names_fr h2 how hF24
      have z2 := hF2.size
      have z3 := hE3.size
      have hF04 : Fr (WkF g gw vn' vm) w w4 := hF2.trans hF24 fun j hj hS => by
        rcases hS with hS | hS | hS | hS
        · exact .inl hS
        · exact .inr (.inl hS)
        · exact .inr (.inr (.inl hS))
        · exact (hvm j hS).elim (fun h => .inr (.inr (.inr h))) fun h => absurd hj (by omega)
      have hvm4 : ∀ b, vm4.ownBlock = some b → vm.ownBlock = some b ∨ w.heap.size ≤ b := fun b hb => (hv4 b hb).elim (fun h => hvm b h) fun h => .inr (by omega)
      by_cases he0 : (lookM t f e.path s2).1 = 0
      · rw [if_pos he0] at hgo
        rw [he0]
        obtain ⟨Lk, ok, hLk, hsk⟩ := look_ok ht f e he (by rw [hjp, List.length_append]; simp only [List.length_cons, List.length_nil]; omega) s2 (lookM t f e.path s2).2 (by rw [← he0])
        have hml : (lookM t f e.path s2).2.met.length = s2.met.length + (underL t e.path).length := by
          rw [hsk, ← hLk.length_eq]
          show (s2.met ++ Lk).length = _
          rw [List.length_append]
        refine goL ?_
        exact tgoto rfl ⟨_, by dsimp only; omega, rfl, ⟨i + 1, (lookM t f e.path s2).2, vo4, vm4, nvu4, _⟩, sub ⟨rfl, rfl, rfl, rfl⟩, ⟨h4, hlt, ho4, hgo, hF04, hvm4, by dsimp only; omega, by dsimp only; omega, by dsimp only; omega⟩, rfl⟩
      · rw [if_neg he0] at hgo
        refine goL ?_
        exact tret1 rfl rfl ⟨by rw [← hgo], hF04, vo4, vm4, nvu4, by rw [← hgo]; exact h4, hvm4⟩
    · obtain rfl : i = ns.length := by omega
      rw [List.drop_length, visL] at hgo
      refine goL ?_
      exact tret1 rfl rfl ⟨by rw [← hgo], hF2, vo2, vm2, nvu2, by rw [← hgo]; exact h2, hvm⟩
  · intro H
    refine goL ?_
    refine xcall rfl rfl (list_does w g s.m vf ve vn nvs t d.path h.fs ⟨hc0, hc1⟩) ?_
    rintro r w1 ⟨v1, rfl, hO1, hf1, hF1⟩
    rw [hle0] at hO1 ⊢
    have h1 := h.put hF1 hf1
    have hF01 : Fr (WkF g gw vn' vm) w w1 := hF1.mono fun b _ hb => .inl hb
    have hcs := begM_calls s.m
    have hlt := h.k.lt
    by_cases e : (begM s.m).2.1 = 0
    · rw [if_pos e] at hO1
      rw [e]
      obtain ⟨A1, c1, rfl, _, _⟩ := hO1.form
      have hb : visL (lookM t f) d.path ns { s with m := (begM s.m).2.2, o := (nextO s.o).2 } = belM (lookM t f) t d.path s := by unfold belM; rw [if_pos e, ← hns]
      have hKl : bdF f * (ns.length : Int) ≤ 100 * bdF f := by rw [Int.mul_comm]; exact Int.mul_le_mul_of_nonneg_right (by omega) hK
      have hfl : (ns.flatMap fun x => underL t (joinB d.path x)).length = ((kidsT t d.path).flatMap fun x => underL t (joinB d.path x)).length := (hperm.flatMap_right _).length_eq
      have fin : ∀ w2 vo2 vns, WkI w2 B gw g t u vf ve vn nvs { s with m := (begM s.m).2.2, o := (nextO s.o).2 } vo2 ve' vn' vm nvu → Fr (WkF g gw vn' vm) w w2 → Ow stC 1 w2 B 9 vns ns → ViI B gw g t u vf ve vn nvs ve' vn' (lookM t f) d.path ns w vm (belM (lookM t f) t d.path s) (bdF f) ⟨0, { s with m := (begM s.m).2.2, o := (nextO s.o).2 }, vo2, vm, nvu, vns⟩ w2 := fun w2 vo2 vns h2 hF2 ho =>
        ⟨h2, Nat.zero_le _, ho, hb, hF2, fun _ hb => .inl hb, by dsimp only; omega, by dsimp only; rw [Nat.sub_zero]; omega, by dsimp only; rw [List.drop_zero, hfl]; exact hM⟩
      have z1 := hF1.size
      obtain ⟨Ao, co, rfl, hco1, hco2, hoc⟩ := h1.o
      dsimp only at hco1 hoc
      have k1 : w1.cell? ⟨gw, 1, none⟩ = some (.slice Ao s.o.length co) := h1.k.cell 1
      by_cases hl0 : s.o.length = 0
      · have hn0 : nextO s.o = (0, []) := by rw [List.eq_nil_of_length_eq_zero hl0]; rfl
        rw [hn0] at hns fin
        clear hoc
        refine goL ?_
        refine xcall rfl rfl (order_does w1 _ (kidsT t d.path) 0 hO1.rw (by omega)) ?_
        rintro r w2 ⟨hO2, hE2⟩
        rw [← hns] at hO2
        refine goL ?_
        refine tlabel ?_
        exact tweak (H _ w2 (fin w2 _ _ ((show ([] : List Int) = s.o from (List.eq_nil_of_length_eq_zero hl0).symm) ▸ h1.ext hE2) (hF01.te hE2) (hO2.mono (by omega)))) (sub ⟨rfl, rfl, rfl, rfl⟩)
      · obtain ⟨n0, r0, hs⟩ : ∃ n r, s.o = n :: r := by
          cases ho : s.o with
          | nil => rw [ho] at hl0; exact absurd rfl hl0
          | cons n r => exact ⟨n, r, rfl⟩
        have hn0 : nextO s.o = (n0, r0) := by rw [hs]; rfl
        have hlr : s.o.length = r0.length + 1 := by rw [hs]; rfl
        rw [hn0] at hns fin
        obtain ⟨b, off, rfl, hb1, hb2, hb3, hcl⟩ := hoc (by omega)
        have q0 : w1.cell? ⟨b, off, none⟩ = some (.int .i64 n0) := hcl 0 n0 (by rw [hs]; rfl)
        have k1d : w1.drew.cell? ⟨gw, 1, none⟩ = some (.slice (some ⟨b, off, none⟩) s.o.length co) := k1
        have q0d : w1.drew.cell? ⟨b, off, none⟩ = some (.int .i64 n0) := q0
        have hkd1 : Blk w1.drew gw 63 (wkC g (.slice (some ⟨b, off, none⟩) s.o.length co) ve' vn' vm) := h1.k.ext (Fr.drew noneB w1)
        have h1d := h1.ext (Fr.drew noneB w1)
        clear hoc
        repeat' (first | refine xisq 0 off rfl rfl rfl rfl rfl (by omega) ?_ | refine go1L ?_ | fail)
        refine xsl1 (l := 1) rfl rfl rfl (by omega) (by omega) (by omega) (fun A' hA' => ?_)
        refine goL ?_
        refine xstb hkd1 rfl rfl (by kernel_rfl) rfl rfl (fun w2 hB2 hF2 => ?_)
        have hO2 : OrdI w1.drew B g (.slice A' (s.o.length - (1 : Int).toNat) (co - (1 : Int).toNat)) r0 := by
          refine ⟨A', co - 1, by rw [hlr]; rfl, by omega, by omega, fun h0 => ⟨b, off + 1, hA' b off rfl (by omega), hb1, hb2, hb3, fun i z hz => ?_⟩⟩
          have := hcl (i + 1) z (by rw [hs]; exact hz)
          rw [show off + 1 + i = off + (i + 1) by omega]
          exact this
        have h2 := h1d.ord hB2 hF2 hO2
        have hF02 : Fr (WkF g gw vn' vm) w w2 := (hF01.te (Fr.drew noneB w1)).trans hF2 fun j _ hj => .inr (.inl hj)
        have hO3 := ((hO1.ext (Fr.drew noneB w1)).fr hF2 fun b hb e => by have := (hO1.blk hb).1; have : b = gw := e; omega)
        refine goL ?_
        refine xcall rfl rfl (order_does w2 _ (kidsT t d.path) n0 hO3.rw (by omega)) ?_
        rintro r w3 ⟨hO4, hE3⟩
        rw [← hns] at hO4
        have z2 := hF02.size
        refine goL ?_
        refine tlabel ?_
        exact tweak (H _ w3 (fin w3 _ _ (h2.ext hE3) (hF02.te hE3) (hO4.mono (by omega)))) (sub ⟨rfl, rfl, rfl, rfl⟩)
    · have hb : belM (lookM t f) t d.path s = ((begM s.m).2.1, { s with m := (begM s.m).2.2 }) := by unfold belM; rw [if_neg e]
      rw [hb]
      refine goL ?_
      exact tret1 rfl rfl ⟨rfl, hF01, _, _, _, h1, fun _ hb => .inl hb⟩
end Eng
end Go.Proofs.YtiebbecknfpdeaaDoor
