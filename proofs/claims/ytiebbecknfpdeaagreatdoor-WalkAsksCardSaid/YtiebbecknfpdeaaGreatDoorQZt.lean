/-
  The reference's walk: next, below, All.
-/
import Derived.Test.YtiebbecknfpdeaaGreatDoorQB10a
import Derived.Test.YtiebbecknfpdeaaGreatDoorQB9
import Derived.Test.YtiebbecknfpdeaaGreatDoorQZs
namespace Go.Proofs.YtiebbecknfpdeaaGreatDoor
open Go.RowKit
namespace Eng
/-- What the reference's walk holds. -/
structure RkI (w : World) (B gw g : Nat) (t : Tre) (vf ve vn : Value) (nvs : List NdV) (s : WkS) (vo : Value) : Prop where
  fs : RsI w g s.m vf ve vn nvs t
  fb : ∀ b, b = g ∨ RwK vf s.m.flts b ∨ TrN ve vn nvs t b → b < B
  k : Blk w gw 114 #[.pointer (some ⟨g, 0, none⟩), vo]
  kb : B ≤ gw
  o : OrdI w B g vo s.o
theorem RkI.ext {w w' : World} {B gw g : Nat} {t : Tre} {vf ve vn : Value} {nvs : List NdV} {s : WkS} {vo : Value} (h : RkI w B gw g t vf ve vn nvs s vo) (hE : Ext w w') : RkI w' B gw g t vf ve vn nvs s vo := ⟨h.fs.ext hE, h.fb, h.k.ext hE, h.kb, h.o.fr hE fun _ hb => hb.elim⟩
theorem RkI.gB {w : World} {B gw g : Nat} {t : Tre} {vf ve vn : Value} {nvs : List NdV} {s : WkS} {vo : Value} (h : RkI w B gw g t vf ve vn nvs s vo) : g < B := h.fb g (.inl rfl)
theorem RkI.put {w w' : World} {B gw g : Nat} {t : Tre} {vf ve vn : Value} {nvs : List NdV} {s : WkS} {vo : Value} (h : RkI w B gw g t vf ve vn nvs s vo) (l : List Str) (hF : Fr (· = g) w w') (hf : RsI w' g (begM s.m).2.2 vf ve vn nvs t) : RkI w' B gw g t vf ve vn nvs { s with m := (begM s.m).2.2, met := l } vo := by
  have h1 := h.kb
  have h2 := h.gB
  exact ⟨hf, by dsimp only; rw [begM_flts]; exact h.fb, h.k.fr hF (show ¬ gw = g by omega), h1, h.o.fr hF fun _ hb => .inl hb⟩
def RkR (B gw g : Nat) (t : Tre) (vf ve vn : Value) (nvs : List NdV) (w : World) (y : Int × WkS) (r : Value) (w' : World) : Prop :=
  r = .int .i64 y.1 ∧ Fr (fun b => b = g ∨ b = gw) w w' ∧ ∃ vo2, RkI w' B gw g t vf ve vn nvs y.2 vo2
def RbC (f B gw g : Nat) (t : Tre) (vf ve vn : Value) (nvs : List NdV) : Prop := ∀ (w : World) (s : WkS) (vo : Value) (d : En), RkI w B gw g t vf ve vn nvs s vo → d ∈ t.es → kindAt t.ns d.node = 1 → 9 ≤ (partsP d.path).length + (f + 1) → 0 ≤ s.m.calls → s.m.calls + (1 + 100 * bdF f) ≤ 4000000000000000000 →
  Does Tryz.prog 61 #[.pointer (some ⟨gw, 0, none⟩), .string (su d.path)] w (RkR B gw g t vf ve vn nvs w (belM (lookM t f) t d.path s))
/-- The loop over a directory's names: i are done. -/
structure RvI (B gw g : Nat) (t : Tre) (vf ve vn : Value) (nvs : List NdV) (look : Str → WkS → Int × WkS) (p : Str) (ns : List Str) (vns : Value) (w0 : World) (y : Int × WkS) (K : Int) (x : Nat × WkS × Value) (w : World) : Prop where
  wk : RkI w B gw g t vf ve vn nvs x.2.1 x.2.2
  le : x.1 ≤ ns.length
  ow : Ow stC 1 w B 9 vns ns
  go : visL look p (ns.drop x.1) x.2.1 = y
  fr : Fr (fun b => b = g ∨ b = gw) w0 w
  c0 : 0 ≤ x.2.1.m.calls
  cK : x.2.1.m.calls + K * ((ns.length - x.1 : Nat) : Int) ≤ 4000000000000000000
theorem rnames_fr {w w' : World} {B gw g : Nat} {t : Tre} {vf ve vn : Value} {nvs : List NdV} {s : WkS} {vo vns : Value} {ns : List Str} (h : RkI w B gw g t vf ve vn nvs s vo) (ho : Ow stC 1 w B 9 vns ns) (hF : Fr (fun b => b = g ∨ b = gw) w w') : Ow stC 1 w' B 9 vns ns :=
  ho.fr hF fun b hb hS => by
    obtain ⟨cs, hs⟩ := ho.typ hb
    have h1 := (ho.blk hb).1
    have h2 := h.gB
    rcases hS with rfl | rfl
    · omega
    · exact hs.ne_ h.k (by decide) rfl
attribute [local irreducible] xs T
set_option maxRecDepth 20000 in
set_option maxHeartbeats 4000000 in
theorem rnext_does (w : World) (B gw g : Nat) (t : Tre) (vf ve vn : Value) (nvs : List NdV) (s : WkS) (vo : Value) (h : RkI w B gw g t vf ve vn nvs s vo) : Does Tryz.prog 120 #[.pointer (some ⟨gw, 0, none⟩)] w fun r w' => r = .int .i64 (nextO s.o).1 ∧ Fr (· = gw) w w' ∧ ∃ vo2, RkI w' B gw g t vf ve vn nvs { s with o := (nextO s.o).2 } vo2 := by
  refine does1 Tryz.func120 rfl (by kernel_rfl) ?_
  obtain ⟨Ao, co, rfl, hco1, hco2, hoc⟩ := h.o
  have hkb := h.kb
  have hgB := h.gB
  have k1 : w.cell? ⟨gw, 1, none⟩ = some (.slice Ao s.o.length co) := h.k.cell 1
  by_cases hl0 : s.o.length = 0
  · have hs := List.eq_nil_of_length_eq_zero hl0
    have hn0 : nextO s.o = (0, []) := by rw [hs]; rfl
    rw [hn0]
    clear hoc
    have he : ({ s with o := [] } : WkS) = s := by
      obtain ⟨a, b, c⟩ := s
      dsimp only at hs
      rw [hs]
    have h' : RkI w B gw g t vf ve vn nvs { s with o := [] } (.slice Ao s.o.length co) := by rw [he]; exact h
    refine goL ?_
    exact tret1 rfl rfl ⟨rfl, Fr.refl _ _, _, h'⟩
  · obtain ⟨n0, r0, hs⟩ : ∃ n r, s.o = n :: r := by
      cases ho : s.o with
      | nil => rw [ho] at hl0; exact absurd rfl hl0
      | cons n r => exact ⟨n, r, rfl⟩
    have hn0 : nextO s.o = (n0, r0) := by rw [hs]; rfl
    have hlr : s.o.length = r0.length + 1 := by rw [hs]; rfl
    rw [hn0]
    obtain ⟨b, off, rfl, hb1, hb2, hb3, hcl⟩ := hoc (by omega)
    have q0 : w.cell? ⟨b, off, none⟩ = some (.int .i64 n0) := hcl 0 n0 (by rw [hs]; rfl)
    clear hoc
    repeat' (first | refine xisq 0 off rfl rfl rfl rfl rfl (by omega) ?_ | refine go1L ?_ | fail)
    refine xsl1 (l := 1) rfl rfl rfl (by omega) (by omega) (by omega) (fun A' hA' => ?_)
    refine goL ?_
    refine xstb h.k rfl rfl (by kernel_rfl) rfl rfl (fun w2 hB2 hF2 => ?_)
    have hO2 : OrdI w B g (.slice A' (s.o.length - (1 : Int).toNat) (co - (1 : Int).toNat)) r0 := by
      refine ⟨A', co - 1, by rw [hlr]; rfl, by omega, by omega, fun h0 => ⟨b, off + 1, hA' b off rfl (by omega), hb1, hb2, hb3, fun i z hz => ?_⟩⟩
      have := hcl (i + 1) z (by rw [hs]; exact hz)
      rw [show off + 1 + i = off + (i + 1) by omega]
      exact this
    have h2 : RkI w2 B gw g t vf ve vn nvs { s with o := r0 } (.slice A' (s.o.length - (1 : Int).toNat) (co - (1 : Int).toNat)) :=
      ⟨h.fs.fr hF2 fun b hb => by have := h.fb b hb; show ¬ b = gw; omega, h.fb, hB2, hkb, hO2.fr hF2 fun b hb => .inr (by have : b = gw := hb; omega)⟩
    refine goL ?_
    exact tret1 rfl rfl ⟨rfl, hF2, _, h2⟩
set_option maxRecDepth 20000 in
set_option maxHeartbeats 8000000 in
theorem rbelow_does {B gw g : Nat} {t : Tre} {vf ve vn : Value} {nvs : List NdV} (ht : FsT t) (f : Nat) (hR : ∀ f', f = f' + 1 → RbC f' B gw g t vf ve vn nvs) : RbC f B gw g t vf ve vn nvs := by
  intro w s vo d h hd hkd hf hc0 hc
  have hK := bdF_pos f
  have hc1 : s.m.calls ≤ 4000000000000000000 := by omega
  refine does2 Tryz.func61 rfl (by kernel_rfl) ?_
  obtain ⟨hw0, hfd⟩ := find_ent ht hd
  have hkl : (kidsT t d.path).length ≤ 100 := by
    unfold kidsT
    rw [List.length_map]
    exact Nat.le_trans (List.length_filter_le _ _) ht.g.len
  have hperm := ordM_perm (kidsT t d.path).length (kidsT t d.path) (uN (nextO s.o).1) rfl
  obtain ⟨ns, hns⟩ : ∃ ns, ns = ordM (kidsT t d.path).length (kidsT t d.path) (uN (nextO s.o).1) := ⟨_, rfl⟩
  rw [← hns] at hperm
  have hnl : ns.length ≤ 100 := by rw [hns, ordM_len rfl]; exact hkl
  have k0 : w.cell? ⟨gw, 0, none⟩ = some (.pointer (some ⟨g, 0, none⟩)) := h.k.cell 0
  have hdp := mayP_len (ht.g.path d hd)
  have hkb := h.kb
  have hgB := h.gB
  have hlt := h.k.lt
  have hle0 : listE s.m t d.path = (begM s.m).2.1 := by
    unfold listE
    split
    · rename_i e
      rw [hfd]
      dsimp only
      rw [if_pos rfl, if_pos (show (nodeAt t d.node).kind = 1 from hkd), e]
    · rfl
  have hcs := begM_calls s.m
  refine goL ?_
  refine xcall rfl rfl (rslist_does w g s.m vf ve vn nvs t d.path h.fs (by omega) ⟨hc0, hc1⟩) ?_
  rintro r w1 ⟨v1, rfl, hO1, hf1, hF1⟩
  rw [hle0] at hO1 ⊢
  have h1 : RkI w1 B gw g t vf ve vn nvs { s with m := (begM s.m).2.2 } vo := h.put s.met hF1 hf1
  have hF01 : Fr (fun b => b = g ∨ b = gw) w w1 := hF1.mono fun b _ hb => .inl hb
  by_cases e : (begM s.m).2.1 = 0
  · rw [if_pos e] at hO1
    rw [e]
    obtain ⟨A1, c1, rfl, _, _⟩ := hO1.form
    have hb : visL (lookM t f) d.path ns { s with m := (begM s.m).2.2, o := (nextO s.o).2 } = belM (lookM t f) t d.path s := by unfold belM; rw [if_pos e, ← hns]
    have hKl : bdF f * (ns.length : Int) ≤ 100 * bdF f := by rw [Int.mul_comm]; exact Int.mul_le_mul_of_nonneg_right (by omega) hK
    have z1 := hF1.size
    refine goL ?_
    refine xcall rfl rfl (rnext_does w1 B gw g t vf ve vn nvs _ vo h1) ?_
    rintro r w2 ⟨rfl, hF2, vo2, h2⟩
    have hO2 := hO1.fr hF2 fun b hb e => by have := (hO1.blk hb).1; have : b = gw := e; omega
    have hF02 : Fr (fun b => b = g ∨ b = gw) w w2 := hF01.trans hF2 fun j _ hj => .inr hj
    have z2 := hF02.size
    refine goL ?_
    refine xcall rfl rfl (rorder_does w2 _ (kidsT t d.path) (nextO s.o).1 hO2.rw (by omega)) ?_
    rintro r w3 ⟨hO3, hE3⟩
    rw [← hns] at hO3
    have hO3' : Ow stC 1 w3 B 9 r ns := hO3.mono (by omega)
    obtain ⟨A, c, rfl, hc1', hc2', hA0⟩ := hO3'.rw.op stC_len
    refine goL ?_
    refine tloop (α := Nat × WkS × Value) (fun x => [(0, .pointer (some ⟨gw, 0, none⟩)), (1, .string (su d.path)), (5, .slice A ns.length c), (7, .int .i64 (x.1 : Int))])
      (RvI B gw g t vf ve vn nvs (lookM t f) d.path ns (.slice A ns.length c) w (belM (lookM t f) t d.path s) (bdF f)) (fun x => ns.length - x.1) (0, { s with m := (begM s.m).2.2, o := (nextO s.o).2 }, vo2) (sub ⟨rfl, rfl, rfl, rfl⟩)
      ⟨h2.ext hE3, Nat.zero_le _, hO3', hb, hF02.te hE3, by dsimp only; omega, by dsimp only; rw [Nat.sub_zero]; omega⟩ ?_
    rintro ⟨i, s4, vo4⟩ w4 hI
    have h4 := hI.wk
    have hle := hI.le
    have how := hI.ow
    have hgo := hI.go
    have hF4 := hI.fr
    have hC0 := hI.c0
    have hCK := hI.cK
    dsimp only at h4 hle how hgo hF4 hC0 hCK ⊢
    obtain ⟨_, _, e1, _, _, hA⟩ := how.rw.op stC_len
    injection e1 with e1 _ _
    subst e1
    by_cases hlt : i < ns.length
    · obtain ⟨b, o, x, rfl, _, hx, hdr, hcell⟩ := hA.at_ hlt
      have q0 : w4.cell? ⟨b, o + i, none⟩ = some (.string (su x)) := by
        have := hcell 0 _ rfl
        rwa [Nat.mul_one, Nat.add_zero] at this
      obtain ⟨e, he, hj, hje, hjp⟩ := kid_of ht hd (hperm.mem_iff.1 (List.mem_of_getElem? hx))
      have hel := mayP_len (ht.g.path e he)
      have hxl : x.length ≤ 400000 := by
        have h1 := hel
        rw [hje] at h1
        unfold joinB at h1
        split at h1
        · omega
        · simp only [List.length_append, List.length_cons] at h1
          omega
      obtain ⟨f', rfl⟩ : ∃ f', f = f' + 1 := ⟨f - 1, by
        have h1 := parts_len e.path
        rw [hjp, List.length_append] at h1
        simp only [List.length_cons, List.length_nil] at h1
        omega⟩
      rw [hdr, visL, ← hje] at hgo
      have hCK' : s4.m.calls + bdF (f' + 1) + bdF (f' + 1) * ((ns.length - (i + 1) : Nat) : Int) ≤ 4000000000000000000 := by
        have e1 : ((ns.length - i : Nat) : Int) = ((ns.length - (i + 1) : Nat) : Int) + 1 := by omega
        rw [e1, Int.mul_add, Int.mul_one] at hCK
        omega
      have hKn : 0 ≤ bdF (f' + 1) * ((ns.length - (i + 1) : Nat) : Int) := Int.mul_nonneg hK (Int.natCast_nonneg _)
      have hK' := bdF_pos f'
      have hbe : bdF (f' + 1) = 2 + 100 * bdF f' := by rw [bdF]
      have hcs4 := begM_calls s4.m
      obtain ⟨_, hfde⟩ := find_ent ht he
      have hge : getE s4.m t e.path = (begM s4.m).2.1 := by
        unfold getE
        split
        · rename_i e0; rw [hfde, e0]
        · rfl
      have hkp := kindP_of ht he
      have k04 : w4.cell? ⟨gw, 0, none⟩ = some (.pointer (some ⟨g, 0, none⟩)) := h4.k.cell 0
      repeat' (first | refine xisq i (o + i) rfl rfl rfl rfl rfl hlt ?_ | refine go1L ?_ | fail)
      refine xcall rfl rfl (rjoin_does w4 d.path x (by omega) hxl) ?_
      rintro r w5 ⟨rfl, hE5⟩
      rw [joinR_some hj]
      have h5 := h4.ext hE5
      have k05 : w5.cell? ⟨gw, 0, none⟩ = some (.pointer (some ⟨g, 0, none⟩)) := h5.k.cell 0
      refine goL ?_
      refine xcall rfl rfl (rsget_does w5 g s4.m vf ve vn nvs t e.path h5.fs (by omega) ⟨hC0, by omega⟩) ?_
      rintro r w6 ⟨x', rfl, hx6, hxn, hf6, hF6⟩
      rw [hge] at hxn ⊢
      have h6 : RkI w6 B gw g t vf ve vn nvs { s4 with m := (begM s4.m).2.2, met := s4.met ++ [e.path] } vo4 := h5.put (s4.met ++ [e.path]) hF6 hf6
      have h6' : RkI w6 B gw g t vf ve vn nvs { s4 with m := (begM s4.m).2.2 } vo4 := h5.put s4.met hF6 hf6
      refine goL ?_
      refine xalloc (z := .agg nd0) (by kernel_rfl) (fun w7 hB7 hE7 hs7 => ?_)
      refine goL ?_
      refine xsta hB7 rfl rfl (by kernel_rfl) rfl (one_cells (l := ndC x') (List.all_eq_true.2 (ndC_one hx6))) (fun w8 hB8 hF8 => ?_)
      have hE68 : Ext w6 w8 := hE7.trans hF8 fun j hj e => by have : j = w6.heap.size := e; omega
      have h8 := h6.ext hE68
      have hF48 : Fr (fun b => b = g ∨ b = gw) w4 w8 := (hE5.fr.t (hF6.mono fun b _ hb => .inl hb)).te hE68
      have hF08 : Fr (fun b => b = g ∨ b = gw) w w8 := hF4.t hF48
      have ho8 := rnames_fr h4 how hF48
      have kk : w8.cell? ⟨w6.heap.size, 0, none⟩ = some (.int .i64 x'.n.kind) := hB8.cell 0
      by_cases e0 : (begM s4.m).2.1 = 0
      · rw [if_pos e0, hfde] at hxn
        have hxk : x'.n.kind = kindAt t.ns e.node := by rw [hxn]; rfl
        rw [e0]
        by_cases hk1 : kindAt t.ns e.node = 1
        · have hlk : lookM t (f' + 1) e.path s4 = belM (lookM t f') t e.path { s4 with m := (begM s4.m).2.2, met := s4.met ++ [e.path] } := by
            rw [lookM, if_pos e0, hkp, if_pos hk1]
          have hxk1 : x'.n.kind = 1 := by rw [hxk, hk1]
          have hbd := look_bd t ht.g.len (f' + 1) e.path s4
          rw [hlk] at hgo hbd
          refine goL ?_
          refine xcall rfl rfl (hR f' rfl w8 _ vo4 e h8 he hk1 (by rw [hjp, List.length_append]; simp only [List.length_cons, List.length_nil]; omega) (by show 0 ≤ (begM s4.m).2.2.calls; omega) (by show (begM s4.m).2.2.calls + (1 + 100 * bdF f') ≤ 4000000000000000000; omega)) ?_
          rintro r w9 ⟨rfl, hF9, vo9, h9⟩
          have ho9 := rnames_fr h8 ho8 hF9
          by_cases e9 : (belM (lookM t f') t e.path { s4 with m := (begM s4.m).2.2, met := s4.met ++ [e.path] }).1 = 0
          · rw [if_pos e9] at hgo
            rw [e9]
            have c9 := Int.le_trans hC0 hbd.1
            have d9 : (belM (lookM t f') t e.path { s4 with m := (begM s4.m).2.2, met := s4.met ++ [e.path] }).2.m.calls + bdF (f' + 1) * ((ns.length - (i + 1) : Nat) : Int) ≤ 4000000000000000000 := by
              have := hbd.2
              omega
            refine goL ?_
            exact tfin ⟨(i + 1, _, vo9), sub ⟨rfl, rfl, rfl, rfl⟩, ⟨h9, hlt, ho9, hgo, hF08.t hF9, c9, d9⟩, (by show ns.length - (i + 1) < ns.length - i; omega)⟩
          · rw [if_neg e9] at hgo
            refine goL ?_
            exact tret1 rfl rfl ⟨by rw [← hgo], hF08.t hF9, vo9, by rw [← hgo]; exact h9⟩
        · have hlk : lookM t (f' + 1) e.path s4 = (0, { s4 with m := (begM s4.m).2.2, met := s4.met ++ [e.path] }) := by
            rw [lookM, if_pos e0, hkp, if_neg hk1]
          have hxk1 : ¬ x'.n.kind = 1 := by rw [hxk]; exact hk1
          rw [hlk] at hgo
          dsimp only at hgo
          rw [if_pos rfl] at hgo
          refine goL ?_
          exact tfin ⟨(i + 1, _, vo4), sub ⟨rfl, rfl, rfl, rfl⟩, ⟨h8, hlt, ho8, hgo, hF08, by dsimp only; omega, by dsimp only; omega⟩, (by show ns.length - (i + 1) < ns.length - i; omega)⟩
      · have hlk : lookM t (f' + 1) e.path s4 = ((begM s4.m).2.1, { s4 with m := (begM s4.m).2.2 }) := by rw [lookM, if_neg e0]
        rw [hlk] at hgo
        dsimp only at hgo
        rw [if_neg e0] at hgo
        refine goL ?_
        exact tret1 rfl rfl ⟨by rw [← hgo]; rfl, hF08, vo4, by rw [← hgo]; exact h6'.ext hE68⟩
    · obtain rfl : i = ns.length := by omega
      rw [List.drop_length, visL] at hgo
      refine goL ?_
      exact tret1 rfl rfl ⟨by rw [← hgo], hF4, vo4, by rw [← hgo]; exact h4⟩
  · have hb : belM (lookM t f) t d.path s = ((begM s.m).2.1, { s with m := (begM s.m).2.2 }) := by unfold belM; rw [if_neg e]
    rw [hb]
    refine goL ?_
    exact tret1 rfl rfl ⟨rfl, hF01, vo, h1⟩
theorem rbelow_all {B gw g : Nat} {t : Tre} {vf ve vn : Value} {nvs : List NdV} (ht : FsT t) : ∀ f, RbC f B gw g t vf ve vn nvs
  | 0 => rbelow_does ht 0 fun f' h => by cases h
  | f + 1 => rbelow_does ht (f + 1) fun f' h => by injection h with h; subst h; exact rbelow_all ht f
def RAllR (g : Nat) (t : Tre) (vf ve vn : Value) (nvs : List NdV) (w : World) (y : Int × WkS) (r : Value) (w' : World) : Prop :=
  ∃ va, r = .tuple #[va, .int .i64 y.1] ∧ RsI w' g y.2.m vf ve vn nvs t ∧ Fr (· = g) w w' ∧ (y.1 = 0 → va = .agg #[ve, vn]) ∧ (y.1 ≠ 0 → va = .agg #[.slice none 0 0, .slice none 0 0])
set_option maxRecDepth 20000 in
set_option maxHeartbeats 8000000 in
theorem rall_does (w : World) (g : Nat) (m : FsM) (vf ve vn vo : Value) (nvs : List NdV) (t : Tre) (o : List Int) (h : RsI w g m vf ve vn nvs t) (ht : FsT t) (ho : OrdI w w.heap.size g vo o) (hc0 : 0 ≤ m.calls) (hc : m.calls ≤ 3000000000000000000) :
    Does Tryz.prog 19 #[.pointer (some ⟨g, 0, none⟩), vo] w (RAllR g t vf ve vn nvs w (lookM t 9 [] ⟨m, o, []⟩)) := by
  refine does2 Tryz.func19 rfl (by kernel_rfl) ?_
  have hg := h.k.lt
  obtain ⟨Ao, co, rfl, hco1, hco2, hoc⟩ := id ho
  obtain ⟨Ae, ce, rfl, _, _, hAe⟩ := h.tr.e.op enC_len
  obtain ⟨An, cn, rfl, _, _, hAn⟩ := h.tr.n.op ndC_len
  clear hoc hAe hAn
  obtain ⟨d, hd, hdp, hdk⟩ := ht.g.root
  obtain ⟨_, hfd⟩ := find_ent ht hd
  rw [hdp] at hfd
  have hkp := kindP_of ht hd
  rw [hdp] at hkp
  have hge : getE m t [] = (begM m).2.1 := by
    unfold getE
    split
    · rename_i e0; rw [hfd, e0]
    · rfl
  have hcs := begM_calls m
  refine goL ?_
  refine xalloc (z := .agg #[.slice none 0 0, .slice none 0 0]) (by kernel_rfl) (fun w1 hB1 hE1 hs1 => ?_)
  have h1 := h.ext hE1
  refine goL ?_
  refine xcall rfl rfl (rsget_does w1 g m vf _ _ nvs t [] h1 (by decide) ⟨hc0, by omega⟩) ?_
  rintro r w2 ⟨x', rfl, hx2, hxn, h2, hF2⟩
  rw [hge]
  refine goL ?_
  refine xalloc (z := .agg nd0) (by kernel_rfl) (fun w3 hB3 hE3 hs3 => ?_)
  refine goL ?_
  refine xsta hB3 rfl rfl (by kernel_rfl) rfl (one_cells (l := ndC x') (List.all_eq_true.2 (ndC_one hx2))) (fun w4 hB4 hF4 => ?_)
  have hE24 : Ext w2 w4 := hE3.trans hF4 fun j hj e => by have : j = w2.heap.size := e; omega
  have h4 := h2.ext hE24
  have hs1' : w1.heap.size = w.heap.size + 1 := hs1
  have hR4 := (Blk.fr hB1 hF2 (show ¬ w.heap.size = g by omega)).ext hE24
  have hF04 : Fr (· = g) w w4 := (hE1.fr.t hF2).te hE24
  have z4 := hF04.size
  have z12 := hF2.size
  have z24 := hE24.size
  by_cases e : (begM m).2.1 = 0
  · rw [e]
    have hlk : lookM t 9 [] ⟨m, o, []⟩ = belM (lookM t 8) t d.path ⟨(begM m).2.2, o, [[]]⟩ := by
      rw [lookM, if_pos e, hkp, if_pos hdk, hdp]
      rfl
    rw [hlk]
    refine goL ?_
    refine xbd (cells := #[.pointer (some ⟨g, 0, none⟩), .slice Ao o.length co]) rfl (by kernel_rfl) ?_
    refine goL ?_
    refine xbox rfl (fun w5 hB5 hE5 hs5 => ?_)
    have h5 := h4.ext hE5
    have hwk : RkI w5 w.heap.size w4.heap.size g t vf (.slice Ae t.es.length ce) (.slice An nvs.length cn) nvs ⟨(begM m).2.2, o, [[]]⟩ (.slice Ao o.length co) :=
      ⟨h5, fun b hb => by
        rcases hb with rfl | hb
        · exact hg
        · dsimp only at hb; rw [begM_flts] at hb; exact h.lt b hb, hB5, z4, ho.fr (hF04.te hE5) fun _ hb => .inl hb⟩
    have hbl := rbelow_all ht 8 w5 _ _ d hwk hd hdk (Nat.le_add_left _ _) (by show 0 ≤ (begM m).2.2.calls; omega) (by have := bdF_nine; rw [bdF] at this; show (begM m).2.2.calls + (1 + 100 * bdF 8) ≤ 4000000000000000000; omega)
    rw [hdp] at hbl ⊢
    refine goL ?_
    refine xcall rfl rfl hbl ?_
    rintro r w6 ⟨rfl, hF6, vo6, h6⟩
    obtain ⟨y, hy⟩ : ∃ y, y = belM (lookM t 8) t [] ⟨(begM m).2.2, o, [[]]⟩ := ⟨_, rfl⟩
    rw [← hy] at h6 ⊢
    have hR6 := (hR4.ext hE5).fr hF6 fun hS => by rcases hS with hS | hS <;> omega
    have hF06 : Fr (· = g) w w6 := (hF04.te hE5).trans hF6 fun j hj hS => by
      rcases hS with hS | hS
      · exact hS
      · omega
    have hoff : ∀ {w7 : World}, Fr (· = w.heap.size) w6 w7 → RsI w7 g y.2.m vf (.slice Ae t.es.length ce) (.slice An nvs.length cn) nvs t := fun hF7 => h6.fs.fr hF7 fun b hb => by
      have := h6.fb b hb
      show ¬ b = w.heap.size
      omega
    by_cases e6 : y.1 = 0
    · rw [e6]
      refine goL ?_
      refine xldz (cs := [.slice Ae t.es.length ce, .slice An nvs.length cn]) rfl (by kernel_rfl) (rs_tree h6.fs.k) ?_
      refine goL ?_
      refine xsta hR6 rfl rfl (by kernel_rfl) rfl (one_cells (l := [.slice Ae t.es.length ce, .slice An nvs.length cn]) rfl) (fun w7 hB7 hF7 => ?_)
      refine goL ?_
      exact tretc2 rfl rfl rfl hB7 (by kernel_rfl) ⟨_, by rw [e6], hoff hF7, hF06.trans hF7 fun j hj e => (by have : j = w.heap.size := e; omega), fun _ => rfl, fun h => absurd e6 h⟩
    · refine goL ?_
      refine xbd (cells := #[.slice none 0 0, .slice none 0 0]) rfl (by kernel_rfl) ?_
      refine goL ?_
      refine xsta hR6 rfl rfl (by kernel_rfl) rfl (one_cells (l := [.slice none 0 0, .slice none 0 0]) rfl) (fun w7 hB7 hF7 => ?_)
      refine goL ?_
      exact tretc2 rfl rfl rfl hB7 (by kernel_rfl) ⟨_, rfl, hoff hF7, hF06.trans hF7 fun j hj e => (by have : j = w.heap.size := e; omega), fun h => absurd h e6, fun _ => rfl⟩
  · have hlk : lookM t 9 [] ⟨m, o, []⟩ = ((begM m).2.1, ⟨(begM m).2.2, o, []⟩) := by rw [lookM, if_neg e]
    rw [hlk]
    refine goL ?_
    refine xbd (cells := #[.slice none 0 0, .slice none 0 0]) rfl (by kernel_rfl) ?_
    refine goL ?_
    refine xsta hR4 rfl rfl (by kernel_rfl) rfl (one_cells (l := [.slice none 0 0, .slice none 0 0]) rfl) (fun w7 hB7 hF7 => ?_)
    have hlt : ∀ b, RwK vf (begM m).2.2.flts b ∨ TrN (.slice Ae t.es.length ce) (.slice An nvs.length cn) nvs t b → b < w.heap.size := by rw [begM_flts]; exact h.lt
    refine goL ?_
    exact tretc2 rfl rfl rfl hB7 (by kernel_rfl) ⟨_, rfl, h4.off hF7 hg hlt, hF04.trans hF7 fun j hj e => (by have : j = w.heap.size := e; omega), fun h => absurd h e, fun _ => rfl⟩
end Eng
end Go.Proofs.YtiebbecknfpdeaaGreatDoor
