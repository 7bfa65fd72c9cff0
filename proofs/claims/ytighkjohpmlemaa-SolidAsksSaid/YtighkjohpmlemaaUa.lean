/-
  Package solid: rows of slices of bytes; Clone, Split, Pack.
-/
import Derived.Test.YtighkjohpmlemaaPp
namespace Go.Proofs.Ytighkjohpmlemaa
open Go.RowKit
namespace Eng
attribute [local irreducible] xs T

theorem sl_bss : SlT 73 23 (.slice none 0 0) 1 24 := slT Try.underlying73 (by kernel_rfl)

set_option maxRecDepth 20000 in
set_option maxHeartbeats 1000000 in
theorem clone8_does (w : World) (v : Value) (zs : List Int) (hv : BRow w v zs) (hl : zs.length ≤ 2 ^ 30) :
    Does Try.prog 70 #[v] w fun r w' => Own w' w.heap.size 5 r (zs.map (Value.int .u8)) ∧ Ext w w' := by
  refine does1 Try.func70 rfl (by kernel_rfl) ?_
  obtain ⟨A, c, rfl, hc, hcm, hA⟩ := hv
  cases A with
  | none =>
    have h0 : zs = [] := by
      rcases zs with _ | ⟨z, zs⟩
      · rfl
      · obtain ⟨b, o, h, _⟩ := hA (by simp); cases h
    subst h0
    refine goL ?_
    refine xsn rfl rfl rfl ?_
    refine goL ?_
    exact tret1 rfl rfl ⟨Own.nil _ _ _, Fr.refl _ _⟩
  | some a =>
    refine goL ?_
    refine xsn rfl rfl rfl ?_
    refine goL ?_
    refine xbs0 sl_bytes (fun w1 hB1 hE1 hs1 => ?_)
    refine goL ?_
    have hown : Own w1 w.heap.size 5 (.slice (some ⟨w.heap.size, 0, none⟩) 0 0) [] := ⟨rfl, .inr ⟨_, 0, #[], rfl, Nat.le_refl _, hB1, Nat.le_refl _, Nat.zero_le _, rfl, rfl⟩⟩
    refine xap sl_bytes rfl rfl hown rfl (Row.ext (⟨some a, c, rfl, hc, hcm, hA⟩ : BRow w _ zs) hE1) (by simp) map_u8_one (by unfold maxLen; simp; omega) (by simp; omega) (by omega) (fun v2 w2 hown2 hF2 _ => ?_)
    refine goL ?_
    refine tret1 rfl rfl ⟨by simpa using hown2, hE1.te hF2 fun j hj e => ?_⟩
    have : w.heap.size = j := by simpa [Value.ownBlock] using e
    omega

theorem Own.hp {w : World} {B : Nat} {e : TypeId} {v : Value} {vs : List Value} (h : Own w B e v vs) {b : Nat} (hb : v.ownBlock = some b) : ∃ cur, w.heap[b]? = some (.cells cur e (0, 0)) := by
  obtain ⟨_, h2⟩ := h
  rcases h2 with ⟨rfl, _⟩ | ⟨g, cap, cur, rfl, _, hh, _⟩
  · cases hb
  · have e : g = b := by injection hb
    subst e; exact ⟨cur, hh⟩
theorem own_ne {w : World} {B B' : Nat} {e e' : TypeId} {v u : Value} {vs us : List Value} (h : Own w B e v vs) (h' : Own w B' e' u us) (hne : e ≠ e') {b : Nat} (hb : v.ownBlock = some b) : u.ownBlock ≠ some b := fun hu => by
  obtain ⟨c1, h1⟩ := h.hp hb
  obtain ⟨c2, h2⟩ := h'.hp hu
  rw [h1] at h2
  injection h2 with h2
  injection h2 with _ h2
  exact hne h2

/-- A row of slices of bytes, all of the call's own. -/
structure BsO (w : World) (B : Nat) (v : Value) (bss : List (List Int)) : Prop where
  ex : ∃ vs, Own w B 23 v vs ∧ vs.length = bss.length ∧ ∀ (i : Nat) (u : Value) (zs : List Int), vs[i]? = some u → bss[i]? = some zs → Own w B 5 u (zs.map (Value.int .u8))

theorem BsO.nil (w : World) (B : Nat) : BsO w B (.slice none 0 0) [] := ⟨[], Own.nil _ _ _, rfl, fun i u zs h => by cases h⟩
theorem BsO.fr {S : Nat → Prop} {w w' : World} {B : Nat} {v : Value} {bss : List (List Int)} (h : BsO w B v bss) (hf : Fr S w w') (hS : ∀ b, B ≤ b → ¬ S b) : BsO w' B v bss := by
  obtain ⟨vs, h1, h2, h3⟩ := h.ex
  exact ⟨vs, h1.fr hf fun b hb => hS b (h1.blk hb).1, h2, fun i u zs hu hz => (h3 i u zs hu hz).fr hf fun b hb => hS b ((h3 i u zs hu hz).blk hb).1⟩
theorem BsO.ext {w w' : World} {B : Nat} {v : Value} {bss : List (List Int)} (h : BsO w B v bss) (hf : Ext w w') : BsO w' B v bss := h.fr hf fun _ _ hh => hh
theorem BsO.mono {w : World} {B B' : Nat} {v : Value} {bss : List (List Int)} (h : BsO w B v bss) (hB : B' ≤ B) : BsO w B' v bss := by
  obtain ⟨vs, h1, h2, h3⟩ := h.ex
  exact ⟨vs, h1.mono hB, h2, fun i u zs hu hz => (h3 i u zs hu hz).mono hB⟩
theorem BsO.form {w : World} {B : Nat} {v : Value} {bss : List (List Int)} (h : BsO w B v bss) : ∃ A c, v = .slice A bss.length c ∧ bss.length ≤ c ∧ c ≤ 9223372036854775807 := by
  obtain ⟨vs, h1, h2, _⟩ := h.ex
  obtain ⟨A, c, e, h3, h4⟩ := h1.form
  rw [h2] at e h3
  exact ⟨A, c, e, h3, h4⟩
theorem BsO.blk {w : World} {B : Nat} {v : Value} {bss : List (List Int)} (h : BsO w B v bss) {b : Nat} (hb : v.ownBlock = some b) : B ≤ b ∧ b < w.heap.size := by
  obtain ⟨vs, h1, _⟩ := h.ex
  exact h1.blk hb
/-- The row's block, and what its cells show. -/
theorem BsO.go {w : World} {B : Nat} {v : Value} {bss : List (List Int)} (h : BsO w B v bss) (h0 : 0 < bss.length) : ∃ g c, v = .slice (some ⟨g, 0, none⟩) bss.length c ∧ B ≤ g ∧ g < w.heap.size ∧ bss.length ≤ c ∧ c ≤ 9223372036854775807 ∧
    ∀ (i : Nat) (zs : List Int), bss[i]? = some zs → ∃ u, w.cell? ⟨g, i, none⟩ = some u ∧ Own w B 5 u (zs.map (Value.int .u8)) := by
  obtain ⟨vs, h1, h2, h3⟩ := h.ex
  obtain ⟨A, c, e, h4, h5, hA⟩ := h1.row
  obtain ⟨g, c', e', hg, hlt⟩ := h1.lt_of (by omega)
  rw [e'] at e
  injection e with e1 e2 e3
  subst e3
  obtain ⟨b, o, hb, _, hc⟩ := hA (by omega)
  rw [← e1] at hb
  injection hb with hb
  injection hb with hb ho
  subst hb; subst ho
  rw [h2] at e' h4
  refine ⟨g, c', e', hg, hlt, h4, h5, fun i zs hz => ?_⟩
  have hi : i < vs.length := by have := (List.getElem?_eq_some_iff.1 hz).1; omega
  refine ⟨vs[i], ?_, h3 i _ zs (List.getElem?_eq_getElem hi) hz⟩
  have := hc i _ (List.getElem?_eq_getElem hi)
  rwa [Nat.zero_add] at this
theorem BsO.snoc {w : World} {B : Nat} {v u : Value} {bss : List (List Int)} {zs : List Int} (h : BsO w B v bss) (hu : Own w B 5 u (zs.map (Value.int .u8))) : ∃ vs, Own w B 23 v vs ∧ vs.length = bss.length ∧
    ∀ v' w', Own w' B 23 v' (vs ++ [u]) → Fr (fun b => v.ownBlock = some b) w w' → BsO w' B v' (bss ++ [zs]) := by
  obtain ⟨vs, h1, h2, h3⟩ := h.ex
  refine ⟨vs, h1, h2, fun v' w' ho hF => ⟨vs ++ [u], ho, by simp [h2], fun i x ys hx hy => ?_⟩⟩
  by_cases hi : i < vs.length
  · rw [List.getElem?_append_left hi] at hx
    rw [List.getElem?_append_left (by omega)] at hy
    exact (h3 i x ys hx hy).fr hF fun b hb e => own_ne h1 (h3 i x ys hx hy) (by decide) e hb
  · have hi2 : i = vs.length := by
      have := (List.getElem?_eq_some_iff.1 hx).1
      simp at this; omega
    subst hi2
    rw [List.getElem?_append_right (Nat.le_refl _), Nat.sub_self] at hx
    rw [h2, List.getElem?_append_right (Nat.le_refl _), Nat.sub_self] at hy
    injection hx with hx
    injection hy with hy
    subst hx; subst hy
    exact hu.fr hF fun b hb e => own_ne h1 hu (by decide) e hb
theorem BsO.set {w : World} {B g n c i : Nat} {u : Value} {bss : List (List Int)} {zs : List Int} (h : BsO w B (.slice (some ⟨g, 0, none⟩) n c) bss) (hu : Own w B 5 u (zs.map (Value.int .u8))) : ∃ vs, Own w B 23 (.slice (some ⟨g, 0, none⟩) n c) vs ∧ vs.length = bss.length ∧
    ∀ w', Own w' B 23 (.slice (some ⟨g, 0, none⟩) n c) (vs.set i u) → Fr (· = g) w w' → BsO w' B (.slice (some ⟨g, 0, none⟩) n c) (bss.set i zs) := by
  obtain ⟨vs, h1, h2, h3⟩ := h.ex
  refine ⟨vs, h1, h2, fun w' ho hF => ⟨vs.set i u, ho, by simp [h2], fun j x ys hx hy => ?_⟩⟩
  have keep : ∀ {y : Value} {l : List Int}, Own w B 5 y (l.map (Value.int .u8)) → Own w' B 5 y (l.map (Value.int .u8)) := fun hq => hq.fr hF fun b hb e => own_ne h1 hq (by decide) (b := g) rfl (by have e' : b = g := e; rw [← e']; exact hb)
  rw [List.getElem?_set] at hx hy
  by_cases hij : i = j
  · subst hij
    rw [if_pos rfl] at hx hy
    split at hx
    · rw [if_pos (by omega)] at hy
      injection hx with hx
      injection hy with hy
      subst hx; subst hy
      exact keep hu
    · cases hx
  · rw [if_neg hij] at hx hy
    exact keep (h3 j x ys hx hy)

/-- The blocks of bytes. -/
def chB (zs : List Int) (i : Nat) : List Int := (zs.drop (256 * i)).take 256
def blkN (n : Nat) : Nat := (n + 255) / 256
def splB (zs : List Int) : List (List Int) := (List.range (blkN zs.length)).map (chB zs)
theorem splB_len (zs : List Int) : (splB zs).length = blkN zs.length := by simp [splB]
theorem splB_get (zs : List Int) {i : Nat} (h : i < blkN zs.length) : (splB zs)[i]? = some (chB zs i) := by simp [splB, h]
theorem chB_len (zs : List Int) (i : Nat) : (chB zs i).length = min 256 (zs.length - 256 * i) := by simp [chB]
theorem chB_byts {zs : List Int} (h : Byts zs) (i : Nat) : Byts (chB zs i) := byts_sub h _ _

structure SpI (zs : List Int) (w0 : World) (x : Nat × Value) (w : World) : Prop where
  le : x.1 ≤ blkN zs.length
  own : BsO w w0.heap.size x.2 ((List.range x.1).map (chB zs))
  ext : Ext w0 w

set_option maxRecDepth 20000 in
set_option maxHeartbeats 4000000 in
theorem split_does (w : World) (v : Value) (zs : List Int) (hv : BRow w v zs) (hl : zs.length ≤ 2 ^ 30) :
    Does Try.prog 43 #[v] w fun r w' => BsO w' w.heap.size r (splB zs) ∧ Ext w w' := by
  refine does1 Try.func43 rfl (by kernel_rfl) ?_
  have hrow : Row w v zs.length (zs.map (Value.int .u8)) := hv
  obtain ⟨A, c, rfl, hcc, hcm⟩ := hv.form
  have hN : blkN zs.length = (zs.length + 255) / 256 := rfl
  refine goL ?_
  refine tscope1 (α := Nat × Value) 0 rfl (fun x => [(0, .slice A zs.length c), (3, x.2), (4, .int .i64 ((min (256 * x.1) zs.length : Nat) : Int))]) (SpI zs w) (fun x => blkN zs.length - x.1) ?_ ?_
  · rintro ⟨k, ov⟩ w1 ⟨hk, hown, hE⟩
    dsimp only at hk hown hE ⊢
    have hsz := hE.size
    have hrl : ((List.range k).map (chB zs)).length = k := by simp
    by_cases hlt : k < blkN zs.length
    · obtain ⟨a, ha⟩ : ∃ a, a = min (256 * k) zs.length := ⟨_, rfl⟩
      have ha2 : a = 256 * k := by omega
      rw [← ha]
      refine goLM ?_
      refine xslr2 a (a + min 256 (zs.length - a)) rfl rfl (hrow.ext hE) rfl rfl rfl (by omega) (by omega) (by omega) (fun A' hr' ho' => ?_)
      have hr2 := BRow.sub2 hr' (by omega)
      have hch : (zs.drop a).take (a + min 256 (zs.length - a) - a) = chB zs k := by
        unfold chB
        rw [ha2, Nat.add_sub_cancel_left]
        rcases Nat.le_total 256 (zs.length - 256 * k) with h' | h'
        · rw [Nat.min_eq_left h']
        · rw [Nat.min_eq_right h', List.take_of_length_le (by rw [List.length_drop]; omega), List.take_of_length_le (by rw [List.length_drop]; omega)]
      rw [hch] at hr2
      refine xcall rfl rfl (clone8_does w1 _ (chB zs k) hr2 (by rw [chB_len]; omega)) (fun r w2 h2 => ?_)
      obtain ⟨hown2, hE2⟩ := h2
      have hsz2 := hE2.size
      have hown2' := hown2.mono hsz
      have hform : ∃ A c, r = .slice A (chB zs k).length c := by obtain ⟨A2, c2, e2, _, _⟩ := hown2.bform; exact ⟨A2, c2, e2⟩
      obtain ⟨A2, c2, rfl⟩ := hform
      refine xbs sl_bss rfl rfl (by decide) (by decide) (fun u hu => by rw [List.mem_singleton.1 hu]; rfl) (fun w3 hB3 hE3 hs3 => ?_)
      obtain ⟨vs, ho1, ho2, ho3⟩ := BsO.snoc (hown.ext (hE2.t hE3)) (hown2'.ext hE3)
      rw [hrl] at ho2
      refine xap sl_bss rfl rfl ho1 rfl (blk_row hB3 (by decide) rfl) rfl (fun u hu => by rw [List.mem_singleton.1 hu]; rfl) (by unfold maxLen; omega) (by omega) (by omega) (fun v4 w4 hown4 hF4 hv4 => ?_)
      have hB4 := ho3 v4 w4 hown4 hF4
      refine goL ?_
      refine tgoto rfl ⟨_, (by show blkN zs.length - (k + 1) < blkN zs.length - k; omega), rfl, (k + 1, v4), sub ⟨rfl, rfl, ieq (by dsimp only; omega)⟩, ⟨by dsimp only; omega, ?_, Ext.te (hE.t (hE2.t hE3)) hF4 fun j hj e => by have := (ho1.blk e).1; omega⟩, rfl⟩
      dsimp only
      rw [List.range_succ, List.map_append]
      exact hB4
    · obtain rfl : k = blkN zs.length := by omega
      refine goL ?_
      exact tret1 rfl rfl ⟨hown, hE⟩
  · intro H
    refine goL ?_
    refine tlabel ?_
    exact tweak (H (0, .slice none 0 0) w ⟨Nat.zero_le _, BsO.nil _ _, Fr.refl _ _⟩) (sub ⟨rfl, rfl, ieq (by simp)⟩)

/-- The blocks, the first k of them packed. -/
def pkK (zs : List Int) (k : Nat) : List (List Int) := (List.range (blkN zs.length)).map fun i => if i < k then putB (chB zs i) else chB zs i
theorem pkK_len (zs : List Int) (k : Nat) : (pkK zs k).length = blkN zs.length := by simp [pkK]
theorem pkK_get (zs : List Int) {i : Nat} (k : Nat) (h : i < blkN zs.length) : (pkK zs k)[i]? = some (if i < k then putB (chB zs i) else chB zs i) := by simp [pkK, h]
theorem pkK_zero (zs : List Int) : pkK zs 0 = splB zs := by simp [pkK, splB]
theorem pkK_set (zs : List Int) {k : Nat} (h : k < blkN zs.length) : (pkK zs k).set k (putB (chB zs k)) = pkK zs (k + 1) := by
  apply List.ext_getElem?
  intro j
  rw [List.getElem?_set]
  by_cases hj : j < blkN zs.length
  · rw [pkK_get zs k hj, pkK_get zs (k + 1) hj, pkK_len]
    by_cases e : k = j
    · subst e; rw [if_pos rfl, if_pos h, if_pos (by omega)]
    · rw [if_neg e]
      by_cases h2 : j < k
      · rw [if_pos h2, if_pos (by omega)]
      · rw [if_neg h2, if_neg (by omega)]
  · rw [List.getElem?_eq_none (by rw [pkK_len]; omega), List.getElem?_eq_none (by rw [pkK_len]; omega), if_neg (by omega)]
/-- The blocks, packed. -/
def pkS (zs : List Int) : List (List Int) := (splB zs).map putB
theorem pkK_all (zs : List Int) : pkK zs (blkN zs.length) = pkS zs := by
  apply List.ext_getElem?
  intro j
  by_cases hj : j < blkN zs.length
  · rw [pkK_get zs _ hj, if_pos hj]; simp [pkS, splB_get zs hj]
  · rw [List.getElem?_eq_none (by rw [pkK_len]; omega), List.getElem?_eq_none (by simp [pkS, splB_len]; omega)]

structure PsI (zs : List Int) (w0 : World) (x : Nat × Value) (w : World) : Prop where
  le : x.1 ≤ blkN zs.length
  own : BsO w w0.heap.size x.2 (pkK zs x.1)
  ext : Ext w0 w

set_option maxRecDepth 20000 in
set_option maxHeartbeats 4000000 in
theorem spack_does (w : World) (v : Value) (zs : List Int) (hv : BRow w v zs) (hb : Byts zs) (hl : zs.length ≤ 400000) :
    Does Try.prog 40 #[v] w fun r w' => ∃ v', r = .tuple #[v', .int .i64 0] ∧ BsO w' w.heap.size v' (pkS zs) ∧ Ext w w' := by
  refine does1 Try.func40 rfl (by kernel_rfl) ?_
  have hrow := hv
  obtain ⟨A, c, rfl, hcc, hcm⟩ := hv.form
  refine goL ?_
  refine tscope1 (α := Nat × Value) 0 rfl (fun x => [(4, x.2), (5, .int .i64 (x.1 : Int))]) (PsI zs w) (fun x => blkN zs.length - x.1) ?_ ?_
  · rintro ⟨k, bv⟩ w1 ⟨hk, hown, hE⟩
    dsimp only at hk hown hE ⊢
    have hsz := hE.size
    have hpl := pkK_len zs k
    have hN : blkN zs.length = (zs.length + 255) / 256 := rfl
    by_cases hlt : k < blkN zs.length
    · obtain ⟨g, c1, e1, hg, hglt, hc1, hm1, hcells⟩ := hown.go (by omega)
      subst e1
      rw [hpl]
      rw [hpl] at hc1 hown
      obtain ⟨u, hu, huo⟩ := hcells k _ (pkK_get zs k hlt)
      rw [if_neg (by omega)] at huo
      repeat' (first | refine xisq k k rfl rfl rfl rfl (by omega) (by omega) ?_ | refine go1L ?_ | fail)
      refine xcall rfl rfl (put_does w1 _ (chB zs k) huo.brow (chB_byts hb k)) (fun r w2 h2 => ?_)
      obtain ⟨v2, rfl, hown2, hE2⟩ := h2
      have hcl : (chB zs k).length ≤ 12000 := by rw [chB_len]; omega
      rw [ptE_ok hcl]
      rw [ptB_ok hcl] at hown2
      have hown2' := hown2.mono hsz
      have hform : ∃ A c, v2 = .slice A (putB (chB zs k)).length c := by obtain ⟨A2, c2, e2, _, _⟩ := hown2.bform; exact ⟨A2, c2, e2⟩
      obtain ⟨A2, c2, rfl⟩ := hform
      obtain ⟨vs, ho1, ho2, ho3⟩ := BsO.set (i := k) (hown.ext hE2) hown2'
      rw [hpl] at ho2
      repeat' (first | refine xisq k k rfl rfl rfl rfl (by omega) (by omega) ?_ | refine go1L ?_ | fail)
      refine xsto ho1 rfl rfl rfl rfl (by omega) (fun w3 hown3 hF3 => ?_)
      have hB3 := ho3 w3 hown3 hF3
      rw [pkK_set zs hlt] at hB3
      refine goL ?_
      refine tgoto rfl ⟨_, (by show blkN zs.length - (k + 1) < blkN zs.length - k; omega), rfl, (k + 1, _), sub ⟨rfl, rfl⟩, ⟨by dsimp only; omega, hB3, Ext.te (hE.t hE2) hF3 fun j hj e => by have e' : j = g := e; omega⟩, rfl⟩
    · obtain rfl : k = blkN zs.length := by omega
      obtain ⟨A1, c1, e1, hc1, hm1⟩ := hown.form
      rw [hpl] at e1
      subst e1
      rw [pkK_all] at hown
      refine goL ?_
      exact tret2 rfl rfl rfl ⟨_, rfl, hown, hE⟩
  · intro H
    refine goL ?_
    refine xcall rfl rfl (split_does w _ zs hrow (by omega)) (fun r w1 h1 => ?_)
    obtain ⟨hown1, hE1⟩ := h1
    refine goL ?_
    refine tlabel ?_
    exact tweak (H (0, r) w1 ⟨Nat.zero_le _, by dsimp only; rw [pkK_zero]; exact hown1, hE1⟩) (sub ⟨rfl, rfl⟩)
end Eng
end Go.Proofs.Ytighkjohpmlemaa
