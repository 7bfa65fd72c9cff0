/-
  Operations that read and write memory, and make blocks; conversions.
-/
import Derived.Test.YtalnkjpgnkfedaaGreatDoorEyb
import Derived.Laws.IdiomStrings
import Derived.ArgAppend
import Derived.Lib.AppendStr
namespace Go.Proofs.YtalnkjpgnkfedaaGreatDoor
open Go.RowKit
namespace Eng
namespace Rn
/-- Cells of a block set one by one. -/
theorem Bk.put {g : Nat} {t : TypeId} : ∀ {vs : List Value} {o : Nat} {w : World} {cs : Array Value}, Bk w g t cs → o + vs.length ≤ cs.size → ∃ cs', Bk (w.setCells g o vs) g t cs' ∧ cs'.size = cs.size ∧ (∀ k, cs'[k]? = if o ≤ k ∧ k < o + vs.length then vs[k - o]? else cs[k]?) ∧ Fr (fun b => b = g) w (w.setCells g o vs)
  | [], o, w, cs, h, _ => ⟨cs, h, rfl, fun k => by rw [if_neg (by simp)], Fr.refl _ _⟩
  | v :: vs, o, w, cs, h, hl => by
    have hl' : o + (vs.length + 1) ≤ cs.size := hl
    have h1 : Bk (w.setCell ⟨g, o, none⟩ v) g t (cs.setIfInBounds o v) := by
      obtain ⟨f, h, hf⟩ := h
      refine ⟨f, ?_, by simpa using hf⟩
      unfold World.setCell
      simp [Array.getElem?_modify, h]
    obtain ⟨cs', h2, h3, h4, h5⟩ := Bk.put (vs := vs) (o := o + 1) h1 (by simp; omega)
    refine ⟨cs', h2, by simpa using h3, fun k => ?_, (Fr.setCell (fun b => b = g) w ⟨g, o, none⟩ v (fun _ => rfl)).t h5⟩
    rw [h4 k]
    simp only [List.length_cons]
    by_cases hk : k = o
    · subst hk
      rw [if_neg (by omega), if_pos (by omega), Array.getElem?_setIfInBounds_self_of_lt (by omega)]
      simp
    · rw [Array.getElem?_setIfInBounds_ne (fun e => hk e.symm)]
      by_cases hh : o + 1 ≤ k ∧ k < o + 1 + vs.length
      · rw [if_pos hh, if_pos (by omega)]
        obtain ⟨q, rfl⟩ : ∃ q, k = o + 1 + q := ⟨k - (o + 1), by omega⟩
        rw [show o + 1 + q - (o + 1) = q by omega, show o + 1 + q - o = q + 1 by omega]
        rfl
      · rw [if_neg hh, if_neg (by omega)]
theorem MR.cells {ρ : Pl} {σ : Mem} {w0 : Fm} {w : World} (h : MR w0 ρ σ w) {id : Nat} {p : At} (hp : ρ[id]? = some p) : ∀ {l : List SV} {o : Nat}, (∀ i, i < l.length → cget σ id (o + i) = l[i]?) → ∃ vs, SRs ρ l vs ∧ ∀ (j : Nat) u, vs[j]? = some u → w.cell? ⟨p.b, o + j, none⟩ = some u ∧ w.frozen? ⟨p.b, o + j, none⟩ = false
  | [], o, _ => ⟨[], .nil, fun j u hu => by cases hu⟩
  | x :: l, o, hl => by
    have h0 := hl 0 (by simp)
    simp only [Nat.add_zero] at h0
    obtain ⟨v, h1, h2, h3⟩ := h.cell (x := x) h0 hp
    obtain ⟨vs, h4, h5⟩ := h.cells hp (l := l) (o := o + 1) (fun i hi => by
      have := hl (i + 1) (by simp; omega)
      rw [show o + 1 + i = o + (i + 1) by omega, this]
      rfl)
    refine ⟨v :: vs, .cons h2 h4, fun j u hu => ?_⟩
    cases j with
    | zero => injection hu with hu; subst hu; exact ⟨h1, h3⟩
    | succ j =>
      have := h5 j u hu
      rwa [show o + 1 + j = o + (j + 1) by omega] at this
theorem madeCells_get (z : Array Value) (n i : Nat) : (madeCells z n)[i]? = if i < n then some (z[i % z.size]!) else none := by
  unfold madeCells
  rw [Array.getElem?_map]
  by_cases h : i < n
  · rw [if_pos h]; simp [h]
  · rw [if_neg h]; simp [h]
theorem rep_len (l : List SV) (n : Nat) : (rep l n).length = n * l.length := by
  induction n with
  | zero => rw [Nat.zero_mul]; rfl
  | succ n ih =>
    show (l ++ rep l n).length = _
    rw [List.length_append, ih, Nat.succ_mul]
    omega
theorem rep_get (l : List SV) (hl : 0 < l.length) : ∀ (n i : Nat), i < n * l.length → (rep l n)[i]? = l[i % l.length]?
  | 0, i, h => by omega
  | n + 1, i, h => by
    show (l ++ rep l n)[i]? = _
    rw [Nat.succ_mul] at h
    by_cases hi : i < l.length
    · rw [List.getElem?_append_left hi, Nat.mod_eq_of_lt hi]
    · rw [List.getElem?_append_right (by omega), rep_get l hl n _ (by omega)]
      congr 1
      conv => rhs; rw [show i = i - l.length + l.length by omega, Nat.add_mod_right]
theorem rep_rel {ρ : Pl} {zs : List SV} {z : Array Value} (h : SRs ρ zs z.toList) (n : Nat) : SRs ρ (rep zs n) (madeCells z (n * zs.length)).toList := by
  have hz := h.len
  simp only [Array.length_toList] at hz
  rcases Nat.eq_zero_or_pos zs.length with h0 | h0
  · have e : rep zs n = [] := List.eq_nil_of_length_eq_zero (by rw [rep_len, h0, Nat.mul_zero])
    rw [e, h0, Nat.mul_zero]
    have e2 : (madeCells z 0).toList = [] := by simp [madeCells]
    rw [e2]
    exact .nil
  · refine SRs.of (by rw [rep_len, Array.length_toList, size_madeCells]) fun i x hx => ?_
    have hi : i < n * zs.length := by
      have := (List.getElem?_eq_some_iff.1 hx).1
      rwa [rep_len] at this
    rw [rep_get zs h0 n i hi] at hx
    obtain ⟨v, hv, hr⟩ := h.get _ _ hx
    refine ⟨v, ?_, hr⟩
    rw [Array.getElem?_toList, madeCells_get, if_pos hi, hz]
    rw [Array.getElem?_toList] at hv
    rw [getElem!_def, hv]
theorem an_inv {a b : Bool} (h : an a b = true) : a = true ∧ b = true := by
  cases a with
  | true => exact ⟨rfl, h⟩
  | false => cases h
section
variable {m : Nat} {ih : Cl} {e : En} {σ : Mem} {c : Kt} {res : Rs} {ρ : Pl} {env : Env} {w0 : Fm} {w : World} {full : Array Oper} {d : Tmp} {ty : TypeId} {pos : String} {af : Array Edge} (hr : res ≠ .no)
/-- Storing cells. -/
theorem x_st {K : Env → World → Prop} {hs : List Nat} {H : World → Prop} {rest : List Oper} {t : TypeId} {x y : Operand} {b o : Nat} {v : Value} {vs : List Value} (hx : evo env x = some (.pointer (some ⟨b, o, none⟩))) (hy : evo env y = some v) (hsz : ∃ i, Tryz.prog.info? t = some i ∧ i.size = vs.length) (hv : v.cells = vs.toArray)
    (hc : ∀ j, j < vs.length → (w.cell? ⟨b, o + j, none⟩).isSome = true) (hf : ∀ j, j < vs.length → w.frozen? ⟨b, o + j, none⟩ = false) (h1 : ∀ u ∈ vs, u.oneCell' = true)
    (h : xs Tryz.prog isI isS hs H full K rest env (w.setCells b o vs)) (hH : H (w.setCells b o vs)) : xs Tryz.prog isI isS hs H full K (⟨none, .store t x y, ty, pos, af, none⟩ :: rest) env w := by
  obtain ⟨i, h4, h5⟩ := hsz
  refine x_gen rfl (by simp [opsOK, Op.operands, hx, hy]) ?_
  have hr := run_storeCells_cells (P := Tryz.prog) b o vs 0 w (by simpa using hc) (by simpa using hf) h1
  simp only [Nat.add_zero] at hr
  show out Tryz.prog ((execOp (ev env) ⟨none, .store t x y, ty, pos, af, none⟩).run Tryz.prog w) _
  have e : (execOp (ev env) ⟨none, .store t x y, ty, pos, af, none⟩).run Tryz.prog w = .ok .skip (w.setCells b o vs) := by
    simp [execOp, ev_of hx, ev_of hy, Instr.storeAt, Instr.sureAddr, storeVar, hv, sizeOf, typeInfo, h4, h5, hr]
  rw [e]
  exact ⟨hH, h⟩
include hr
/-- Cells of the memory written. -/
theorem wr_step (hM : MR w0 ρ σ w) {id o : Nat} {l : List SV} {vs : List Value} {k : Mem → Rs} {p : At} (h : wrK σ id o l k = res) (hp : ρ[id]? = some p) (hl : SRs ρ l vs) (hne : 0 < l.length) :
    ∃ σ', k σ' = res ∧ (∀ j, j < vs.length → (w.cell? ⟨p.b, o + j, none⟩).isSome = true) ∧ (∀ j, j < vs.length → w.frozen? ⟨p.b, o + j, none⟩ = false) ∧ MR w0 ρ σ' (w.setCells p.b o vs) ∧ Fr (fun b => b = p.b) w (w.setCells p.b o vs) := by
  obtain ⟨ob, m', σ', h1, h2, h3, h4, h5, h6, h7⟩ := wrK_inv hr h
  have hlen := hl.len
  have hlive : ∀ j, j < vs.length → ∃ x, cget σ id (o + j) = some x := fun j hj => by
    have := h3 j (by omega)
    unfold cget
    rw [h1]
    exact Option.isSome_iff_exists.1 this
  have hcell : ∀ j, j < vs.length → ∃ v, w.cell? ⟨p.b, o + j, none⟩ = some v ∧ w.frozen? ⟨p.b, o + j, none⟩ = false := fun j hj => by
    obtain ⟨x, hx⟩ := hlive j hj
    obtain ⟨v, a1, _, a3⟩ := hM.cell hx hp
    exact ⟨v, a1, a3⟩
  obtain ⟨x0, hx0⟩ := hlive 0 (by omega)
  obtain ⟨q, ob', cs, v, b1, b2, b3, b4, b5, _⟩ := hM.at_ hx0
  rw [hp] at b1; obtain rfl := Option.some.inj b1
  rw [h1] at b2; obtain rfl := Option.some.inj b2
  have hfit : o + vs.length ≤ cs.size := by
    obtain ⟨v, a1, _⟩ := hcell (vs.length - 1) (by omega)
    rw [b3.cell] at a1
    have := (Array.getElem?_eq_some_iff.1 a1).1
    omega
  obtain ⟨cs', c1, c2, c3, c4⟩ := b3.put (vs := vs) hfit
  refine ⟨σ', h7, fun j hj => ?_, fun j hj => ?_, hM.wr h1 h2 h3 h4 h5 h6 hp b3 c1 c2 (fun k => by rw [c3 k, hlen]) c4 hl hne, c4⟩
  · obtain ⟨v, a1, _⟩ := hcell j hj
    rw [a1]; rfl
  · obtain ⟨v, _, a2⟩ := hcell j hj
    exact a2
/-- A new block. -/
theorem new_step (hM : MR w0 ρ σ w) {w' : World} {el : TypeId} {l : List SV} {vs : List Value} {cs : Array Value} {k : Nat → Mem → Rs} (n z : Nat) (h : newK σ el l k = res) (hnz : n * z ≤ cs.size) (hB : Bk w' w.heap.size el cs) (hcs : ∀ (o : Nat) v, vs[o]? = some v → cs[o]? = some v) (hE : Ext w w') (hl : SRs ρ l vs) :
    ∃ σ', k σ.n σ' = res ∧ MR w0 (ρ ++ [⟨w.heap.size, n, z⟩]) σ' w' ∧ (ρ ++ [(⟨w.heap.size, n, z⟩ : At)])[σ.n]? = some ⟨w.heap.size, n, z⟩ := by
  obtain ⟨ob, σ', h1, h2, h3, h4, h5, h6, h7⟩ := newK_inv hr h
  exact ⟨σ', h7, hM.new n z hnz h1 h2 h3 h4 h5 h6 hB hcs hE hl, by rw [← hM.len]; simp⟩
variable (hE : ER m ρ e env) (hM : MR w0 ρ σ w)
include hE hM
theorem s_ld {t : TypeId} {x : Operand} (h : (ldW m t x).f ih e σ c = res) : xs Tryz.prog isI isS [] Eng.noH full (Good w0 ρ c res env (some d)) [⟨some d, .load t x, ty, pos, af, none⟩] env w := by
  unfold ldW at h
  split at h
  · rename_i ht
    obtain ⟨a, v, h1, h2, g1⟩ := gtW_inv hr hE h
    obtain ⟨id, o, e0, g2⟩ := onP_inv hr g1
    obtain ⟨ob, g3, g4⟩ := obK_inv hr g2
    obtain ⟨y, g5, g6⟩ := getK_inv hr g4
    subst e0
    obtain ⟨p, h3, rfl⟩ := h2
    have hy : cget σ id o = some y := cget_iff.2 ⟨ob, g3, g5⟩
    obtain ⟨u, h4, h5, _⟩ := hM.cell hy h3
    exact xld h1 ht h4 ⟨_, σ, ρ, _, g6, Up.refl ρ, h5.2, hM, rfl⟩
  · split at h
    · rename_i n hn
      rw [cN_eq] at h
      obtain ⟨a, v, h1, h2, g1⟩ := gtW_inv hr hE h
      obtain ⟨id, o, e0, g2⟩ := onP_inv hr g1
      obtain ⟨ob, l, g3, g4, g5, g6⟩ := rdK_inv hr g2
      subst e0
      obtain ⟨p, h3, rfl⟩ := h2
      obtain ⟨vs, h4, h5⟩ := hM.cells h3 (l := l) (o := o) (fun i hi => g5 i (by omega))
      exact xldz h1 (by rw [h4.len, g4]; exact hn) (fun j u hu => (h5 j u hu).1) ⟨_, σ, ρ, _, g6, Up.refl ρ, ⟨vs, h4, rfl⟩, hM, rfl⟩
    · exact absurd h.symm hr
theorem s_st {t : TypeId} {x y : Operand} (h : (stW m t x y).f ih e σ c = res) : xs Tryz.prog isI isS [] Eng.noH full (Good w0 ρ c res env none) [⟨none, .store t x y, ty, pos, af, none⟩] env w := by
  have key : ∀ (id o : Nat) (l : List SV) (vs : List Value) (vx v : Value), evo env x = some vx → SR ρ (.p id o) vx → evo env y = some v → v.cells = vs.toArray → SRs ρ l vs → 0 < l.length → (∃ i, Tryz.prog.info? t = some i ∧ i.size = vs.length) → wrK σ id o l (fun σ => c (.v .u) σ) = res → xs Tryz.prog isI isS [] Eng.noH full (Good w0 ρ c res env none) [⟨none, .store t x y, ty, pos, af, none⟩] env w := fun id o l vs vx v h1 h2 h3 h4 h5 h6 h7 h => by
    obtain ⟨p, hp, rfl⟩ := h2
    obtain ⟨σ', g1, g2, g3, g4, _⟩ := wr_step hr hM h hp h5 h6
    exact x_st h1 h3 h7 h4 g2 g3 h5.cells ⟨_, σ', ρ, undef, g1, Up.refl ρ, rfl, g4, rfl⟩ trivial
  unfold stW at h
  split at h
  · rename_i ht
    obtain ⟨a, b, va, vb, h1, h2, h3, h4, g1⟩ := two hr hE h
    obtain ⟨id, o, e0, g2⟩ := onP_inv hr g1
    rcases onV_inv hr g2 with ⟨u1, e1, g3⟩ | ⟨l, e1, g3⟩
    · obtain ⟨hn, g4⟩ := okK_inv g3 hr
      subst e0; subst e1
      obtain ⟨_, i, hi, hs⟩ := one_spec ht
      refine key id o [u1] [vb] va vb h1 h3 h2 (SR.cells h4) (.cons ⟨hn, h4⟩ .nil) (by simp) ⟨i, hi, hs⟩ ?_
      have e2 : wrK σ id o [u1] (fun σ => c (.v .u) σ) = obK σ id fun ob => updK ob.d o u1 ob.m fun m => fN (Nat.add o 1) fun _ => updK dI id ⟨ob.e, ob.d, ob.n, m⟩ σ.h fun h => c (.v .u) ⟨σ.n, h, σ.mp⟩ := rfl
      rw [e2]
      simp only [fN_eq]
      exact g4
    · exact absurd g3.symm hr
  · split at h
    · rename_i n hn
      rw [cN_eq] at h
      obtain ⟨a, b, va, vb, h1, h2, h3, h4, g1⟩ := two hr hE h
      obtain ⟨id, o, e0, g2⟩ := onP_inv hr g1
      obtain ⟨l, e1, g3⟩ := onG_inv hr g2
      obtain ⟨hl, g4⟩ := okK_inv g3 hr
      obtain ⟨hl1, g5⟩ := okK_inv g4 hr
      have hl := Nat.eq_of_beq_eq_true hl
      have hl1 : 1 ≤ n := Nat.le_of_ble_eq_true hl1
      subst e0; subst e1
      obtain ⟨vs, h5, rfl⟩ := h4
      obtain ⟨_, i, hi, hs⟩ := agg_spec hn
      exact key id o l vs va _ h1 h3 h2 rfl h5 (by omega) ⟨i, hi, by rw [h5.len, hl]; exact hs⟩ g5
    · exact absurd h.symm hr
omit hE in
theorem s_al {t : TypeId} (h : (alW t (zA t)).f ih e σ c = res) : xs Tryz.prog isI isS [] Eng.noH full (Good w0 ρ c res env (some d)) [⟨some d, .alloc t, ty, pos, af, none⟩] env w := by
  unfold alW at h
  split at h
  · rename_i z hz
    rw [cVs_eq] at h
    obtain ⟨i, v, hi, hv, hl⟩ := zA_inv (ρ := ρ) hz
    refine xalloc (z := v) (by rw [hi]; exact hv) (fun w' hB hX _ => ?_)
    obtain ⟨σ', g1, g2, g3⟩ := new_step hr hM v.cells.size 1 h (by simp) (Blk.bk hB) (fun o u hu => by simpa using hu) hX hl
    exact ⟨_, σ', _, _, g1, Up.snoc _ _, ⟨_, g3, rfl⟩, g2, rfl⟩
  · exact absurd h.symm hr
theorem s_bx {t : TypeId} {x : Operand} (h : (bxW m t x).f ih e σ c = res) : xs Tryz.prog isI isS [] Eng.noH full (Good w0 ρ c res env (some d)) [⟨some d, .box t x, ty, pos, af, none⟩] env w := by
  obtain ⟨a, v, h1, h2, g1⟩ := gtW_inv hr hE (show (gtW m x).f e _ = res from h)
  have key : ∀ (l : List SV), SRs ρ l v.cells.toList → newK σ t l (fun id σ => c (.v (.p id 0)) σ) = res → xs Tryz.prog isI isS [] Eng.noH full (Good w0 ρ c res env (some d)) [⟨some d, .box t x, ty, pos, af, none⟩] env w := fun l hl h => by
    refine xbox h1 (fun w' hB hX _ => ?_)
    obtain ⟨σ', g1, g2, g3⟩ := new_step hr hM v.cells.size 1 h (by simp) (Blk.bk hB) (fun o u hu => by simpa using hu) hX hl
    exact ⟨_, σ', _, _, g1, Up.snoc _ _, ⟨_, g3, rfl⟩, g2, rfl⟩
  rcases onV_inv hr g1 with ⟨u1, e1, g3⟩ | ⟨l, e1, g3⟩
  · obtain ⟨hn, g4⟩ := okK_inv g3 hr
    subst e1
    refine key [u1] ?_ g4
    rw [SR.cells h2]
    exact .cons ⟨hn, h2⟩ .nil
  · subst e1
    obtain ⟨vs, h5, rfl⟩ := h2
    exact key l h5 g3
omit hE in
theorem s_rw0 {t : TypeId} (h : (rw0 (elemOf t)).f ih e σ c = res) : xs Tryz.prog isI isS [] Eng.noH full (Good w0 ρ c res env (some d)) [⟨some d, .buildSlice t 0 #[], ty, pos, af, none⟩] env w := by
  unfold rw0 at h
  split at h
  · rename_i el z hel
    rw [cN_eq] at h
    obtain ⟨hu, hsz⟩ := elemOf_inv hel
    obtain ⟨⟨ie, hie, hz⟩, _⟩ := size_spec hsz
    have hE0 : Array.map (fun _ : Nat => (default : Value)) (Array.range 0) = #[] := by simp
    refine xw (by simp [opsOK, Op.operands]) rfl (v := .slice (some ⟨w.heap.size, 0, none⟩) 0 0) (w' := w.alloc (.cells #[] el)) ?_ ?_ trivial
    · simp [execOp, Instr.buildSlice, run_underlying hu, sizeOf, typeInfo, hie, Instr.fill, newRow]
      first | rw [hE0] | simp
    · obtain ⟨σ', q1, q2, q3⟩ := new_step hr hM 0 z (show newK σ el [] (fun id σ => c (.v (.lx id z 0 0 0)) σ) = res from h) (by simp) (Blk.bk (Blk.new w el #[])) (vs := []) (fun o u hu => by cases hu) (Fr.alloc _ _ _) .nil
      exact ⟨_, σ', _, _, q1, Up.snoc _ _, ⟨_, q3, Nat.le_refl _, Nat.zero_le _, by simp⟩, q2, rfl⟩
  · exact absurd h.symm hr
theorem s_rw {t : TypeId} {n : Nat} {ps : List (Nat × Operand)} (h : (rwW m n ps (elemOf t)).f ih e σ c = res) : xs Tryz.prog isI isS [] Eng.noH full (Good w0 ρ c res env (some d)) [⟨some d, .buildSlice t n ps.toArray, ty, pos, af, none⟩] env w := by
  unfold rwW at h
  split at h
  · exact s_rw0 hr hM h
  split at h
  · rename_i el z hel
    obtain ⟨hu, hsz⟩ := elemOf_inv hel
    obtain ⟨⟨ie, hie, hz⟩, _⟩ := size_spec hsz
    split at h
    · rename_i zs hzs
      split at h
      · exact absurd h.symm hr
      · rename_i hchk
        rw [cN_eq, cN_eq, cVs_eq] at h
        obtain ⟨k1, hchk⟩ := an_inv hchk
        obtain ⟨k2, hchk⟩ := an_inv hchk
        obtain ⟨k3, k4⟩ := an_inv hchk
        have k1 := Nat.eq_of_beq_eq_true k1
        have k2 := Nat.le_of_ble_eq_true k2
        have k3 := Nat.le_of_ble_eq_true k3
        have k4 : n * z ≤ 16777216 := Nat.le_of_ble_eq_true k4
        obtain ⟨i, v, hi, hv, hl⟩ := zA_inv (ρ := ρ) hzs
        rw [hie] at hi; obtain rfl := Option.some.inj hi
        have hrep := rep_rel hl n
        rw [k1] at hrep
        obtain ⟨pvs, l', vs', h1, h2, h3, hlen', g1⟩ := ptW_inv hr hE h hrep
        obtain ⟨he, ho⟩ := evq_spec h1
        have hpos : 0 < n * z := Nat.mul_pos (by omega) (by omega)
        have hrun := run_buildSlice (P := Tryz.prog) w t el n ((ps.map fun p => (p.1, ev env p.2)).toArray) vs'.toArray ie v hu hie hv (by rw [hz]; omega) (by rw [hz]; omega) (by
          show Instr.fill _ _ (ps.map fun p => (p.1, ev env p.2)) = _
          rw [he, hz]
          exact h2)
        have hlen' : vs'.length = n * z := by rw [hlen', Array.length_toList, size_madeCells]
        refine xw (by simp only [opsOK, Op.operands]; rw [List.all_eq_true]; intro x hx; simp at hx; obtain ⟨j, hj⟩ := hx; exact ho _ hj) rfl (v := .slice (some ⟨w.heap.size, 0, none⟩) n n) (w' := w.alloc (.cells vs'.toArray el)) ?_ ?_ trivial
        · have e2 : (ps.toArray.map fun x => match x with | (i, x) => (i, ev env x)) = (ps.map fun p => (p.1, ev env p.2)).toArray := by simp
          simp only [execOp]
          rw [e2]
          simp [hrun]
        · obtain ⟨σ', q1, q2, q3⟩ := new_step hr hM n z g1 (by simp [hlen']) (Blk.bk (Blk.new w el vs'.toArray)) (fun o u hu => by simpa using hu) (Fr.alloc _ _ _) h3
          exact ⟨_, σ', _, _, q1, Up.snoc _ _, ⟨_, q3, Nat.le_refl _, by have := Nat.le_mul_of_pos_right n k3; unfold maxLen; omega, by simp⟩, q2, rfl⟩
    · exact absurd h.symm hr
  · exact absurd h.symm hr
theorem s_mk {t : TypeId} {x y : Operand} (h : (mkW m x y (elemOf t)).f ih e σ c = res) : xs Tryz.prog isI isS [] Eng.noH full (Good w0 ρ c res env (some d)) [⟨some d, .makeSlice t x y, ty, pos, af, none⟩] env w := by
  unfold mkW at h
  split at h
  · rename_i el z hel
    obtain ⟨hu, hsz⟩ := elemOf_inv hel
    obtain ⟨⟨ie, hie, hz⟩, _⟩ := size_spec hsz
    split at h
    · rename_i zs hfew hzs
      split at h
      · exact absurd h.symm hr
      · rename_i k1
        have k1 := Nat.eq_of_beq_eq_true k1
        rw [cN_eq, cVs_eq] at h
        obtain ⟨a, b, va, vb, h1, h2, h3, h4, g1⟩ := two hr hE h
        obtain ⟨k, n, e0, g2⟩ := onN_inv hr g1
        obtain ⟨k', q, e1, g3⟩ := onN_inv hr g2
        obtain ⟨hnq, g4⟩ := okK_inv g3 hr
        obtain ⟨hq, g5⟩ := okK_inv g4 hr
        rw [fP_eq] at g5
        have hnq := Nat.le_of_ble_eq_true hnq
        have hq := Nat.le_of_ble_eq_true hq
        subst e0; subst e1
        obtain ⟨rfl, _⟩ := h3
        obtain ⟨rfl, _⟩ := h4
        obtain ⟨i, v, hi, hv, hl⟩ := zA_inv (ρ := ρ) hzs
        rw [hie] at hi; obtain rfl := Option.some.inj hi
        have hrep := rep_rel hl q
        rw [k1] at hrep
        have hby : ie.bytes ≤ 1000000 := by
          unfold few at hfew
          rw [hie] at hfew
          exact Nat.le_of_ble_eq_true hfew
        have hbq : ie.bytes * q ≤ 1000000 * 65536 := Nat.mul_le_mul hby hq
        have hrun := run_make (P := Tryz.prog) w t el ie v hu hie hv k k' (n : Int) (q : Int) (by omega) (by omega) (by
          have : ((ie.bytes * q : Nat) : Int) ≤ 281474976710656 := by omega
          rwa [Int.natCast_mul] at this) (by omega)
        simp only [Int.toNat_natCast, hz] at hrun
        refine xw (by simp [opsOK, Op.operands, h1, h2]) rfl (v := .slice (some ⟨w.heap.size, 0, none⟩) n q) (w' := w.alloc (.cells (madeCells v.cells (q * z)) el)) ?_ ?_ trivial
        · have h1' : ev env x = .int k (n : Int) := ev_of h1
          have h2' : ev env y = .int k' (q : Int) := ev_of h2
          simp [execOp, h1', h2', hrun]
        · obtain ⟨σ', q1, q2, q3⟩ := new_step hr hM q z g5 (by rw [size_madeCells]; exact Nat.le_refl _) (Blk.bk (Blk.new w el (madeCells v.cells (q * z)))) (fun o u hu => by simpa using hu) (Fr.alloc _ _ _) hrep
          exact ⟨_, σ', _, _, q1, Up.snoc _ _, ⟨_, q3, hnq, by unfold maxLen; omega, by simp⟩, q2, rfl⟩
    · exact absurd h.symm hr
  · exact absurd h.symm hr
end
end Rn
end Eng
end Go.Proofs.YtalnkjpgnkfedaaGreatDoor
