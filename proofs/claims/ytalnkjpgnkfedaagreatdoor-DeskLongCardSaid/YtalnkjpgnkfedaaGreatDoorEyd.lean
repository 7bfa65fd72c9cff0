/-
  append.
-/
import Derived.Test.YtalnkjpgnkfedaaGreatDoorEyc
namespace Go.Proofs.YtalnkjpgnkfedaaGreatDoor
open Go.RowKit
open Go.Lib (strCells strCells_length run_firstCells_string run_append_grow_string)
namespace Eng
namespace Rn
/-- What is appended or copied: cells of a slice, or a text's bytes. -/
inductive Src (w : World) (t : TypeId) (z : Nat) : TypeId → Value → Nat → List Value → Prop where
  | sl {A : Option Addr} {q c : Nat} {news : List Value} (hl : news.length = q * z) (hc : ∀ a, A = some a → ∀ (j : Nat) u, news[j]? = some u → w.cell? (a.add j) = some u) (hn : A = none → q = 0) : Src w t z t (.slice A q c) q news
  | st {u : TypeId} {b : ByteArray} (hu : Tryz.prog.underlying u = some .string) (hz : z = 1) : Src w t z u (.string b) b.size (strCells b)
theorem Src.len {w : World} {t u : TypeId} {z q : Nat} {v : Value} {news : List Value} (h : Src w t z u v q news) : news.length = q * z := by
  cases h with
  | sl hl _ _ => exact hl
  | st _ hz => rw [strCells_length, hz, Nat.mul_one]
/-- What a row that has grown is. -/
def Grown (w : World) (el : TypeId) (z n : Nat) (vs : List Value) (v : Value) (w' : World) : Prop := ∃ g k cur, v = .slice (some ⟨g, 0, none⟩) n k ∧ w.heap.size ≤ g ∧ Blk w' g el cur ∧ Ext w w' ∧ n ≤ k ∧ k ≤ maxLen ∧ cur.size = k * z ∧ cur.toList.take (n * z) = vs
section
variable {w0 : Fm} {w : World} {t u ty el : TypeId} {i : TypeInfo} {z q : Nat} {vy zv : Value} {news : List Value} (hu : Tryz.prog.underlying t = some (.slice el)) (hi : Tryz.prog.info? el = some i) (hz : i.size = z) (hS : Src w t z u vy q news) (h1 : ∀ u ∈ news, u.oneCell' = true) (hq : 0 < q)
include hu hi hz hS h1 hq
theorem run_room {b o n k : Nat} (hroom : n + q ≤ k) (hc : ∀ j, j < news.length → (w.cell? ⟨b, o + n * z + j, none⟩).isSome = true) (hf : ∀ j, j < news.length → w.frozen? ⟨b, o + n * z + j, none⟩ = false) :
    (Builtin.append_ #[t, u] ty #[.slice (some ⟨b, o, none⟩) n k, vy]).run Tryz.prog w = .ok (.slice (some ⟨b, o, none⟩) (n + q) k) (w.setCells b (o + n * z) news) := by
  cases hS with
  | @sl A _ c _ hl hcell hn =>
    cases A with
    | none => exact absurd (hn rfl) (by omega)
    | some a =>
      subst hz
      exact run_append_room_cells (P := Tryz.prog) w t ty el i hu hi b o n k a q c news hl (hcell a rfl) h1 hroom hc hf
  | @st _ s hus hz1 =>
    subst hz
    have hfc := run_firstCells_string (P := Tryz.prog) w i.size s
    have hst := run_storeCells_cells (P := Tryz.prog) b (o + n * i.size) (strCells s) 0 w (by simpa using hc) (by simpa using hf) h1
    simp only [Nat.add_zero] at hst
    simp [Builtin.append_, run_underlying hu, run_underlying hus, sizeOf, typeInfo, hi, Builtin.lenOf, hroom, hfc, Addr.add_lit, hst]
variable (hzv : i.zero = some zv) (hzs : zv.cells.size = z) (hz0 : 0 < z) (hby : i.bytes ≤ 1000000)
include hzv hzs hz0 hby
theorem run_grow {B : Addr} {n k : Nat} {olds : List Value} (hlo : olds.length = n * z) (holds : ∀ (j : Nat) u, olds[j]? = some u → w.cell? (B.add j) = some u) (hg : k < n + q) (hm : n + q ≤ 1000000) :
    ∃ v' w', (Builtin.append_ #[t, u] ty #[.slice (some B) n k, vy]).run Tryz.prog w = .ok v' w' ∧ Grown w el z (n + q) (olds ++ news) v' w' := by
  have hbb : (n + q) * i.bytes ≤ 140737488355328 := Nat.le_trans (Nat.mul_le_mul hm hby) (by decide)
  have h63 : n + q ≤ maxLen := by unfold maxLen; omega
  cases hS with
  | @sl A _ c _ hl hcell hn =>
    cases A with
    | none => exact absurd (hn rfl) (by omega)
    | some a =>
      obtain ⟨v', w', hrun, hown, hgr⟩ := run_append_arg_grows (P := Tryz.prog) w t ty el i zv z i.bytes hu hi hzv hz rfl hzs hz0 B n k olds hlo holds a q c news hl (hcell a rfl) hg h63 hbb
      refine ⟨v', w', hrun, ?_⟩
      rcases hown.2 with ⟨_, h0⟩ | ⟨g, k', cur, e1, e2, e3, e4, e5, e6, e7⟩
      · omega
      · exact ⟨g, k', cur, e1, e2, e3, Fr.grown hgr (fun _ hh _ => by cases hh), e4, e5, e6, e7⟩
  | @st _ s hus hz1 =>
    have hr := run_append_grow_string (P := Tryz.prog) w t u ty el i zv hu hus hi hzv B n k olds (by rw [hz]; exact hlo) holds s hg (by unfold maxLen at h63; omega) (growslice_fits hg hbb)
    have hge := grownCap_ge w (n + s.size) k el
    refine ⟨_, _, hr, w.heap.size, _, _, rfl, Nat.le_refl _, heap_alloc_new w.drew _, (Fr.drew _ w).t (Fr.alloc _ _ _), hge, grownCap_le_maxLen w _ k el h63, ?_, ?_⟩
    · simp only [Array.size_append, List.size_toArray, size_zeroCells, hzs, hlo, strCells_length, hz1, Nat.mul_one]
      omega
    · simp only [Array.toList_append, List.append_assoc]
      rw [← List.append_assoc, show (n + s.size) * z = (olds ++ strCells s).length by rw [List.length_append, hlo, strCells_length, hz1, Nat.mul_one, Nat.mul_one]]
      exact List.take_left
theorem run_nil (hm : q ≤ 1000000) : ∃ v' w', (Builtin.append_ #[t, u] ty #[.slice none 0 0, vy]).run Tryz.prog w = .ok v' w' ∧ Grown w el z q news v' w' := by
  have hbb : (0 + q) * i.bytes ≤ 140737488355328 := Nat.le_trans (Nat.mul_le_mul (by omega) hby) (show 1000000 * 1000000 ≤ _ by decide)
  have h63 : 0 + q ≤ maxLen := by unfold maxLen; omega
  cases hS with
  | @sl A _ c _ hl hcell hn =>
    cases A with
    | none => exact absurd (hn rfl) (by omega)
    | some a =>
      obtain ⟨v', w', hrun, hown, hgr, _⟩ := run_append_own (P := Tryz.prog) w w.heap.size t ty el i zv z i.bytes hu hi hzv hz rfl hzs hz0 (.slice none 0 0) 0 [] (World.ownsRow_nil w w.heap.size el z) a q c news hl (hcell a rfl) h1 h63 hbb (Nat.le_refl _)
      refine ⟨v', w', hrun, ?_⟩
      rw [Nat.zero_add, List.nil_append] at hown
      rcases hown.2 with ⟨_, h0⟩ | ⟨g, k', cur, e1, e2, e3, e4, e5, e6, e7⟩
      · omega
      · exact ⟨g, k', cur, e1, e2, e3, Fr.grown hgr (fun _ hh _ => by cases hh), e4, e5, e6, e7⟩
  | @st _ s hus hz1 =>
    have hn : ¬ s.size = 0 := by omega
    have hn' : ¬ s.size ≤ 0 := by omega
    have h63' : ¬ ((9223372036854775807 : Int) < (s.size : Int)) := by unfold maxLen at h63; omega
    have hfit := growslice_fits (need := s.size) (old := 0) (bytes := i.bytes) (by omega) (by rw [Nat.zero_add] at hbb; exact hbb)
    have h48' : ¬ (281474976710656 < Builtin.nextslicecap s.size 0 * i.bytes) := by omega
    have hfc := run_firstCells_string (P := Tryz.prog) w.drew i.size s
    have hge := grownCap_ge w s.size 0 el
    have hfn : (Builtin.firstCells i.size 0 (.slice none 0 0)).run Tryz.prog w.drew = .ok #[] w.drew := by simp [Builtin.firstCells]
    have hr : (Builtin.append_ #[t, u] ty #[.slice none 0 0, .string s]).run Tryz.prog w = .ok (.slice (some ⟨w.heap.size, 0, none⟩) s.size (grownCap w s.size 0 el)) (w.drew.alloc (.cells ((strCells s).toArray ++ Builtin.zeroCells zv.cells (grownCap w s.size 0 el - s.size)) el)) := by
      simp [Builtin.append_, run_underlying hu, run_underlying hus, sizeOf, typeInfo, zeroValue, hi, hzv, Builtin.lenOf, hn, h63', h48', Question.forced, hfc, newRow, grownCap, hfn]
    refine ⟨_, _, hr, w.heap.size, _, _, rfl, Nat.le_refl _, heap_alloc_new w.drew _, (Fr.drew _ w).t (Fr.alloc _ _ _), hge, grownCap_le_maxLen w _ 0 el (by rw [Nat.zero_add] at h63; exact h63), ?_, ?_⟩
    · simp only [Array.size_append, List.size_toArray, size_zeroCells, hzs, strCells_length, hz1, Nat.mul_one]
      omega
    · simp only [Array.toList_append]
      rw [show s.size * z = (strCells s).length by rw [strCells_length, hz1, Nat.mul_one]]
      exact List.take_left
end
section
variable {σ : Mem} {res : Rs} {ρ : Pl} {w0 : Fm} {w : World} (hr : res ≠ .no)
include hr
theorem srK_inv (hM : MR w0 ρ σ w) {z : Nat} {x : AV} {vx : Value} {t : TypeId} {k : Nat → List SV → Rs} (hx : AR ρ x vx) (h : srK σ z x k = res) : ∃ q new news, k q new = res ∧ SRs ρ new news ∧ Src w t z t vx q news := by
  rcases onL_inv hr h with ⟨e0, g1⟩ | ⟨id, z', j, n, e0, g1⟩ | ⟨id, z', j, n, k', e0, g1⟩ | ⟨_, _, _, _, e0, g1⟩ | ⟨l, e0, g1⟩ | ⟨id, o, e0, g1⟩ <;> subst e0
  · have e1 : vx = .slice none 0 0 := hx
    subst e1
    exact ⟨0, [], [], g1, .nil, .sl (by simp) (fun a ha => by cases ha) (fun _ => rfl)⟩
  · obtain ⟨ob, l, g3, g4, g5, g6⟩ := rdK_inv hr g1
    obtain ⟨p, hp, _, _, _, rfl⟩ := hx
    obtain ⟨vs, h4, h5⟩ := hM.cells hp (l := l) (o := Nat.mul j z') (fun i hi => g5 i (by omega))
    refine ⟨n, l, vs, g6, h4, .sl (by rw [h4.len, g4]; rfl) (fun a ha j' u hu => ?_) (fun ha => by cases ha)⟩
    injection ha with ha; subst ha
    rw [Addr.add_lit]
    exact (h5 j' u hu).1
  · obtain ⟨ob, l, g3, g4, g5, g6⟩ := rdK_inv hr g1
    obtain ⟨p, hp, _, _, rfl⟩ := hx
    obtain ⟨vs, h4, h5⟩ := hM.cells hp (l := l) (o := Nat.mul j z') (fun i hi => g5 i (by omega))
    refine ⟨n, l, vs, g6, h4, .sl (by rw [h4.len, g4]; rfl) (fun a ha j' u hu => ?_) (fun ha => by cases ha)⟩
    injection ha with ha; subst ha
    rw [Addr.add_lit]
    exact (h5 j' u hu).1
  · obtain ⟨A, k', rfl, _⟩ := SR.le_inv hx
    exact ⟨0, [], [], g1, .nil, .sl (by simp) (fun a ha j u hu => by cases hu) (fun _ => rfl)⟩
  · exact absurd g1.symm hr
  · exact absurd g1.symm hr
omit hr in
theorem byte_rel (ρ : Pl) : ∀ {l : List Nat}, (∀ c ∈ l, c < 256) → SRs ρ (l.map fun c => SV.n .u8 c) ((uOf l).map fun b => Value.int .u8 (b.toNat : Int))
  | [], _ => .nil
  | a :: l, h => by
    have ha := h a (by simp)
    refine .cons ⟨rfl, ?_, by show a ≤ 255; omega⟩ (byte_rel ρ fun c hc => h c (by simp [hc]))
    simp only [UInt8.toNat_ofNat', Nat.mod_eq_of_lt ha]
    rfl
theorem stK_inv {x : AV} {vx : Value} {t u : TypeId} {k : Nat → List SV → Rs} (hu : Tryz.prog.underlying u = some .string) (hx : AR ρ x vx) (h : stK x k = res) : ∃ q new news, k q new = res ∧ SRs ρ new news ∧ Src w t 1 u vx q news := by
  obtain ⟨l, e0, g1⟩ := onS_inv hr h
  rw [fN_eq, fP_eq] at g1
  subst e0
  obtain ⟨rfl, h2, _⟩ := hx
  refine ⟨_, _, _, g1, byte_rel ρ h2, ?_⟩
  have e1 : (uOf l).map (fun b => Value.int .u8 (b.toNat : Int)) = strCells (su (uOf l)) := by simp [strCells, su]
  have e2 : l.length = (su (uOf l)).size := by rw [su_size]; simp [uOf]
  rw [e1, e2]
  exact .st hu rfl
theorem scW_inv (hM : MR w0 ρ σ w) {el : TypeId} {z : Nat} {t u : TypeId} {r : Ws} {x : AV} {vx : Value} {k : Nat → List SV → Rs} (hs : scW el z t u = some r) (hx : AR ρ x vx) (h : r.f σ x k = res) : ∃ q new news, k q new = res ∧ SRs ρ new news ∧ Src w t z u vx q news := by
  unfold scW at hs
  split at hs
  · rename_i hS
    split at hs
    · rename_i h1 _
      obtain rfl := Option.some.inj hs
      have h1 := Nat.eq_of_beq_eq_true h1
      subst h1
      exact stK_inv hr (str_spec hS) hx h
    · cases hs
  · split at hs
    · rename_i h1
      obtain rfl := Option.some.inj hs
      have h1 := Nat.eq_of_beq_eq_true h1
      subst h1
      exact srK_inv hr hM hx h
    · cases hs
end
section
variable {m : Nat} {ih : Cl} {e : En} {σ : Mem} {c : Kt} {res : Rs} {ρ : Pl} {env : Env} {w0 : Fm} {w : World} {full : Array Oper} {d : Tmp} {ty : TypeId} {pos : String} {af : Array Edge} (hr : res ≠ .no)
include hr
/-- A row that has grown, told anew. -/
theorem grown_step (hM : MR w0 ρ σ w) {el : TypeId} {z n : Nat} {vs : List Value} {v : Value} {w' : World} {l : List SV} (hG : Grown w el z n vs v w') (hl : SRs ρ l vs) (h : newK σ el l (fun id σ => c (.v (.l id z 0 n)) σ) = res) : ∃ x σ' ρ', c x σ' = res ∧ Up ρ ρ' ∧ AR ρ' x v ∧ MR w0 ρ' σ' w' := by
  obtain ⟨g, k, cur, rfl, e2, e3, e4, e5, e6, e7, e8⟩ := hG
  obtain ⟨ob, σ', h1, h2, h3, h4, h5, h6, h7⟩ := newK_inv hr h
  refine ⟨_, σ', ρ ++ [⟨g, k, z⟩], h7, Up.snoc _ _, ⟨⟨g, k, z⟩, by rw [← hM.len]; simp, rfl, by simpa using e5, e6, by simp⟩, ?_⟩
  refine hM.more k z (by rw [e7]; exact Nat.le_refl _) h1 h2 (fun o ho => by rw [h4 o]; exact List.getElem?_eq_none (by omega)) (fun o x hx => ?_) h5 h6 (Blk.bk e3) e4 (fun id o p hs hp => ⟨fun hh => by have := hM.below id o p hs hp; omega, fun hh => hh⟩) (fun b hh => hh.elim) (.inl (Nat.le_trans hM.old.size e2))
  rw [h4 o] at hx
  obtain ⟨v, h8, h9⟩ := hl.get o x hx
  refine ⟨v, ?_, h9⟩
  have h10 : (cur.toList.take (n * z))[o]? = some v := by rw [e8]; exact h8
  rw [List.getElem?_take] at h10
  split at h10
  · simpa using h10
  · cases h10
variable (hM : MR w0 ρ σ w) {t u el : TypeId} {i : TypeInfo} {z q : Nat} {vs0 vy zv : Value} {s : AV} {new : List SV} {news : List Value} (hu : Tryz.prog.underlying t = some (.slice el)) (hi : Tryz.prog.info? el = some i) (hz : i.size = z) (hS : Src w t z u vy q news) (hn : SRs ρ new news)
  (hzv : i.zero = some zv) (hzs : zv.cells.size = z) (hz0 : 0 < z) (hby : i.bytes ≤ 1000000)
include hM hu hi hz hS hn hzv hzs hz0 hby
theorem apL_inv {id n : Nat} {p : At} (hp : ρ[id]? = some p) (hpz : p.z = z) (hpc : n ≤ p.c) (hpm : p.c ≤ maxLen) (hq : 0 < q) (hm : n + q ≤ 1000000) (h : apL σ c el z id n q new = res) :
    ∃ v' w' x σ' ρ', (Builtin.append_ #[t, u] ty #[.slice (some ⟨p.b, 0, none⟩) n p.c, vy]).run Tryz.prog w = .ok v' w' ∧ c x σ' = res ∧ Up ρ ρ' ∧ AR ρ' x v' ∧ MR w0 ρ' σ' w' := by
  have hlen := hn.len
  have hSl := hS.len
  obtain ⟨ob, g1, g2⟩ := obK_inv hr h
  obtain ⟨he, g3⟩ := okK_inv g2 hr
  have he := Nat.eq_of_beq_eq_true he
  obtain ⟨y0, g4, g5⟩ := getK_inv hr g3
  have hlive : cget σ id 0 = some y0 := cget_iff.2 ⟨ob, g1, g4⟩
  obtain ⟨p', cs, b1, b2, b3, b4⟩ := hM.blk id ob g1 ⟨0, by rw [g4]; rfl⟩
  rw [hp] at b1; obtain rfl := Option.some.inj b1
  rw [hpz] at b3
  have hfar0 := hM.far id 0 p (by rw [hlive]; rfl) hp
  have hnz : n * z ≤ cs.size := Nat.le_trans (Nat.mul_le_mul_right z hpc) b3
  -- what the world comes to
  have hworld : ∃ v' w' g k cur S, (Builtin.append_ #[t, u] ty #[.slice (some ⟨p.b, 0, none⟩) n p.c, vy]).run Tryz.prog w = .ok v' w' ∧ v' = .slice (some ⟨g, 0, none⟩) (n + q) k ∧ Bk w' g el cur ∧ n + q ≤ k ∧ k ≤ maxLen ∧ k * z ≤ cur.size ∧ Fr S w w' ∧ (∀ a, (a ≠ p.b ∧ a < w.heap.size) → a ≠ g ∧ ¬ S a) ∧ (∀ b, S b → w0.may b) ∧ w0.may g ∧ (∀ o v, o < n * z → cs[o]? = some v → cur[o]? = some v) ∧ (∀ (j : Nat) v, news[j]? = some v → cur[n * z + j]? = some v) := by
    by_cases hroom : n + q ≤ p.c
    · have hfit : n * z + news.length ≤ cs.size := by
        rw [hSl, ← Nat.add_mul]
        exact Nat.le_trans (Nat.mul_le_mul_right z hroom) b3
      have hrun := run_room (ty := ty) (b := p.b) (o := 0) hu hi hz hS hn.cells hq hroom (fun j hj => by rw [b2.cell, Nat.zero_add]; simp; omega) (fun j hj => b2.frozen (by omega))
      rw [Nat.zero_add] at hrun
      obtain ⟨cs', c1, c2, c3, c4⟩ := b2.put (vs := news) hfit
      refine ⟨_, _, p.b, p.c, cs', _, hrun, rfl, by rw [← he]; exact c1, hroom, hpm, by rw [c2]; exact b3, c4, fun a ha => ⟨ha.1, fun hh => ha.1 hh⟩, fun b hb => by rw [hb]; exact hfar0, hfar0, fun o v ho hv => ?_, fun j v hj => ?_⟩
      · rw [c3, if_neg (by omega)]; exact hv
      · have hjl := (List.getElem?_eq_some_iff.1 hj).1
        rw [c3, if_pos (by omega), show n * z + j - n * z = j by omega]; exact hj
    · obtain ⟨v', w', hrun, g, k, cur, rfl, e2, e3, e4, e5, e6, e7, e8⟩ := run_grow (ty := ty) hu hi hz hS hn.cells hq hzv hzs hz0 hby (B := ⟨p.b, 0, none⟩) (n := n) (k := p.c) (olds := cs.toList.take (n * z)) (by simp; omega) (fun j v hj => by
        rw [Addr.add_lit, Nat.zero_add, b2.cell]
        rw [List.getElem?_take] at hj
        split at hj
        · simpa using hj
        · cases hj) (by omega) hm
      have hA : (cs.toList.take (n * z)).length = n * z := by simp; omega
      refine ⟨_, w', g, k, cur, _, hrun, rfl, Blk.bk e3, e5, e6, by rw [e7]; exact Nat.le_refl _, e4, fun a ha => ⟨by omega, fun hh => hh⟩, fun b hb => hb.elim, .inl (Nat.le_trans hM.old.size e2), fun o v ho hv => ?_, fun j v hj => ?_⟩
      · have h10 : (cur.toList.take ((n + q) * z))[o]? = some v := by
          rw [e8, List.getElem?_append_left (by omega), List.getElem?_take, if_pos ho]
          simpa using hv
        rw [List.getElem?_take] at h10
        split at h10
        · simpa using h10
        · cases h10
      · have h10 : (cur.toList.take ((n + q) * z))[n * z + j]? = some v := by
          rw [e8, List.getElem?_append_right (by omega), hA, show n * z + j - n * z = j by omega]
          exact hj
        rw [List.getElem?_take] at h10
        split at h10
        · simpa using h10
        · cases h10
  obtain ⟨v', w', g, k, cur, S, hrun, rfl, hB, hk1, hk2, hk3, hF, hfar, hS0, hg0, hold, hnew⟩ := hworld
  have hSm : ∀ b l, MpB w b l → ¬ S b := fun b l hb => (hfar b ⟨fun e => b2.no_map (e ▸ hb), hb.lt⟩).2
  rw [ifK_eq] at g5
  split at g5
  · rename_i hchk
    obtain ⟨hob, _⟩ := an_inv hchk
    have hob : ob.n = n * z := Nat.eq_of_beq_eq_true hob
    obtain ⟨t', f1, f2⟩ := fillT_inv hr g5
    rw [fN_eq] at f2
    obtain ⟨σ1, k1, k2, k3, k4⟩ := killK_inv hr f2
    obtain ⟨hM1, hap⟩ := hM.kill k1 k2 k3 hp (by rw [hlive]; rfl)
    obtain ⟨σ2, a1, a2, a3, a4⟩ := addK_inv hr k4
    rw [fN_eq] at a4
    refine ⟨_, w', _, σ2, ρ ++ [⟨g, k, z⟩], hrun, a4, Up.snoc _ _, ⟨⟨g, k, z⟩, by rw [← hM1.len]; simp, rfl, by simpa using hk1, hk2, by simp⟩, ?_⟩
    refine hM1.more k z hk3 a1 rfl (fun o ho => ?_) (fun o x hx => ?_) a2 a3 (by show Bk w' g ob.e cur; rw [he]; exact hB) hF (fun id' o p' hs' hp' => hfar p'.b ⟨hap id' o p' hs' hp', hM1.below id' o p' hs' hp'⟩) hS0 hg0 hSm
    · have ho : ob.n + new.length ≤ o := ho
      show tget ob.d o t' = none
      rw [f1 o, if_neg (by omega)]
      exact hM.pre id ob g1 o (by omega)
    · have hx : tget ob.d o t' = some x := hx
      rw [f1 o] at hx
      split at hx
      · rename_i hh
        obtain ⟨v, h8, h9⟩ := hn.get _ _ hx
        refine ⟨v, ?_, h9⟩
        have := hnew _ v h8
        rwa [show n * z + (o - ob.n) = o by omega] at this
      · rename_i hh
        obtain ⟨v, h8, h9⟩ := b4 o x hx
        refine ⟨v, hold o v ?_ h8, h9⟩
        rcases Nat.lt_or_ge o ob.n with hlt | hge
        · omega
        · rw [hM.pre id ob g1 o hge] at hx
          cases hx
  · obtain ⟨old, f1, f2, f3⟩ := rdT_inv hr g5
    rw [fP_eq] at f3
    obtain ⟨σ1, k1, k2, k3, k4⟩ := killK_inv hr f3
    obtain ⟨hM1, hap⟩ := hM.kill k1 k2 k3 hp (by rw [hlive]; rfl)
    obtain ⟨ob', σ2, a1, a2, a5, a6, a3, a7, a4⟩ := newK_inv hr k4
    rw [fN_eq] at a4
    refine ⟨_, w', _, σ2, ρ ++ [⟨g, k, z⟩], hrun, a4, Up.snoc _ _, ⟨⟨g, k, z⟩, by rw [← hM1.len]; simp, rfl, by simpa using hk1, hk2, by simp⟩, ?_⟩
    refine hM1.more k z hk3 a1 a2 (fun o ho => by rw [a6 o]; exact List.getElem?_eq_none (by omega)) (fun o x hx => ?_) a3 a7 hB hF (fun id' o p' hs' hp' => hfar p'.b ⟨hap id' o p' hs' hp', hM1.below id' o p' hs' hp'⟩) hS0 hg0 hSm
    rw [a6 o] at hx
    have f1 : old.length = n * z := f1
    rcases Nat.lt_or_ge o old.length with hlt | hge
    · rw [List.getElem?_append_left hlt] at hx
      have := f2 o (by omega)
      rw [hx, Nat.zero_add] at this
      obtain ⟨v, h8, h9⟩ := b4 o x this
      exact ⟨v, hold o v (by omega) h8, h9⟩
    · rw [List.getElem?_append_right hge] at hx
      obtain ⟨v, h8, h9⟩ := hn.get _ _ hx
      refine ⟨v, ?_, h9⟩
      have := hnew _ v h8
      rwa [show n * z + (o - old.length) = o by omega] at this
theorem apX_inv {id j n k : Nat} {p : At} (hp : ρ[id]? = some p) (_ : n ≤ k) (hkm : k ≤ maxLen) (hq : 0 < q) (hm : n + q ≤ 1000000) (h : apX σ c el z id j n k q new = res) :
    ∃ v' w' x σ' ρ', (Builtin.append_ #[t, u] ty #[.slice (some ⟨p.b, j * z, none⟩) n k, vy]).run Tryz.prog w = .ok v' w' ∧ c x σ' = res ∧ Up ρ ρ' ∧ AR ρ' x v' ∧ MR w0 ρ' σ' w' := by
  have hlen := hn.len
  have hSl := hS.len
  have hne : 0 < new.length := by
    rw [← hlen, hSl]
    exact Nat.mul_pos hq hz0
  unfold apX at h
  rw [ifK_eq] at h
  split at h
  · rename_i hroom
    have hroom : n + q ≤ k := Nat.le_of_ble_eq_true hroom
    rw [fN_eq] at h
    obtain ⟨σ', g1, g2, g3, g4, _⟩ := wr_step hr hM h hp hn hne
    rw [fN_eq] at g1
    have e1 : Nat.mul (Nat.add j n) z = j * z + n * z := Nat.add_mul j n z
    rw [e1] at g2 g3 g4
    have hrun := run_room (ty := ty) (b := p.b) (o := j * z) hu hi hz hS hn.cells hq hroom g2 g3
    exact ⟨_, _, _, σ', ρ, hrun, g1, Up.refl ρ, ⟨p, hp, hroom, hkm, rfl⟩, g4⟩
  · rename_i hroom
    have hroom : ¬ n + q ≤ k := fun hh => hroom (Nat.ble_eq_true_of_le hh)
    obtain ⟨ob, l, g3, g4, g5, g6⟩ := rdK_inv hr h
    rw [fP_eq] at g6
    obtain ⟨vs, h4, h5⟩ := hM.cells hp (l := l) (o := Nat.mul j z) (fun i hi => g5 i (by omega))
    obtain ⟨v', w', hrun, hG⟩ := run_grow (ty := ty) hu hi hz hS hn.cells hq hzv hzs hz0 hby (B := ⟨p.b, j * z, none⟩) (n := n) (k := k) (olds := vs) (by rw [h4.len, g4]; rfl) (fun j' v hj => by rw [Addr.add_lit]; exact (h5 j' v hj).1) (by omega) hm
    have g7 : newK σ el (l ++ new) (fun id σ => c (.v (.l id z 0 (n + q))) σ) = res := by
      have e2 : (fun id σ => fN (Nat.add n q) fun n => c (.v (.l id z 0 n)) σ) = (fun id σ => c (.v (.l id z 0 (n + q))) σ) := by
        funext id σ
        exact fN_eq _ _
      rw [← e2]
      exact g6
    obtain ⟨x, σ', ρ', a1, a2, a3, a4⟩ := grown_step hr hM hG (h4.app hn) g7
    exact ⟨v', w', x, σ', ρ', hrun, a1, a2, a3, a4⟩
theorem apK_inv (hs : AR ρ s vs0) (h : apK σ c el z s q new = res) : ∃ v' w' x σ' ρ', (Builtin.append_ #[t, u] ty #[vs0, vy]).run Tryz.prog w = .ok v' w' ∧ c x σ' = res ∧ Up ρ ρ' ∧ AR ρ' x v' ∧ MR w0 ρ' σ' w' := by
  have hzero : q = 0 → ∀ (A : Option Addr) (n k : Nat), n ≤ k → (Builtin.append_ #[t, u] ty #[.slice A n k, vy]).run Tryz.prog w = .ok (.slice A n k) w := fun hq0 A n k hnk => by
    have hl : news.length = 0 := by rw [hS.len, hq0, Nat.zero_mul]
    have hnil : news = [] := List.eq_nil_of_length_eq_zero hl
    cases hS with
    | @sl A' _ c' _ hl hcell hn' =>
      subst hq0
      cases A <;> cases A' <;> simp [Builtin.append_, run_underlying hu, sizeOf, typeInfo, hi, Builtin.lenOf, Builtin.firstCells, hnk, storeCells, loadCells, loadCellsFrom]
    | @st _ b hus hz1 =>
      have hfc := run_firstCells_string (P := Tryz.prog) w i.size b
      rw [hnil] at hfc
      rw [hq0] at hfc
      cases A <;> simp [Builtin.append_, run_underlying hu, run_underlying hus, sizeOf, typeInfo, hi, Builtin.lenOf, hq0, hnk, hfc, storeCells]
  rcases onL_inv hr h with ⟨e0, g1⟩ | ⟨id, z', j, n, e0, g1⟩ | ⟨id, z', j, n, k', e0, g1⟩ | ⟨_, _, _, _, e0, g1⟩ | ⟨l, e0, g1⟩ | ⟨id, o, e0, g1⟩ <;> subst e0
  · have e1 : vs0 = .slice none 0 0 := hs
    subst e1
    rcases Nat.eq_zero_or_pos q with h0 | h0
    · subst h0
      exact ⟨_, w, _, σ, ρ, hzero rfl none 0 0 (Nat.le_refl _), g1, Up.refl ρ, rfl, hM⟩
    · obtain ⟨q', rfl⟩ : ∃ q', q = q' + 1 := ⟨q - 1, by omega⟩
      obtain ⟨hm, g2⟩ := okK_inv (show okK (Nat.ble (q' + 1) 1000000) _ = res from g1) hr
      have hm := Nat.le_of_ble_eq_true hm
      obtain ⟨v', w', hrun, hG⟩ := run_nil (ty := ty) hu hi hz hS hn.cells h0 hzv hzs hz0 hby hm
      obtain ⟨x, σ', ρ', a1, a2, a3, a4⟩ := grown_step hr hM hG hn g2
      exact ⟨v', w', x, σ', ρ', hrun, a1, a2, a3, a4⟩
  · obtain ⟨hj, g2⟩ := okK_inv g1 hr
    obtain ⟨hzz, g3⟩ := okK_inv g2 hr
    obtain ⟨hm, g4⟩ := okK_inv g3 hr
    have hj := Nat.eq_of_beq_eq_true hj
    have hzz := Nat.eq_of_beq_eq_true hzz
    have hm : n + q ≤ 1000000 := Nat.le_of_ble_eq_true hm
    subst hj
    subst hzz
    have hs' := hs
    obtain ⟨p, hp, hpz, hpc, hpm, rfl⟩ := hs
    rcases Nat.eq_zero_or_pos q with h0 | h0
    · subst h0
      exact ⟨_, w, _, σ, ρ, hzero rfl _ n _ (by omega), g4, Up.refl ρ, hs', hM⟩
    · obtain ⟨q', rfl⟩ : ∃ q', q = q' + 1 := ⟨q - 1, by omega⟩
      obtain ⟨v', w', x, σ', ρ', a0, a1, a2, a3, a4⟩ := apL_inv (ty := ty) (c := c) hr hM hu hi hz hS hn hzv hzs hz0 hby hp hpz (by omega) hpm h0 hm g4
      refine ⟨v', w', x, σ', ρ', ?_, a1, a2, a3, a4⟩
      simpa using a0
  · obtain ⟨hzz, g3⟩ := okK_inv g1 hr
    obtain ⟨hm, g4⟩ := okK_inv g3 hr
    have hzz := Nat.eq_of_beq_eq_true hzz
    have hm : n + q ≤ 1000000 := Nat.le_of_ble_eq_true hm
    subst hzz
    have hs' := hs
    obtain ⟨p, hp, hnk, hkm, rfl⟩ := hs
    rcases Nat.eq_zero_or_pos q with h0 | h0
    · subst h0
      exact ⟨_, w, _, σ, ρ, hzero rfl _ n _ hnk, g4, Up.refl ρ, hs', hM⟩
    · obtain ⟨q', rfl⟩ : ∃ q', q = q' + 1 := ⟨q - 1, by omega⟩
      exact apX_inv (ty := ty) (c := c) hr hM hu hi hz hS hn hzv hzs hz0 hby hp hnk hkm h0 hm g4
  · exact absurd g1.symm hr
  · exact absurd g1.symm hr
  · exact absurd g1.symm hr
end
end Rn
end Eng
end Go.Proofs.YtalnkjpgnkfedaaGreatDoor
