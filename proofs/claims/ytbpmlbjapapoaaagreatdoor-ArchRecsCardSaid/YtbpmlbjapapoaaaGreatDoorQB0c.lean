/-
  Parts of the proof: Eyd, Eye, Eyf, Eymp, Eyg, Eyj, Eyk, Eyh, Eyi, Ha, He, Hf.
-/
import Derived.Laws.Cover2
import Derived.Laws.Cover3
import Derived.Laws.FloatArith
import Derived.Test.YtbpmlbjapapoaaaGreatDoorQB0a
import Derived.Test.YtbpmlbjapapoaaaGreatDoorQB0b
set_option maxRecDepth 100000
set_option maxHeartbeats 64000000
namespace Go.Proofs.YtbpmlbjapapoaaaGreatDoor
open Go.RowKit
open Go.Lib (strCells strCells_length run_firstCells_string run_append_grow_string)
namespace Eng
namespace Rn
inductive Src (w : World) (t : TypeId) (z : Nat) : TypeId → Value → Nat → List Value → Prop where
 | sl {A : Option Addr} {q c : Nat} {news : List Value} (hl : news.length = q * z) (hc : ∀ a, A = some a → ∀ (j : Nat) u, news[j]? = some u → w.cell? (a.add j) = some u) (hn : A = none → q = 0) : Src w t z t (.slice A q c) q news
 | st {u : TypeId} {b : ByteArray} (hu : Tryz.prog.underlying u = some .string) (hz : z = 1) : Src w t z u (.string b) b.size (strCells b)
theorem Src.len {w : World} {t u : TypeId} {z q : Nat} {v : Value} {news : List Value} (h : Src w t z u v q news) : news.length = q * z := by
 cases h with
 | sl hl _ _ => exact hl
 | st _ hz => rw [strCells_length, hz, Nat.mul_one]
def Grown (w : World) (el : TypeId) (z n : Nat) (vs : List Value) (v : Value) (w' : World) : Prop := ∃ g k cur, v = .slice (some ⟨g, 0, none⟩) n k ∧ w.heap.size ≤ g ∧ Blk w' g el cur ∧ Ext w w' ∧ n ≤ k ∧ k ≤ maxLen ∧ cur.size = k * z ∧ cur.toList.take (n * z) = vs
section
variable {w0 : Fm} {w : World} {t u ty el : TypeId} {i : TypeInfo} {z q : Nat} {vy zv : Value} {news : List Value} (hu : Tryz.prog.underlying t = some (.slice el)) (hi : Tryz.prog.info? el = some i) (hz : i.size = z) (hS : Src w t z u vy q news) (h1 : ∀ u ∈ news, u.oneCell' = true) (hq : 0 < q)
include hu hi hz hS h1 hq
theorem run_room {b o n k : Nat} (hroom : n + q ≤ k) (hc : ∀ j, j < news.length → (w.cell? ⟨b, o + n * z + j, none⟩).isSome = true) (hf : ∀ j, j < news.length → w.frozen? ⟨b, o + n * z + j, none⟩ = false) :
  (Builtin.append_ #[t, u] ty #[.slice (some ⟨b, o, none⟩) n k, vy]).run Tryz.prog w = .ok (.slice (some ⟨b, o, none⟩) (n + q) k) (w.setCells b (o + n * z) news) := by
 cases hS with
 | @sl A _ c _ hl hcell hn =>
  cases A with
  | none => exact absurd (hn rfl) (by omega)
  | some a =>
   subst hz
   exact run_append_room_cells (P := Tryz.prog) w t ty el i hu hi b o n k a q c news hl (hcell a rfl) h1 hroom hc hf
 | @st _ s hus hz1 =>
  subst hz
  have hfc := run_firstCells_string (P := Tryz.prog) w i.size s
  have hst := run_storeCells_cells (P := Tryz.prog) b (o + n * i.size) (strCells s) 0 w (by simpa using hc) (by simpa using hf) h1
  simp only [Nat.add_zero] at hst
  simp [Builtin.append_, run_underlying hu, run_underlying hus, sizeOf, typeInfo, hi, Builtin.lenOf, hroom, hfc, Addr.add_lit, hst]
variable (hzv : i.zero = some zv) (hzs : zv.cells.size = z) (hz0 : 0 < z) (hby : i.bytes ≤ 1000000)
include hzv hzs hz0 hby
theorem run_grow {B : Addr} {n k : Nat} {olds : List Value} (hlo : olds.length = n * z) (holds : ∀ (j : Nat) u, olds[j]? = some u → w.cell? (B.add j) = some u) (hg : k < n + q) (hm : n + q ≤ 1000000) :
  ∃ v' w', (Builtin.append_ #[t, u] ty #[.slice (some B) n k, vy]).run Tryz.prog w = .ok v' w' ∧ Grown w el z (n + q) (olds ++ news) v' w' := by
 have hbb : (n + q) * i.bytes ≤ 140737488355328 := Nat.le_trans (Nat.mul_le_mul hm hby) (by decide)
 have h63 : n + q ≤ maxLen := by unfold maxLen; omega
 cases hS with
 | @sl A _ c _ hl hcell hn =>
  cases A with
  | none => exact absurd (hn rfl) (by omega)
  | some a =>
   obtain ⟨v', w', hrun, hown, hgr⟩ := run_append_arg_grows (P := Tryz.prog) w t ty el i zv z i.bytes hu hi hzv hz rfl hzs hz0 B n k olds hlo holds a q c news hl (hcell a rfl) hg h63 hbb
   refine ⟨v', w', hrun, ?_⟩
   rcases hown.2 with ⟨_, h0⟩ | ⟨g, k', cur, e1, e2, e3, e4, e5, e6, e7⟩
   ·omega
   ·exact ⟨g, k', cur, e1, e2, e3, Fr.grown hgr (fun _ hh _ => by cases hh), e4, e5, e6, e7⟩
 | @st _ s hus hz1 =>
  have hr := run_append_grow_string (P := Tryz.prog) w t u ty el i zv hu hus hi hzv B n k olds (by rw [hz]; exact hlo) holds s hg (by unfold maxLen at h63; omega) (growslice_fits hg hbb)
  have hge := grownCap_ge w (n + s.size) k el
  refine ⟨_, _, hr, w.heap.size, _, _, rfl, Nat.le_refl _, heap_alloc_new w.drew _, (Fr.drew _ w).t (Fr.alloc _ _ _), hge, grownCap_le_maxLen w _ k el h63, ?_, ?_⟩
  ·simp only [Array.size_append, List.size_toArray, size_zeroCells, hzs, hlo, strCells_length, hz1, Nat.mul_one]
   omega
  ·simp only [Array.toList_append, List.append_assoc]
   rw [← List.append_assoc, show (n + s.size) * z = (olds ++ strCells s).length by rw [List.length_append, hlo, strCells_length, hz1, Nat.mul_one, Nat.mul_one]]
   exact List.take_left
theorem run_nil (hm : q ≤ 1000000) : ∃ v' w', (Builtin.append_ #[t, u] ty #[.slice none 0 0, vy]).run Tryz.prog w = .ok v' w' ∧ Grown w el z q news v' w' := by
 have hbb : (0 + q) * i.bytes ≤ 140737488355328 := Nat.le_trans (Nat.mul_le_mul (by omega) hby) (show 1000000 * 1000000 ≤ _ by decide)
 have h63 : 0 + q ≤ maxLen := by unfold maxLen; omega
 cases hS with
 | @sl A _ c _ hl hcell hn =>
  cases A with
  | none => exact absurd (hn rfl) (by omega)
  | some a =>
   obtain ⟨v', w', hrun, hown, hgr, _⟩ := run_append_own (P := Tryz.prog) w w.heap.size t ty el i zv z i.bytes hu hi hzv hz rfl hzs hz0 (.slice none 0 0) 0 [] (World.ownsRow_nil w w.heap.size el z) a q c news hl (hcell a rfl) h1 h63 hbb (Nat.le_refl _)
   refine ⟨v', w', hrun, ?_⟩
   rw [Nat.zero_add, List.nil_append] at hown
   rcases hown.2 with ⟨_, h0⟩ | ⟨g, k', cur, e1, e2, e3, e4, e5, e6, e7⟩
   ·omega
   ·exact ⟨g, k', cur, e1, e2, e3, Fr.grown hgr (fun _ hh _ => by cases hh), e4, e5, e6, e7⟩
 | @st _ s hus hz1 =>
  have hn : ¬ s.size = 0 := by omega
  have hn' : ¬ s.size ≤ 0 := by omega
  have h63' : ¬ ((9223372036854775807 : Int) < (s.size : Int)) := by unfold maxLen at h63; omega
  have hfit := growslice_fits (need := s.size) (old := 0) (bytes := i.bytes) (by omega) (by rw [Nat.zero_add] at hbb; exact hbb)
  have h48' : ¬ (281474976710656 < Builtin.nextslicecap s.size 0 * i.bytes) := by omega
  have hfc := run_firstCells_string (P := Tryz.prog) w.drew i.size s
  have hge := grownCap_ge w s.size 0 el
  have hfn : (Builtin.firstCells i.size 0 (.slice none 0 0)).run Tryz.prog w.drew = .ok #[] w.drew := by simp [Builtin.firstCells]
  have hr : (Builtin.append_ #[t, u] ty #[.slice none 0 0, .string s]).run Tryz.prog w = .ok (.slice (some ⟨w.heap.size, 0, none⟩) s.size (grownCap w s.size 0 el)) (w.drew.alloc (.cells ((strCells s).toArray ++ Builtin.zeroCells zv.cells (grownCap w s.size 0 el - s.size)) el)) := by
   simp [Builtin.append_, run_underlying hu, run_underlying hus, sizeOf, typeInfo, zeroValue, hi, hzv, Builtin.lenOf, hn, h63', h48', Question.forced, hfc, newRow, grownCap, hfn]
  refine ⟨_, _, hr, w.heap.size, _, _, rfl, Nat.le_refl _, heap_alloc_new w.drew _, (Fr.drew _ w).t (Fr.alloc _ _ _), hge, grownCap_le_maxLen w _ 0 el (by rw [Nat.zero_add] at h63; exact h63), ?_, ?_⟩
  ·simp only [Array.size_append, List.size_toArray, size_zeroCells, hzs, strCells_length, hz1, Nat.mul_one]
   omega
  ·simp only [Array.toList_append]
   rw [show s.size * z = (strCells s).length by rw [strCells_length, hz1, Nat.mul_one]]
   exact List.take_left
end
section
variable {σ : Mem} {res : Rs} {ρ : Pl} {w0 : Fm} {w : World} (hr : res ≠ .no)
include hr
theorem srK_inv (hM : MR w0 ρ σ w) {z : Nat} {x : AV} {vx : Value} {t : TypeId} {k : Nat → List SV → Rs} (hx : AR ρ x vx) (h : srK σ z x k = res) : ∃ q new news, k q new = res ∧ SRs ρ new news ∧ Src w t z t vx q news := by
 rcases onL_inv hr h with ⟨e0, g1⟩ | ⟨id, z', j, n, e0, g1⟩ | ⟨id, z', j, n, k', e0, g1⟩ | ⟨_, _, _, _, e0, g1⟩ | ⟨l, e0, g1⟩ | ⟨id, o, e0, g1⟩ <;> subst e0
 ·have e1 : vx = .slice none 0 0 := hx
  subst e1
  exact ⟨0, [], [], g1, .nil, .sl (by simp) (fun a ha => by cases ha) (fun _ => rfl)⟩
 ·obtain ⟨ob, l, g3, g4, g5, g6⟩ := rdK_inv hr g1
  obtain ⟨p, hp, _, _, _, rfl⟩ := hx
  exact y15
 ·obtain ⟨ob, l, g3, g4, g5, g6⟩ := rdK_inv hr g1
  obtain ⟨p, hp, _, _, rfl⟩ := hx
  exact y15
 ·obtain ⟨A, k', rfl, _⟩ := SR.le_inv hx
  exact ⟨0, [], [], g1, .nil, .sl (by simp) (fun a ha j u hu => by cases hu) (fun _ => rfl)⟩
 ·exact absurd g1.symm hr
 ·exact absurd g1.symm hr
omit hr in
theorem byte_rel (ρ : Pl) : ∀ {l : List Nat}, (∀ c ∈ l, c < 256) → SRs ρ (l.map fun c => SV.n .u8 c) ((uOf l).map fun b => Value.int .u8 (b.toNat : Int))
 | [], _ => .nil
 | a :: l, h => by
  have ha := h a (by simp)
  refine .cons ⟨rfl, ?_, by show a ≤ 255; omega⟩ (byte_rel ρ fun c hc => h c (by simp [hc]))
  simp only [UInt8.toNat_ofNat', Nat.mod_eq_of_lt ha]
  rfl
theorem stK_inv {x : AV} {vx : Value} {t u : TypeId} {k : Nat → List SV → Rs} (hu : Tryz.prog.underlying u = some .string) (hx : AR ρ x vx) (h : stK x k = res) : ∃ q new news, k q new = res ∧ SRs ρ new news ∧ Src w t 1 u vx q news := by
 obtain ⟨l, e0, g1⟩ := onS_inv hr h
 rw [fN_eq, fP_eq] at g1
 subst e0
 obtain ⟨rfl, h2, _⟩ := hx
 refine ⟨_, _, _, g1, byte_rel ρ h2, ?_⟩
 have e1 : (uOf l).map (fun b => Value.int .u8 (b.toNat : Int)) = strCells (su (uOf l)) := by simp [strCells, su]
 have e2 : l.length = (su (uOf l)).size := by rw [su_size]; simp [uOf]
 rw [e1, e2]
 exact .st hu rfl
theorem scW_inv (hM : MR w0 ρ σ w) {el : TypeId} {z : Nat} {t u : TypeId} {r : Ws} {x : AV} {vx : Value} {k : Nat → List SV → Rs} (hs : scW el z t u = some r) (hx : AR ρ x vx) (h : r.f σ x k = res) : ∃ q new news, k q new = res ∧ SRs ρ new news ∧ Src w t z u vx q news := by
 unfold scW at hs
 split at hs
 ·rename_i hS
  split at hs
  ·rename_i h1 _
   obtain rfl := Option.some.inj hs
   have h1 := Nat.eq_of_beq_eq_true h1
   subst h1
   exact stK_inv hr (str_spec hS) hx h
  ·cases hs
 ·split at hs
  ·rename_i h1
   obtain rfl := Option.some.inj hs
   have h1 := Nat.eq_of_beq_eq_true h1
   subst h1
   exact srK_inv hr hM hx h
  ·cases hs
end
section
variable {m : Nat} {ih : Cl} {e : En} {σ : Mem} {c : Kt} {res : Rs} {ρ : Pl} {env : Env} {w0 : Fm} {w : World} {full : Array Oper} {d : Tmp} {ty : TypeId} {pos : String} {af : Array Edge} (hr : res ≠ .no)
include hr
theorem grown_step (hM : MR w0 ρ σ w) {el : TypeId} {z n : Nat} {vs : List Value} {v : Value} {w' : World} {l : List SV} (hG : Grown w el z n vs v w') (hl : SRs ρ l vs) (h : newK σ el l (fun id σ => c (.v (.l id z 0 n)) σ) = res) : ∃ x σ' ρ', c x σ' = res ∧ Up ρ ρ' ∧ AR ρ' x v ∧ MR w0 ρ' σ' w' := by
 obtain ⟨g, k, cur, rfl, e2, e3, e4, e5, e6, e7, e8⟩ := hG
 obtain ⟨ob, σ', h1, h2, h3, h4, h5, h6, h7⟩ := newK_inv hr h
 refine ⟨_, σ', ρ ++ [⟨g, k, z⟩], h7, Up.snoc _ _, ⟨⟨g, k, z⟩, by rw [← hM.len]; simp, rfl, by simpa using e5, e6, by simp⟩, ?_⟩
 refine hM.more k z (by rw [e7]; exact Nat.le_refl _) h1 h2 (fun o ho => by rw [h4 o]; exact List.getElem?_eq_none (by omega)) (fun o x hx => ?_) h5 h6 (Blk.bk e3) e4 (fun id o p hs hp => ⟨fun hh => by have := hM.below id o p hs hp; omega, fun hh => hh⟩) (fun b hh => hh.elim) (.inl (Nat.le_trans hM.old.size e2))
 rw [h4 o] at hx
 obtain ⟨v, h8, h9⟩ := hl.get o x hx
 refine ⟨v, ?_, h9⟩
 have h10 : (cur.toList.take (n * z))[o]? = some v := by rw [e8]; exact h8
 rw [List.getElem?_take] at h10
 split at h10
 ·simpa using h10
 ·cases h10
variable (hM : MR w0 ρ σ w) {t u el : TypeId} {i : TypeInfo} {z q : Nat} {vs0 vy zv : Value} {s : AV} {new : List SV} {news : List Value} (hu : Tryz.prog.underlying t = some (.slice el)) (hi : Tryz.prog.info? el = some i) (hz : i.size = z) (hS : Src w t z u vy q news) (hn : SRs ρ new news)
 (hzv : i.zero = some zv) (hzs : zv.cells.size = z) (hz0 : 0 < z) (hby : i.bytes ≤ 1000000)
include hM hu hi hz hS hn hzv hzs hz0 hby
theorem apL_inv {id n : Nat} {p : At} (hp : ρ[id]? = some p) (hpz : p.z = z) (hpc : n ≤ p.c) (hpm : p.c ≤ maxLen) (hq : 0 < q) (hm : n + q ≤ 1000000) (h : apL σ c el z id n q new = res) :
  ∃ v' w' x σ' ρ', (Builtin.append_ #[t, u] ty #[.slice (some ⟨p.b, 0, none⟩) n p.c, vy]).run Tryz.prog w = .ok v' w' ∧ c x σ' = res ∧ Up ρ ρ' ∧ AR ρ' x v' ∧ MR w0 ρ' σ' w' := by
 have hlen := hn.len
 have hSl := hS.len
 obtain ⟨ob, g1, g2⟩ := obK_inv hr h
 obtain ⟨he, g3⟩ := okK_inv g2 hr
 have he := Nat.eq_of_beq_eq_true he
 obtain ⟨y0, g4, g5⟩ := getK_inv hr g3
 have hlive : cget σ id 0 = some y0 := cget_iff.2 ⟨ob, g1, g4⟩
 obtain ⟨p', cs, b1, b2, b3, b4⟩ := hM.blk id ob g1 ⟨0, by rw [g4]; rfl⟩
 rw [hp] at b1; obtain rfl := Option.some.inj b1
 rw [hpz] at b3
 have hfar0 := hM.far id 0 p (by rw [hlive]; rfl) hp
 have hnz : n * z ≤ cs.size := Nat.le_trans (Nat.mul_le_mul_right z hpc) b3
 have hworld : ∃ v' w' g k cur S, (Builtin.append_ #[t, u] ty #[.slice (some ⟨p.b, 0, none⟩) n p.c, vy]).run Tryz.prog w = .ok v' w' ∧ v' = .slice (some ⟨g, 0, none⟩) (n + q) k ∧ Bk w' g el cur ∧ n + q ≤ k ∧ k ≤ maxLen ∧ k * z ≤ cur.size ∧ Fr S w w' ∧ (∀ a, (a ≠ p.b ∧ a < w.heap.size) → a ≠ g ∧ ¬ S a) ∧ (∀ b, S b → w0.may b) ∧ w0.may g ∧ (∀ o v, o < n * z → cs[o]? = some v → cur[o]? = some v) ∧ (∀ (j : Nat) v, news[j]? = some v → cur[n * z + j]? = some v) := by
  by_cases hroom : n + q ≤ p.c
  ·have hfit : n * z + news.length ≤ cs.size := by
    rw [hSl, ← Nat.add_mul]
    exact Nat.le_trans (Nat.mul_le_mul_right z hroom) b3
   have hrun := run_room (ty := ty) (b := p.b) (o := 0) hu hi hz hS hn.cells hq hroom (fun j hj => by rw [b2.cell, Nat.zero_add]; simp; omega) (fun j hj => b2.frozen (by omega))
   rw [Nat.zero_add] at hrun
   obtain ⟨cs', c1, c2, c3, c4⟩ := b2.put (vs := news) hfit
   refine ⟨_, _, p.b, p.c, cs', _, hrun, rfl, by rw [← he]; exact c1, hroom, hpm, by rw [c2]; exact b3, c4, fun a ha => ⟨ha.1, fun hh => ha.1 hh⟩, fun b hb => by rw [hb]; exact hfar0, hfar0, fun o v ho hv => ?_, fun j v hj => ?_⟩
   ·rw [c3, if_neg (by omega)]; exact hv
   ·have hjl := (List.getElem?_eq_some_iff.1 hj).1
    rw [c3, if_pos (by omega), show n * z + j - n * z = j by omega]; exact hj
  ·obtain ⟨v', w', hrun, g, k, cur, rfl, e2, e3, e4, e5, e6, e7, e8⟩ := run_grow (ty := ty) hu hi hz hS hn.cells hq hzv hzs hz0 hby (B := ⟨p.b, 0, none⟩) (n := n) (k := p.c) (olds := cs.toList.take (n * z)) (by simp; omega) (fun j v hj => by
    rw [Addr.add_lit, Nat.zero_add, b2.cell]
    rw [List.getElem?_take] at hj
    split at hj
    ·simpa using hj
    ·cases hj) (by omega) hm
   have hA : (cs.toList.take (n * z)).length = n * z := by simp; omega
   refine ⟨_, w', g, k, cur, _, hrun, rfl, Blk.bk e3, e5, e6, by rw [e7]; exact Nat.le_refl _, e4, fun a ha => ⟨by omega, fun hh => hh⟩, fun b hb => hb.elim, .inl (Nat.le_trans hM.old.size e2), fun o v ho hv => ?_, fun j v hj => ?_⟩
   ·have h10 : (cur.toList.take ((n + q) * z))[o]? = some v := by
     rw [e8, List.getElem?_append_left (by omega), List.getElem?_take, if_pos ho]
     simpa using hv
    rw [List.getElem?_take] at h10
    split at h10
    ·simpa using h10
    ·cases h10
   ·have h10 : (cur.toList.take ((n + q) * z))[n * z + j]? = some v := by
     rw [e8, List.getElem?_append_right (by omega), hA, show n * z + j - n * z = j by omega]
     exact hj
    rw [List.getElem?_take] at h10
    split at h10
    ·simpa using h10
    ·cases h10
 obtain ⟨v', w', g, k, cur, S, hrun, rfl, hB, hk1, hk2, hk3, hF, hfar, hS0, hg0, hold, hnew⟩ := hworld
 have hSm : ∀ b l, MpB w b l → ¬ S b := fun b l hb => (hfar b ⟨fun e => b2.no_map (e ▸ hb), hb.lt⟩).2
 rw [ifK_eq] at g5
 split at g5
 ·rename_i hchk
  obtain ⟨hob, _⟩ := an_inv hchk
  have hob : ob.n = n * z := Nat.eq_of_beq_eq_true hob
  obtain ⟨t', f1, f2⟩ := fillT_inv hr g5
  rw [fN_eq] at f2
  obtain ⟨σ1, k1, k2, k3, k4⟩ := killK_inv hr f2
  obtain ⟨hM1, hap⟩ := hM.kill k1 k2 k3 hp (by rw [hlive]; rfl)
  obtain ⟨σ2, a1, a2, a3, a4⟩ := addK_inv hr k4
  rw [fN_eq] at a4
  refine ⟨_, w', _, σ2, ρ ++ [⟨g, k, z⟩], hrun, a4, Up.snoc _ _, ⟨⟨g, k, z⟩, by rw [← hM1.len]; simp, rfl, by simpa using hk1, hk2, by simp⟩, ?_⟩
  refine hM1.more k z hk3 a1 rfl (fun o ho => ?_) (fun o x hx => ?_) a2 a3 (by show Bk w' g ob.e cur; rw [he]; exact hB) hF (fun id' o p' hs' hp' => hfar p'.b ⟨hap id' o p' hs' hp', hM1.below id' o p' hs' hp'⟩) hS0 hg0 hSm
  ·have ho : ob.n + new.length ≤ o := ho
   show tget ob.d o t' = none
   rw [f1 o, if_neg (by omega)]
   exact hM.pre id ob g1 o (by omega)
  ·have hx : tget ob.d o t' = some x := hx
   rw [f1 o] at hx
   split at hx
   ·rename_i hh
    obtain ⟨v, h8, h9⟩ := hn.get _ _ hx
    refine ⟨v, ?_, h9⟩
    have := hnew _ v h8
    rwa [show n * z + (o - ob.n) = o by omega] at this
   ·rename_i hh
    obtain ⟨v, h8, h9⟩ := b4 o x hx
    refine ⟨v, hold o v ?_ h8, h9⟩
    rcases Nat.lt_or_ge o ob.n with hlt | hge
    ·omega
    ·rw [hM.pre id ob g1 o hge] at hx
     cases hx
 ·obtain ⟨old, f1, f2, f3⟩ := rdT_inv hr g5
  rw [fP_eq] at f3
  obtain ⟨σ1, k1, k2, k3, k4⟩ := killK_inv hr f3
  obtain ⟨hM1, hap⟩ := hM.kill k1 k2 k3 hp (by rw [hlive]; rfl)
  obtain ⟨ob', σ2, a1, a2, a5, a6, a3, a7, a4⟩ := newK_inv hr k4
  rw [fN_eq] at a4
  refine ⟨_, w', _, σ2, ρ ++ [⟨g, k, z⟩], hrun, a4, Up.snoc _ _, ⟨⟨g, k, z⟩, by rw [← hM1.len]; simp, rfl, by simpa using hk1, hk2, by simp⟩, ?_⟩
  refine hM1.more k z hk3 a1 a2 (fun o ho => by rw [a6 o]; exact List.getElem?_eq_none (by omega)) (fun o x hx => ?_) a3 a7 hB hF (fun id' o p' hs' hp' => hfar p'.b ⟨hap id' o p' hs' hp', hM1.below id' o p' hs' hp'⟩) hS0 hg0 hSm
  rw [a6 o] at hx
  have f1 : old.length = n * z := f1
  rcases Nat.lt_or_ge o old.length with hlt | hge
  ·rw [List.getElem?_append_left hlt] at hx
   have := f2 o (by omega)
   rw [hx, Nat.zero_add] at this
   obtain ⟨v, h8, h9⟩ := b4 o x this
   exact ⟨v, hold o v (by omega) h8, h9⟩
  ·rw [List.getElem?_append_right hge] at hx
   obtain ⟨v, h8, h9⟩ := hn.get _ _ hx
   refine ⟨v, ?_, h9⟩
   have := hnew _ v h8
   rwa [show n * z + (o - old.length) = o by omega] at this
theorem apX_inv {id j n k : Nat} {p : At} (hp : ρ[id]? = some p) (_ : n ≤ k) (hkm : k ≤ maxLen) (hq : 0 < q) (hm : n + q ≤ 1000000) (h : apX σ c el z id j n k q new = res) :
  ∃ v' w' x σ' ρ', (Builtin.append_ #[t, u] ty #[.slice (some ⟨p.b, j * z, none⟩) n k, vy]).run Tryz.prog w = .ok v' w' ∧ c x σ' = res ∧ Up ρ ρ' ∧ AR ρ' x v' ∧ MR w0 ρ' σ' w' := by
 have hlen := hn.len
 have hSl := hS.len
 have hne : 0 < new.length := by
  rw [← hlen, hSl]
  exact Nat.mul_pos hq hz0
 unfold apX at h
 rw [ifK_eq] at h
 split at h
 ·rename_i hroom
  have hroom : n + q ≤ k := Nat.le_of_ble_eq_true hroom
  rw [fN_eq] at h
  obtain ⟨σ', g1, g2, g3, g4, _⟩ := wr_step hr hM h hp hn hne
  rw [fN_eq] at g1
  have e1 : Nat.mul (Nat.add j n) z = j * z + n * z := Nat.add_mul j n z
  rw [e1] at g2 g3 g4
  have hrun := run_room (ty := ty) (b := p.b) (o := j * z) hu hi hz hS hn.cells hq hroom g2 g3
  exact ⟨_, _, _, σ', ρ, hrun, g1, Up.refl ρ, ⟨p, hp, hroom, hkm, rfl⟩, g4⟩
 ·rename_i hroom
  have hroom : ¬ n + q ≤ k := fun hh => hroom (Nat.ble_eq_true_of_le hh)
  obtain ⟨ob, l, g3, g4, g5, g6⟩ := rdK_inv hr h
  rw [fP_eq] at g6
  obtain ⟨vs, h4, h5⟩ := hM.cells hp (l := l) (o := Nat.mul j z) (fun i hi => g5 i (by omega))
  obtain ⟨v', w', hrun, hG⟩ := run_grow (ty := ty) hu hi hz hS hn.cells hq hzv hzs hz0 hby (B := ⟨p.b, j * z, none⟩) (n := n) (k := k) (olds := vs) (by rw [h4.len, g4]; rfl) (fun j' v hj => by rw [Addr.add_lit]; exact (h5 j' v hj).1) (by omega) hm
  have g7 : newK σ el (l ++ new) (fun id σ => c (.v (.l id z 0 (n + q))) σ) = res := by
   have e2 : (fun id σ => fN (Nat.add n q) fun n => c (.v (.l id z 0 n)) σ) = (fun id σ => c (.v (.l id z 0 (n + q))) σ) := by
    funext id σ
    exact fN_eq _ _
   rw [← e2]
   exact g6
  obtain ⟨x, σ', ρ', a1, a2, a3, a4⟩ := grown_step hr hM hG (h4.app hn) g7
  exact ⟨v', w', x, σ', ρ', hrun, a1, a2, a3, a4⟩
theorem apK_inv (hs : AR ρ s vs0) (h : apK σ c el z s q new = res) : ∃ v' w' x σ' ρ', (Builtin.append_ #[t, u] ty #[vs0, vy]).run Tryz.prog w = .ok v' w' ∧ c x σ' = res ∧ Up ρ ρ' ∧ AR ρ' x v' ∧ MR w0 ρ' σ' w' := by
 have hzero : q = 0 → ∀ (A : Option Addr) (n k : Nat), n ≤ k → (Builtin.append_ #[t, u] ty #[.slice A n k, vy]).run Tryz.prog w = .ok (.slice A n k) w := fun hq0 A n k hnk => by
  have hl : news.length = 0 := by rw [hS.len, hq0, Nat.zero_mul]
  have hnil : news = [] := List.eq_nil_of_length_eq_zero hl
  cases hS with
  | @sl A' _ c' _ hl hcell hn' =>
   subst hq0
   cases A <;> cases A' <;> simp [Builtin.append_, run_underlying hu, sizeOf, typeInfo, hi, Builtin.lenOf, Builtin.firstCells, hnk, storeCells, loadCells, loadCellsFrom]
  | @st _ b hus hz1 =>
   have hfc := run_firstCells_string (P := Tryz.prog) w i.size b
   rw [hnil] at hfc
   rw [hq0] at hfc
   cases A <;> simp [Builtin.append_, run_underlying hu, run_underlying hus, sizeOf, typeInfo, hi, Builtin.lenOf, hq0, hnk, hfc, storeCells]
 rcases onL_inv hr h with ⟨e0, g1⟩ | ⟨id, z', j, n, e0, g1⟩ | ⟨id, z', j, n, k', e0, g1⟩ | ⟨_, _, _, _, e0, g1⟩ | ⟨l, e0, g1⟩ | ⟨id, o, e0, g1⟩ <;> subst e0
 ·have e1 : vs0 = .slice none 0 0 := hs
  subst e1
  rcases Nat.eq_zero_or_pos q with h0 | h0
  ·subst h0
   exact ⟨_, w, _, σ, ρ, hzero rfl none 0 0 (Nat.le_refl _), g1, Up.refl ρ, rfl, hM⟩
  ·obtain ⟨q', rfl⟩ : ∃ q', q = q' + 1 := ⟨q - 1, by omega⟩
   obtain ⟨hm, g2⟩ := okK_inv (show okK (Nat.ble (q' + 1) 1000000) _ = res from g1) hr
   have hm := Nat.le_of_ble_eq_true hm
   obtain ⟨v', w', hrun, hG⟩ := run_nil (ty := ty) hu hi hz hS hn.cells h0 hzv hzs hz0 hby hm
   obtain ⟨x, σ', ρ', a1, a2, a3, a4⟩ := grown_step hr hM hG hn g2
   exact ⟨v', w', x, σ', ρ', hrun, a1, a2, a3, a4⟩
 ·obtain ⟨hj, g2⟩ := okK_inv g1 hr
  obtain ⟨hzz, g3⟩ := okK_inv g2 hr
  obtain ⟨hm, g4⟩ := okK_inv g3 hr
  have hj := Nat.eq_of_beq_eq_true hj
  have hzz := Nat.eq_of_beq_eq_true hzz
  have hm : n + q ≤ 1000000 := Nat.le_of_ble_eq_true hm
  subst hj
  subst hzz
  have hs' := hs
  obtain ⟨p, hp, hpz, hpc, hpm, rfl⟩ := hs
  rcases Nat.eq_zero_or_pos q with h0 | h0
  ·subst h0
   exact ⟨_, w, _, σ, ρ, hzero rfl _ n _ (by omega), g4, Up.refl ρ, hs', hM⟩
  ·obtain ⟨q', rfl⟩ : ∃ q', q = q' + 1 := ⟨q - 1, by omega⟩
   obtain ⟨v', w', x, σ', ρ', a0, a1, a2, a3, a4⟩ := apL_inv (ty := ty) (c := c) hr hM hu hi hz hS hn hzv hzs hz0 hby hp hpz (by omega) hpm h0 hm g4
   refine ⟨v', w', x, σ', ρ', ?_, a1, a2, a3, a4⟩
   simpa using a0
 ·obtain ⟨hzz, g3⟩ := okK_inv g1 hr
  obtain ⟨hm, g4⟩ := okK_inv g3 hr
  have hzz := Nat.eq_of_beq_eq_true hzz
  have hm : n + q ≤ 1000000 := Nat.le_of_ble_eq_true hm
  subst hzz
  have hs' := hs
  obtain ⟨p, hp, hnk, hkm, rfl⟩ := hs
  rcases Nat.eq_zero_or_pos q with h0 | h0
  ·subst h0
   exact ⟨_, w, _, σ, ρ, hzero rfl _ n _ hnk, g4, Up.refl ρ, hs', hM⟩
  ·obtain ⟨q', rfl⟩ : ∃ q', q = q' + 1 := ⟨q - 1, by omega⟩
   exact apX_inv (ty := ty) (c := c) hr hM hu hi hz hS hn hzv hzs hz0 hby hp hnk hkm h0 hm g4
 ·exact absurd g1.symm hr
 ·exact absurd g1.symm hr
 ·exact absurd g1.symm hr
end
end Rn
end Eng
end Go.Proofs.YtbpmlbjapapoaaaGreatDoor
namespace Go.Proofs.YtbpmlbjapapoaaaGreatDoor
open Go.RowKit
open Go.Lib (strCells strCells_length run_firstCells_string)
namespace Eng
namespace Rn
theorem zA_cells {t : TypeId} {l : List SV} {i : TypeInfo} (hi : Tryz.prog.info? t = some i) (h : zA t = some l) : ∃ v, i.zero = some v ∧ v.cells.size = l.length := by
 obtain ⟨i', v, h1, h2, h3⟩ := zA_inv (ρ := []) h
 rw [hi] at h1; obtain rfl := Option.some.inj h1
 exact ⟨v, h2, by simpa using h3.len⟩
theorem few_spec {t : TypeId} {i : TypeInfo} (hi : Tryz.prog.info? t = some i) (h : few t = true) : i.bytes ≤ 1000000 := by
 unfold few at h
 rw [hi] at h
 exact Nat.le_of_ble_eq_true h
theorem firsts {w : World} {t u : TypeId} {z q : Nat} {vy : Value} {news : List Value} (hS : Src w t z u vy q news) (r : Nat) (hrq : r ≤ q) : (Builtin.firstCells z r vy).run Tryz.prog w = .ok (news.take (r * z)).toArray w := by
 cases hS with
 | @sl A _ c _ hl hcell hn =>
  cases A with
  | none =>
   have h0 : r = 0 := by have := hn rfl; omega
   subst h0
   simp [Builtin.firstCells]
  | some a =>
   refine run_firstCells_some (P := Tryz.prog) w z r a q c (news.take (r * z)) ?_ (fun j v hj => ?_)
   ·rw [List.length_take, hl]
    exact Nat.min_eq_left (Nat.mul_le_mul_right z hrq)
   ·rw [List.getElem?_take] at hj
    split at hj
    ·exact hcell a rfl j v hj
    ·cases hj
 | @st _ b hus hz1 =>
  subst hz1
  obtain ⟨l, rfl⟩ := su_of b
  have e := su_cut l 0 r
  simp only [List.drop_zero, Nat.sub_zero] at e
  simp only [Builtin.firstCells, e]
  simp [strCells, su, List.map_take]
section
variable {m : Nat} {ih : Cl} {e : En} {σ : Mem} {c : Kt} {res : Rs} {ρ : Pl} {env : Env} {w0 : Fm} {w : World} {full : Array Oper} {d : Tmp} {dst : Option Tmp} {ty : TypeId} {pos : String} {af : Array Edge} (hr : res ≠ .no) (hE : ER m ρ e env) (hM : MR w0 ρ σ w)
include hr hE hM
theorem s_ap {t u : TypeId} {x y : Operand} (h : (apW m t u x y).f ih e σ c = res) : xs Tryz.prog isI isS [] Eng.noH full (Good w0 ρ c res env dst) [⟨dst, .call { callee := .builtin .append, args := ⟨[x, y]⟩, argTypes := ⟨[t, u]⟩ }, ty, pos, af, none⟩] env w := by
 unfold apW at h
 split at h
 ·rename_i el z hel
  obtain ⟨hu, hsz⟩ := elemOf_inv hel
  obtain ⟨⟨i, hi, hz⟩, _⟩ := size_spec hsz
  split at h
  ·rename_i zs hfew hzs
   split at h
   ·rename_i r k1 k2 hsc
    rw [cN_eq] at h
    have k1 := Nat.eq_of_beq_eq_true k1
    have k2 := Nat.le_of_ble_eq_true k2
    obtain ⟨a, b, va, vb, h1, h2, h3, h4, g1⟩ := two hr hE h
    obtain ⟨q, new, news, g2, hn, hS⟩ := scW_inv hr hM hsc h4 g1
    obtain ⟨zv, hzv, hzc⟩ := zA_cells hi hzs
    obtain ⟨v', w', x', σ', ρ', hrun, a1, a2, a3, a4⟩ := apK_inv (ty := ty) (c := c) hr hM hu hi hz hS hn hzv (by rw [hzc, k1]) (by omega) (few_spec hi hfew) h3 g2
    refine xw (by simp [opsOK, Op.operands, Call.operands, h1, h2]) rfl (v := v') (w' := w') ?_ ⟨x', σ', ρ', _, a1, a2, a3, a4, rfl⟩ trivial
    simp [execOp, resolve, invoke, builtin, ev_of h1, ev_of h2, hrun]
   ·exact absurd h.symm hr
  ·exact absurd h.symm hr
 ·exact absurd h.symm hr
theorem s_cp {t u : TypeId} {x y : Operand} (h : (cpW m t u x y).f ih e σ c = res) : xs Tryz.prog isI isS [] Eng.noH full (Good w0 ρ c res env dst) [⟨dst, .call { callee := .builtin .copy, args := ⟨[x, y]⟩, argTypes := ⟨[t, u]⟩ }, ty, pos, af, none⟩] env w := by
 unfold cpW at h
 split at h
 ·rename_i el z hel
  obtain ⟨hu, hsz⟩ := elemOf_inv hel
  obtain ⟨⟨i, hi, hz⟩, _⟩ := size_spec hsz
  split at h
  ·rename_i r hz1 hsc
   rw [cN_eq] at h
   have hz1 := Nat.le_of_ble_eq_true hz1
   obtain ⟨a, b, va, vb, h1, h2, h3, h4, g1⟩ := two hr hE h
   obtain ⟨q, new, news, g2, hn, hS⟩ := scW_inv hr hM hsc h4 g1
   have hlen : ∀ w', (Builtin.lenOf vb).run Tryz.prog w' = .ok q w' := fun w' => by cases hS <;> simp [Builtin.lenOf]
   have go : ∀ (A : Option Addr) (n k r : Nat) (y' : SV) (σ' : Mem) (w' : World), va = .slice A n k → Nat.min q n = r → (match A with | some a => (storeCells a (news.take (r * z))).run Tryz.prog w = .ok () w' | none => w' = w) → c (.v y') σ' = res → SR ρ y' (.int .i64 (r : Int)) → MR w0 ρ σ' w' → xs Tryz.prog isI isS [] Eng.noH full (Good w0 ρ c res env dst) [⟨dst, .call { callee := .builtin .copy, args := ⟨[x, y]⟩, argTypes := ⟨[t, u]⟩ }, ty, pos, af, none⟩] env w := fun A n k r y' σ' w' hv hmin hst hc hy hM' => by
    subst hv
    have hfc := firsts hS r (by rw [← hmin]; exact Nat.min_le_left _ _)
    have hrun : (Builtin.copy_ #[t, u] ty #[.slice A n k, vb]).run Tryz.prog w = .ok (.int .i64 (r : Int)) w' := by
     cases A with
     | none =>
      have hst : w' = w := hst
      subst hst
      simp [Builtin.copy_, run_underlying hu, sizeOf, typeInfo, hi, hz, hlen, hmin, hfc, goInt]
     | some a =>
      have hst : (storeCells a (news.take (r * z))).run Tryz.prog w = .ok () w' := hst
      simp [Builtin.copy_, run_underlying hu, sizeOf, typeInfo, hi, hz, hlen, hmin, hfc, hst, goInt]
    refine xw (by simp [opsOK, Op.operands, Call.operands, h1, h2]) rfl (v := .int .i64 (r : Int)) (w' := w') ?_ ⟨_, σ', ρ, _, hc, Up.refl ρ, hy, hM', rfl⟩ trivial
    simp [execOp, resolve, invoke, builtin, ev_of h1, ev_of h2, hrun]
   have gt : ∀ (id z' j n k : Nat) (p : At), va = .slice (some ⟨p.b, j * z', none⟩) n k → ρ[id]? = some p → cpT σ c z id z' j n q new = res → xs Tryz.prog isI isS [] Eng.noH full (Good w0 ρ c res env dst) [⟨dst, .call { callee := .builtin .copy, args := ⟨[x, y]⟩, argTypes := ⟨[t, u]⟩ }, ty, pos, af, none⟩] env w := fun id z' j n k p hv hp h => by
    obtain ⟨hzz, g3⟩ := okK_inv h hr
    have hzz := Nat.eq_of_beq_eq_true hzz
    rw [fN_eq] at g3
    rcases Nat.eq_zero_or_pos (Nat.min q n) with h0 | h0
    ·rw [h0] at g3
     refine go _ n k 0 (.n .i64 0) σ w hv h0 ?_ g3 ⟨rfl, Nat.zero_le _⟩ hM
     rw [Nat.zero_mul]
     rfl
    ·obtain ⟨r, hr1⟩ : ∃ r, Nat.min q n = r + 1 := ⟨Nat.min q n - 1, by omega⟩
     have hrq : r + 1 ≤ q := by rw [← hr1]; exact Nat.min_le_left _ _
     rw [hr1] at g3
     have g4 : (fP (new.take (Nat.mul (r + 1) z)) fun l => fN (Nat.mul j z) fun o => wrK σ id o l fun σ => lnK σ c (r + 1)) = res := g3
     rw [fP_eq, fN_eq] at g4
     have hSl := hS.len
     have hnl := hn.len
     have hle : (r + 1) * z ≤ q * z := Nat.mul_le_mul_right z hrq
     have hz0 : 0 < (r + 1) * z := Nat.mul_pos (by omega) (by omega)
     ·obtain ⟨σ', g5, g6, g7, g8, _⟩ := wr_step hr hM g4 hp (hn.take ((r + 1) * z)) (by rw [List.length_take]; exact Nat.lt_min.2 ⟨hz0, by omega⟩)
      obtain ⟨hb, g9⟩ := okK_inv g5 hr
      refine go _ n k (r + 1) _ σ' _ hv hr1 ?_ g9 ⟨rfl, Nat.le_of_ble_eq_true hb⟩ g8
      have hst := run_storeCells_cells (P := Tryz.prog) p.b (j * z') (news.take ((r + 1) * z)) 0 w (by rw [hzz]; simpa using g6) (by rw [hzz]; simpa using g7) ((hn.take _).cells)
      rw [Nat.add_zero, hzz] at hst
      rw [hzz]
      exact hst
   rcases onL_inv hr g2 with ⟨e0, g3⟩ | ⟨id, z', j, n, e0, g3⟩ | ⟨id, z', j, n, k', e0, g3⟩ | ⟨_, _, _, _, e0, g3⟩ | ⟨l, e0, g3⟩ | ⟨id, o, e0, g3⟩ <;> subst e0
   ·exact go none 0 0 0 _ σ w h3 (Nat.min_eq_right (Nat.zero_le _)) rfl g3 ⟨rfl, Nat.zero_le _⟩ hM
   ·obtain ⟨p, hp, _, _, _, rfl⟩ := h3
    exact gt id z' j n _ p rfl hp g3
   ·obtain ⟨p, hp, _, _, rfl⟩ := h3
    exact gt id z' j n _ p rfl hp g3
   ·obtain ⟨A, k, rfl, _⟩ := SR.le_inv h3
    refine go A 0 k 0 _ σ w rfl (Nat.min_eq_right (Nat.zero_le _)) ?_ g3 ⟨rfl, Nat.zero_le _⟩ hM
    cases A with
    | none => rfl
    | some a =>
     rw [Nat.zero_mul]
     rfl
   ·exact absurd g3.symm hr
   ·exact absurd g3.symm hr
  ·exact absurd h.symm hr
 ·exact absurd h.symm hr
omit hr hE hM in
theorem x_cvi {s t : TypeId} {x : Operand} {k0 k k1 : IntKind} {a : Int} (hx : evo env x = some (.int k1 a)) (hsk : kindOf s = some k0) (ht : kindOf t = some k) {K : Env → World → Prop} {hs : List Nat} {H : World → Prop} {rest : List Oper}
  (h : xs Tryz.prog isI isS hs H full K rest ((d, .int k (k.wrap a)) :: env) w) : xs Tryz.prog isI isS hs H full K (⟨some d, .convert s t x, ty, pos, af, none⟩ :: rest) env w := by
 refine x_gen rfl (by simp [opsOK, Op.operands, hx]) ?_
 have hc : clsO isI isS hs ⟨some d, Op.convert s t x, ty, pos, af, none⟩ = .p := by simp [clsO, cls, isI, hsk, ht]
 rw [hc]
 exact ⟨_, fun w' => by simp [execOp, ev_of hx, convert, run_underlying (kind_spec hsk), run_underlying (kind_spec ht), Conv.intToInt], h⟩
end
end Rn
end Eng
end Go.Proofs.YtbpmlbjapapoaaaGreatDoor
namespace Go.Proofs.YtbpmlbjapapoaaaGreatDoor
open Go.RowKit
namespace Eng
namespace Rn
theorem freeze_bk {w : World} {b : Nat} {eb : TypeId} {n : Nat} (hs : w.shape? b = some (eb, n)) {g : Nat} {t : TypeId} {cs : Array Value} (h : Bk w g t cs) : Bk (w.freeze ⟨b, n, none⟩ 1) g t cs := by
 obtain ⟨f, h, hf⟩ := h
 unfold World.freeze
 rw [if_neg (by decide)]
 by_cases hb : b = g
 ·subst hb
  have hn : n = cs.size := by
   unfold World.shape? at hs
   rw [h] at hs
   have := Option.some.inj hs
   exact (Prod.mk.inj this).2.symm
  refine ⟨if f.1 == f.2 then (n, n + 1) else (min f.1 n, max f.2 (n + 1)), ?_, .inl ?_⟩
  ·simp [Array.getElem?_modify, h]
  ·subst hn
   split
   ·exact Nat.le_refl _
   ·rename_i hne
    rcases hf with hf | hf
    ·show cs.size ≤ min f.1 cs.size
     omega
    ·rw [hf] at hne
     simp at hne
 ·refine ⟨f, ?_, hf⟩
  simp [Array.getElem?_modify, hb, h]
theorem mark_run (P : Program) (a : Addr) (w : World) : ∃ w', (markStringish a).run P w = .ok () w' ∧ Fr (fun k => k = a.block) w w' ∧ (∀ g t cs, Bk w g t cs → Bk w' g t cs) ∧ ∀ g l, MpB w g l → MpB w' g l := by
 cases hs : w.shape? a.block with
 | none => exact ⟨w, by simp [markStringish, hs], Fr.refl _ _, fun _ _ _ h => h, fun _ _ h => h⟩
 | some p =>
  obtain ⟨eb, n⟩ := p
  have hF : Fr (fun k => k = a.block) w (w.freeze ⟨a.block, n, none⟩ 1) := ⟨rfl, rfl, rfl, by simp [World.freeze], fun k hk hn => by unfold World.freeze; rw [if_neg (by decide)]; simp only [Array.getElem?_modify]; rw [if_neg (fun e => hn e.symm)]⟩
  refine ⟨w.freeze ⟨a.block, n, none⟩ 1, by simp [markStringish, hs], hF, fun g t cs h => freeze_bk hs h, fun g l h => h.fr hF fun e => ?_⟩
  have e : g = a.block := e
  subst e
  obtain ⟨es, clock, h1, _⟩ := h
  simp [World.shape?, h1] at hs
section
variable {m : Nat} {ih : Cl} {e : En} {σ : Mem} {c : Kt} {res : Rs} {ρ : Pl} {env : Env} {w0 : Fm} {w : World} {full : Array Oper} {d : Tmp} {dst : Option Tmp} {ty : TypeId} {pos : String} {af : Array Edge} (hr : res ≠ .no)
include hr
theorem byK_inv {ρ : Pl} : ∀ {l : List SV} {vs : List Value} {k : List Nat → Rs}, byK l k = res → SRs ρ l vs → ∃ r, r.length = l.length ∧ (∀ c ∈ r, c < 256) ∧ vs = (uOf r).map (fun b => Value.int .u8 (b.toNat : Int)) ∧ k r = res
 | [], vs, k, h, hl => by
  cases hl
  exact ⟨[], rfl, (by intro c hc; cases hc), rfl, h⟩
 | x :: l, vs, k, h, hl => by
  cases hl with
  | cons h1 h2 =>
   obtain ⟨q, a, e0, g1⟩ := onN_inv hr (show onN (.v x) (fun q a => kkK q .u8 (byK l fun r => k (a :: r))) = res from h)
   obtain ⟨e1, g2⟩ := kkK_inv hr g1
   obtain ⟨r, g3, g4, g5, g6⟩ := byK_inv g2 h2
   have e2 : x = .n q a := by injection e0
   subst e2
   subst e1
   obtain ⟨_, h3, h4⟩ := h1
   have ha : a < 256 := by have h4 : a ≤ 255 := h4; omega
   refine ⟨a :: r, by simp [g3], fun c hc => ?_, ?_, g6⟩
   ·rcases List.mem_cons.1 hc with rfl | hc
    ·exact ha
    ·exact g4 c hc
   ·rw [h3, g5]
    simp only [uOf, List.map_cons, UInt8.toNat_ofNat', Nat.mod_eq_of_lt ha]
    rfl
theorem rvK_inv {r : Rs} (h : rvK c r = res) : ∃ v e' σ', r = .mk (.val v) e' σ' ∧ c v σ' = res := by
 cases r with
 | no => exact absurd h.symm hr
 | mk x e' σ' =>
  cases x with
  | val v => exact ⟨v, e', σ', rfl, h⟩
  | _ => exact absurd h.symm hr
variable (hE : ER m ρ e env) (hM : MR w0 ρ σ w)
include hE hM
theorem s_cv {s t : TypeId} {x : Operand} (h : (cvW m s t x).f ih e σ c = res) : xs Tryz.prog isI isS [] Eng.noH full (Good w0 ρ c res env (some d)) [⟨some d, .convert s t x, ty, pos, af, none⟩] env w := by
 unfold cvW at h
 split at h
 ·rename_i k hk
  split at h
  ·rename_i k0 hk0
   obtain ⟨a, v, h1, h2, g1⟩ := gtW_inv hr hE (show (gtW m x).f e _ = res from h)
   rcases onI_inv hr g1 with ⟨k1, b, e0, g2⟩ | ⟨k1, b, e0, g2⟩ <;> subst e0
   ·exact y44
   ·exact y44
  ·rename_i hk0
   split at h
   ·rename_i hu
    obtain ⟨a, v, h1, h2, g1⟩ := gtW_inv hr hE (show (gtW m x).f e _ = res from h)
    obtain ⟨n, e0, g2⟩ := onE_inv hr g1
    subst e0
    obtain ⟨rfl, hn⟩ := h2
    have hv : floatToIntVal .f64 (fw n) .i64 = some (n : Int) := by
     unfold floatToIntVal
     rw [fw_int (by omega)]
     dsimp only
     rw [if_pos (by simp [IntKind.min, IntKind.max, IntKind.signed, IntKind.bits]; omega)]
    have hI : isI s = false := by unfold isI; rw [hk0]; rfl
    have hS : isS t = false := by
     cases hst : isS t with
     | false => rfl
     | true =>
      have h5 := str_spec hst
      rw [kind_spec hk] at h5
      cases h5
    refine xw (v := .int .i64 (n : Int)) (w' := w) (by simp [opsOK, Op.operands, h1]) (by simp [cls, hI, hS]) ?_ ⟨_, σ, ρ, _, g2, Up.refl ρ, ⟨rfl, by show n ≤ 9223372036854775807; omega⟩, hM, rfl⟩ trivial
    simp [execOp, ev_of h1, run_convert_float_int (P := Tryz.prog) w s t .f64 .i64 (fw n) n (by rw [hu]; rfl) (kind_spec hk) hv]
   ·exact absurd h.symm hr
 ·rename_i hk
  have hI : isI t = false := by unfold isI; rw [hk]; rfl
  split at h
  ·rename_i hS
   have hcl : clsO isI isS [] ⟨some d, .convert s t x, ty, pos, af, none⟩ = .r := by
    simp [clsO, cls, hI, hS, memb]
   split at h
   ·rename_i hS'
    obtain ⟨a, v, h1, h2, g1⟩ := gtW_inv hr hE h
    obtain ⟨l, e0, g2⟩ := onS_inv hr g1
    subst e0
    have h2' := h2
    obtain ⟨rfl, _⟩ := h2
    refine x_gen rfl (by simp [opsOK, Op.operands, h1]) ?_
    rw [hcl]
    refine ⟨_, ?_, _, σ, ρ, _, g2, Up.refl ρ, h2', hM, rfl⟩
    simp [execOp, ev_of h1, convert, run_underlying (str_spec hS), run_underlying (str_spec hS')]
   ·split at h
    ·rename_i el hel
     split at h
     ·rename_i hk8
      obtain ⟨hu, hsz⟩ := elemOf_inv hel
      obtain ⟨a, v, h1, h2, g1⟩ := gtW_inv hr hE h
      obtain ⟨q, new, news, g2, hn, hSr⟩ := srK_inv (t := s) hr hM h2 g1
      obtain ⟨r, f1, f2, f3, f4⟩ := byK_inv hr g2 hn
      obtain ⟨hb, f5⟩ := okK_inv f4 hr
      have hb := Nat.le_of_ble_eq_true hb
      have hlen : (uOf r).length = q := by
       have := hSr.len
       rw [hn.len] at this
       simp [uOf]
       omega
      refine x_gen rfl (by simp [opsOK, Op.operands, h1]) ?_
      rw [hcl]
      refine ⟨.string (su (uOf r)), ?_, _, σ, ρ, _, f5, Up.refl ρ, ⟨rfl, f2, hb⟩, hM, rfl⟩
      have hrun : (convert s t v).run Tryz.prog w = .ok (.string (su (uOf r))) w := by
       cases hSr with
       | @sl A _ c' _ hl hcell hnn =>
        cases A with
        | none =>
         have h0 := hnn rfl
         have e1 : uOf r = [] := List.eq_nil_of_length_eq_zero (by omega)
         rw [run_convert_bytes_nil w s el hu (kind_spec hk8) _ _ t (str_spec hS), e1]
         rfl
        | some a' =>
         have := run_convert_bytes_back (P := Tryz.prog) w s t el a' c' (uOf r) hu (kind_spec hk8) (str_spec hS) (fun j hj => by
          refine hcell a' rfl j _ ?_
          rw [f3, List.getElem?_map, List.getElem?_eq_getElem hj]
          rfl)
         rw [hlen] at this
         exact this
       | st hus _ =>
        have := str_spec hS
        rw [hu] at hus
        cases hus
      simp [execOp, ev_of h1, hrun]
     ·exact absurd h.symm hr
    ·exact absurd h.symm hr
  ·rename_i hS
   split at h
   ·rename_i el hel
    obtain ⟨hu, hsz⟩ := elemOf_inv hel
    split at h
    ·rename_i hk8
     have hclw : cls isI isS (.convert s t x) = .w := by simp [cls, hI, hS]
     split at h
     ·rename_i hS'
      obtain ⟨a, v, h1, h2, g1⟩ := gtW_inv hr hE h
      obtain ⟨l, e0, g2⟩ := onS_inv hr g1
      rw [fN_eq] at g2
      obtain ⟨hl1, g3⟩ := okK_inv g2 hr
      rw [fP_eq] at g3
      subst e0
      obtain ⟨rfl, h3, h4⟩ := h2
      have hrun := run_bytes_of_string (P := Tryz.prog) w s t el (su (uOf l)) (str_spec hS') hu (kind_spec hk8)
      have hsize : (su (uOf l)).size = l.length := by rw [su_size]; simp [uOf]
      have hge := grownCap_ge w (su (uOf l)).size 0 el
      have hle := grownCap_le_maxLen w (su (uOf l)).size 0 el (by rw [hsize]; exact h4)
      generalize grownCap w (su (uOf l)).size 0 el = k at hrun hge hle
      have hcs : (bytesRow (su (uOf l)) k).size = k := by
       simp only [bytesRow, Array.size_append, Array.size_map, Array.size_replicate]
       show (su (uOf l)).size + _ = _
       omega
      refine xw (by simp [opsOK, Op.operands, h1]) hclw (v := .slice (some ⟨w.heap.size, 0, none⟩) (su (uOf l)).size k) (w' := w.drew.alloc (.cells (bytesRow (su (uOf l)) k) el ((bytesRow (su (uOf l)) k).size, (bytesRow (su (uOf l)) k).size + 1))) ?_ ?_ trivial
      ·simp [execOp, ev_of h1, hrun]
      ·have hB : Bk (w.drew.alloc (.cells (bytesRow (su (uOf l)) k) el ((bytesRow (su (uOf l)) k).size, (bytesRow (su (uOf l)) k).size + 1))) w.heap.size el (bytesRow (su (uOf l)) k) := ⟨_, heap_alloc_new w.drew _, .inl (Nat.le_refl _)⟩
       obtain ⟨σ', q1, q2, q3⟩ := new_step hr hM k 1 g3 (by rw [hcs, Nat.mul_one]; exact Nat.le_refl _) hB (fun o u hu => by
        have hlt := (List.getElem?_eq_some_iff.1 hu).1
        simp only [bytesRow]
        rw [Array.getElem?_append_left (by simp [su]; simpa using hlt)]
        simpa [su] using hu) ((Fr.drew _ w).t (Fr.alloc _ _ _)) (byte_rel ρ h3)
       refine ⟨_, σ', _, _, q1, Up.snoc _ _, ⟨⟨w.heap.size, k, 1⟩, q3, rfl, by rw [hsize] at hge; simpa using hge, hle, by rw [hsize]; simp⟩, q2, rfl⟩
     ·split at h
      ·rename_i hbq
       have hst := Nat.eq_of_beq_eq_true hbq
       subst hst
       obtain ⟨a, v, h1, h2, g1⟩ := gtW_inv hr hE h
       have go : ∀ (A : Addr) (n k : Nat), v = .slice (some A) n k → w0.may A.block → c a σ = res → xs Tryz.prog isI isS [] Eng.noH full (Good w0 ρ c res env (some d)) [⟨some d, .convert s s x, ty, pos, af, none⟩] env w := fun A n k hv hA hc => by
        obtain ⟨w', hrun, hFk, hbk, hmk⟩ := mark_run Tryz.prog A w
        refine xw (by simp [opsOK, Op.operands, h1]) hclw (v := v) (w' := w') ?_ ⟨_, σ, ρ, _, hc, Up.refl ρ, h2, hM.as hFk hA hbk hmk, rfl⟩ trivial
        subst hv
        simp [execOp, ev_of h1, convert, run_underlying hu, run_underlying (kind_spec hk8), hrun]
       rcases onL_inv hr g1 with ⟨e0, g3⟩ | ⟨id, z', j, n, e0, g3⟩ | ⟨id, z', j, n, k', e0, g3⟩ | ⟨_, _, _, _, e0, g3⟩ | ⟨l, e0, g3⟩ | ⟨id, o, e0, g3⟩ <;> subst e0
       ·exact absurd g3.symm hr
       ·have h2' := h2
        obtain ⟨p, hp, _, _, _, e1⟩ := h2'
        exact y31
       ·have h2' := h2
        obtain ⟨p, hp, _, _, e1⟩ := h2'
        exact y31
       ·exact absurd g3.symm hr
       ·exact absurd g3.symm hr
       ·exact absurd g3.symm hr
      ·exact absurd h.symm hr
    ·exact absurd h.symm hr
   ·split at h
    ·rename_i k0 hu hk0
     obtain ⟨a, v, h1, h2, g1⟩ := gtW_inv hr hE (show (gtW m x).f e _ = res from h)
     obtain ⟨k1, n, e0, g2⟩ := onN_inv hr g1
     obtain ⟨hn, g3⟩ := okK_inv g2 hr
     have hn := Nat.le_of_ble_eq_true hn
     subst e0
     obtain ⟨rfl, _⟩ := h2
     refine xw (v := .float .f64 (fw n)) (w' := w) (by simp [opsOK, Op.operands, h1]) (by simp [cls, hI, hS]) ?_ ⟨_, σ, ρ, _, g3, Up.refl ρ, ⟨rfl, hn⟩, hM, rfl⟩ trivial
     have h1' : ev env x = .int k1 (n : Int) := ev_of h1
     simp [execOp, h1', run_convert_int_float (P := Tryz.prog) w s t k1 .f64 (n : Int) (by rw [kind_spec hk0]; rfl) hu, floatOfInt, fw]
    ·exact absurd h.symm hr
def CallS (w0 : Fm) (ih : Cl) : Prop := ∀ f al σ v e' σ' (ρ : Pl) vs w, ih f al σ = .mk (.val v) e' σ' → ARs ρ al vs → MR w0 ρ σ w → Does Tryz.prog f vs.toArray w (fun val w' => ∃ ρ', Up ρ ρ' ∧ AR ρ' v val ∧ MR w0 ρ' σ' w')
omit hr hE hM in
theorem evs_toArray {al : List AV} {vs : List Value} {cl : List SV} {cs : List Value} (ha : ARs ρ al vs) (hc : SRs ρ cl cs) : ARs ρ (al ++ cl.map AV.v) (vs ++ cs) := by
 induction ha with
 | nil =>
  show ARs ρ (cl.map AV.v) cs
  induction hc with
  | nil => exact .nil
  | cons h1 _ ih => exact .cons h1.2 ih
 | cons h1 _ ih => exact .cons h1 ih
theorem s_call (hih : CallS w0 ih) {k : Callee} {a : List Operand} {ts : List TypeId} (h : (caW m k a ts).f ih e σ c = res) (hb : ∀ b, k ≠ .builtin b) : xs Tryz.prog isI isS [] Eng.noH full (Good w0 ρ c res env dst) [⟨dst, .call { callee := k, args := a.toArray, argTypes := ts.toArray }, ty, pos, af, none⟩] env w := by
 unfold caW at h
 split at h
 ·rename_i f
  split at h
  ·rename_i hf
   obtain ⟨al, vs, h1, h2, g1⟩ := gtsW_inv hr hE (show (gtsW m a).f e _ = res from h)
   obtain ⟨v, e', σ', g2, g3⟩ := rvK_inv hr g1
   refine xcall h1 hf (hih f al σ v e' σ' ρ vs w g2 h2 hM) (fun val w' hS => ?_)
   obtain ⟨ρ', r1, r2, r3⟩ := hS
   exact ⟨v, σ', ρ', val, g3, r1, r2, r3, rfl⟩
  ·exact absurd h.symm hr
 ·rename_i t
  obtain ⟨q, h1, g1⟩ := gtT_inv hr (show (gtT m t).f e _ = res from h)
  obtain ⟨fv, h2, h3⟩ := hE t q h1
  obtain ⟨al, vs, h4, h5, g2⟩ := gtsW_inv hr hE g1
  obtain ⟨g, cl, e0, g3⟩ := onF_inv hr g2
  obtain ⟨hf, g4⟩ := okK_inv g3 hr
  rw [fP_eq] at g4
  obtain ⟨v, e', σ', g5, g6⟩ := rvK_inv hr g4
  subst e0
  obtain ⟨cs, h6, rfl⟩ := h3
  have hd := hih g _ σ v e' σ' ρ (vs ++ cs) w g5 (evs_toArray h5 h6) hM
  refine xcallv (cap := cs.toArray) h2 h4 hf (by rw [List.append_toArray]; exact hd) (fun val w' hS => ?_)
  obtain ⟨ρ', r1, r2, r3⟩ := hS
  exact ⟨v, σ', ρ', val, g6, r1, r2, r3, rfl⟩
 ·rename_i b
  exact absurd rfl (hb b)
 ·exact absurd h.symm hr
end
end Rn
end Eng
end Go.Proofs.YtbpmlbjapapoaaaGreatDoor
namespace Go.Proofs.YtbpmlbjapapoaaaGreatDoor
open Go.RowKit
namespace Eng
namespace Rn
theorem mpT_spec {t : TypeId} (h : mpT t = true) : ∃ kt et, Tryz.prog.underlying t = some (.map kt et) ∧ Tryz.prog.underlying kt = some (.int .i64) ∧ ∀ w : World, (zeroValue et).run Tryz.prog w = .ok (.int .i64 0) w := by
 unfold mpT at h
 split at h
 ·rename_i kt et hu
  split at h
  ·rename_i hk
   refine ⟨kt, et, hu, kind_spec hk, fun w => ?_⟩
   unfold zeB at h
   split at h
   ·rename_i n hz
    have h := Nat.eq_of_beq_eq_true h
    subst h
    cases hi : Tryz.prog.info? et with
    | none => rw [hi] at hz; cases hz
    | some i =>
     rw [hi] at hz
     have hz : i.zero = some (.int .i64 (Int.ofNat 0)) := hz
     simp [zeroValue, typeInfo, hi, hz]
   ·cases h
  ·cases h
 ·cases h
theorem onM_inv {x : AV} {f : Nat → Rs} {res : Rs} (hr : res ≠ .no) (h : onM x f = res) : ∃ id, x = .v (.mp id) ∧ f id = res := by
 cases x with
 | v x => cases x <;> first | exact ⟨_, rfl, h⟩ | exact absurd h.symm hr
 | _ => exact absurd h.symm hr
theorem asK_inv {α : Type} {x : Option α} {f : α → Rs} {res : Rs} (hr : res ≠ .no) (h : asK x f = res) : ∃ a, x = some a ∧ f a = res := by
 cases x with
 | none => exact absurd h.symm hr
 | some a => exact ⟨a, rfl, h⟩
theorem asc_ints (a : Nat) : ∀ l : List (Nat × Nat), asc (a : Int) (ints l) = (asL a l).map Int.ofNat
 | [] => rfl
 | (i, x) :: l => by
  rw [asL_cons]
  show (if ((i : Nat) : Int) = (a : Int) then some (x : Int) else asc (a : Int) (ints l)) = _
  rw [asc_ints a l]
  by_cases h : i = a
  ·rw [if_pos h, if_pos (by omega)]; rfl
  ·rw [if_neg h, if_neg (by omega)]
theorem MR.newmap {w0 : Fm} {ρ : Pl} {σ : Mem} {w w' : World} (h : MR w0 ρ σ w) (hE : Ext w w') (hB : MpB w' w.heap.size []) : MR w0 (ρ ++ [⟨w.heap.size, 0, 0⟩]) ⟨σ.n + 1, σ.h, (σ.n, []) :: σ.mp⟩ w' := by
 have hu := Up.snoc ρ ⟨w.heap.size, 0, 0⟩
 have hlast : (ρ ++ [(⟨w.heap.size, 0, 0⟩ : At)])[σ.n]? = some ⟨w.heap.size, 0, 0⟩ := by rw [← h.len]; simp
 have old : ∀ id o p, (cget σ id o).isSome = true → (ρ ++ [(⟨w.heap.size, 0, 0⟩ : At)])[id]? = some p → ρ[id]? = some p := fun id o p hs hp => by
  obtain ⟨x, hx⟩ := Option.isSome_iff_exists.1 hs
  obtain ⟨q, _, _, _, h1, _⟩ := h.at_ hx
  have := hu _ _ h1
  rw [hp] at this
  rw [h1, Option.some.inj this]
 have hm := h.mps.to (w0' := w0) hu (fun _ _ hb => hb.ext hE) fun _ _ _ hb => hb
 refine ⟨by simp [h.len], fun id ob h1 h2 => ?_, h.old.te hE, fun id o p hs hp => h.far id o p hs (old id o p hs hp), h.pre, fun id id' o o' p p' hne a1 a2 a3 a4 => h.apart id id' o o' p p' hne a1 a2 (old id o p a1 a3) (old id' o' p' a2 a4), fun id l h1 => ?_, fun id id' l l' p p' hne a1 a2 a3 a4 => ?_⟩
 ·obtain ⟨p, cs, h3, h4, h5, h6⟩ := h.blk id ob h1 h2
  refine ⟨p, cs, hu _ _ h3, h4.ext hE, h5, fun o x hx => ?_⟩
  obtain ⟨v, h7, h8⟩ := h6 o x hx
  exact ⟨v, h7, h8.up hu⟩
 ·rw [asL_cons] at h1
  split at h1
  ·rename_i hid
   subst hid
   obtain rfl := Option.some.inj h1
   exact ⟨_, hlast, hB, .inl h.old.size⟩
  ·exact hm.1 id l h1
 ·have far : ∀ id l p, asL id σ.mp = some l → (ρ ++ [(⟨w.heap.size, 0, 0⟩ : At)])[id]? = some p → p.b < w.heap.size := fun id l p b1 b2 => by
   obtain ⟨q, c1, c2, _⟩ := h.mps.1 id l b1
   have := hu _ _ c1
   rw [b2] at this
   rw [Option.some.inj this]
   exact c2.lt
  rw [asL_cons] at a1 a2
  split at a1
  ·rename_i hid
   subst hid
   rw [hlast] at a3
   obtain rfl := Option.some.inj a3
   rw [if_neg hne] at a2
   have := far _ _ _ a2 a4
   show w.heap.size ≠ p'.b
   omega
  ·split at a2
   ·rename_i hid
    subst hid
    rw [hlast] at a4
    obtain rfl := Option.some.inj a4
    have := far _ _ _ a1 a3
    show p.b ≠ w.heap.size
    omega
   ·exact hm.2 id id' l l' p p' hne a1 a2 a3 a4
theorem MR.updmap {w0 : Fm} {ρ : Pl} {σ : Mem} {w w' : World} {id : Nat} {l l' : List (Nat × Nat)} {p : At} (h : MR w0 ρ σ w) (hl : asL id σ.mp = some l) (hp : ρ[id]? = some p) (hF : Fr (· = p.b) w w') (hB : MpB w' p.b (ints l')) : MR w0 ρ ⟨σ.n, σ.h, (id, l') :: σ.mp⟩ w' := by
 obtain ⟨q, h1, h2, h3⟩ := h.mps.1 id l hl
 rw [hp] at h1
 obtain rfl := Option.some.inj h1
 refine ⟨h.len, fun i ob g1 g2 => ?_, h.old.trans hF fun j hj e => ?_, h.far, h.pre, h.apart, fun i k g1 => ?_, fun i i' k k' q q' hne a1 a2 a3 a4 => ?_⟩
 ·obtain ⟨q, cs, g3, g4, g5⟩ := h.blk i ob g1 g2
  exact ⟨q, cs, g3, g4.fr hF fun e => g4.no_map (by rw [show q.b = p.b from e]; exact h2), g5⟩
 ·have e : j = p.b := e
  subst e
  exact h3.resolve_left (by omega)
 ·rw [asL_cons] at g1
  split at g1
  ·rename_i hid
   subst hid
   obtain rfl := Option.some.inj g1
   exact ⟨p, hp, hB, h3⟩
  ·rename_i hid
   obtain ⟨q, g2, g3, g4⟩ := h.mps.1 i k g1
   exact ⟨q, g2, g3.fr hF fun e => h.mps.2 id i l k p q hid hl g1 hp g2 (show q.b = p.b from e).symm, g4⟩
 ·have get : ∀ i k, asL i ((id, l') :: σ.mp) = some k → ∃ k', asL i σ.mp = some k' := fun i k b => by
   rw [asL_cons] at b
   split at b
   ·rename_i hid
    subst hid
    exact ⟨l, hl⟩
   ·exact ⟨k, b⟩
  obtain ⟨b, hb⟩ := get i k a1
  obtain ⟨b', hb'⟩ := get i' k' a2
  exact h.mps.2 i i' b b' q q' hne hb hb' a3 a4
section
variable {m : Nat} {ih : Cl} {e : En} {σ : Mem} {c : Kt} {res : Rs} {ρ : Pl} {env : Env} {w0 : Fm} {w : World} {full : Array Oper} {d : Tmp} {ty : TypeId} {pos : String} {af : Array Edge} (hr : res ≠ .no)
include hr
theorem s_mkm (hM : MR w0 ρ σ w) {t : TypeId} (h : (mkM t).f ih e σ c = res) : xs Tryz.prog isI isS [] Eng.noH full (Good w0 ρ c res env (some d)) [⟨some d, .makeMap t none, ty, pos, af, none⟩] env w := by
 unfold mkM at h
 split at h
 ·have h : fN (Nat.add σ.n 1) (fun n => c (.v (.mp σ.n)) ⟨n, σ.h, (σ.n, []) :: σ.mp⟩) = res := h
  rw [fN_eq] at h
  exact xmkm fun w' hB hE hs => ⟨_, _, _, _, h, Up.snoc ρ ⟨w.heap.size, 0, 0⟩, ⟨⟨w.heap.size, 0, 0⟩, by rw [← hM.len]; simp, rfl⟩, hM.newmap hE hB, rfl⟩
 ·exact absurd h.symm hr
variable (hE : ER m ρ e env) (hM : MR w0 ρ σ w)
include hE hM
theorem s_lk {t : TypeId} {x y : Operand} (h : (lkW m t x y).f ih e σ c = res) : xs Tryz.prog isI isS [] Eng.noH full (Good w0 ρ c res env (some d)) [⟨some d, .lookup t x y true, ty, pos, af, none⟩] env w := by
 unfold lkW at h
 split at h
 ·rename_i ht
  obtain ⟨kt, et, hu, hk, hz⟩ := mpT_spec ht
  obtain ⟨a, va, h1, h2, q0⟩ := gtW_inv hr hE h
  clear h
  obtain ⟨b, vb, h3, h4, q1⟩ := gtW_inv hr hE q0
  clear q0
  obtain ⟨id, e1, q2⟩ := onM_inv hr q1
  clear q1
  obtain ⟨k, n, e2, q3⟩ := onN_inv hr q2
  clear q2
  obtain ⟨e3, q4⟩ := kkK_inv hr q3
  clear q3
  obtain ⟨l, hl, h⟩ := asK_inv hr q4
  clear q4
  subst e1; subst e2; subst e3
  obtain ⟨p, hp, rfl⟩ := h2
  obtain ⟨rfl, _⟩ := h4
  obtain ⟨q, hq, hB, _⟩ := hM.mps.1 id l hl
  rw [hp] at hq
  obtain rfl := Option.some.inj hq
  refine xlk hu hk hz hB h1 h3 ?_
  have ha := asc_ints n l
  show Good w0 ρ c res env (some d) ((d, .tuple #[.int .i64 ((asc (n : Int) (ints l)).getD 0), .bool (asc (n : Int) (ints l)).isSome]) :: env) w
  rw [ha]
  unfold lkK at h
  split at h
  ·rename_i v hv
   obtain ⟨hle, h⟩ := okK_inv h hr
   rw [hv]
   exact ⟨_, σ, ρ, _, h, Up.refl ρ, ⟨_, .cons (x := .v (.n .i64 v)) ⟨rfl, Nat.le_of_ble_eq_true hle⟩ (.cons (x := .v (.b true)) rfl .nil), rfl⟩, hM, rfl⟩
  ·rename_i hv
   rw [hv]
   exact ⟨_, σ, ρ, _, h, Up.refl ρ, ⟨_, .cons (x := .v (.n .i64 0)) ⟨rfl, Nat.zero_le _⟩ (.cons (x := .v (.b false)) rfl .nil), rfl⟩, hM, rfl⟩
 ·exact absurd h.symm hr
theorem s_mu {t : TypeId} {x y z : Operand} (h : (muW m t x y z).f ih e σ c = res) : xs Tryz.prog isI isS [] Eng.noH full (Good w0 ρ c res env none) [⟨none, .mapUpdate t x y z, ty, pos, af, none⟩] env w := by
 unfold muW at h
 split at h
 ·rename_i ht
  obtain ⟨kt, et, hu, hk, hz⟩ := mpT_spec ht
  obtain ⟨a, va, h1, h2, q0⟩ := gtW_inv hr hE h
  clear h
  obtain ⟨b, vb, h3, h4, q1⟩ := gtW_inv hr hE q0
  clear q0
  obtain ⟨g, vg, h5, h6, q2⟩ := gtW_inv hr hE q1
  clear q1
  obtain ⟨id, e1, q3⟩ := onM_inv hr q2
  clear q2
  obtain ⟨k, n, e2, q4⟩ := onN_inv hr q3
  clear q3
  obtain ⟨e3, q5⟩ := kkK_inv hr q4
  clear q4
  obtain ⟨k', n', e4, q6⟩ := onN_inv hr q5
  clear q5
  obtain ⟨e5, q7⟩ := kkK_inv hr q6
  clear q6
  obtain ⟨l, hl, h⟩ := asK_inv hr q7
  clear q7
  subst e1; subst e2; subst e3; subst e4; subst e5
  obtain ⟨p, hp, rfl⟩ := h2
  obtain ⟨rfl, _⟩ := h4
  obtain ⟨rfl, _⟩ := h6
  obtain ⟨q, hq, hB, _⟩ := hM.mps.1 id l hl
  rw [hp] at hq
  obtain rfl := Option.some.inj hq
  unfold muK at h
  split at h
  ·exact absurd h.symm hr
  ·rename_i hn
   rw [fP_eq] at h
   refine xmup hu hk hB (by rw [show asc (Int.ofNat n) (ints l) = _ from asc_ints n l, hn]; rfl) h1 h3 h5 fun w' hB' hF => ?_
   refine ⟨_, _, ρ, undef, h, Up.refl ρ, rfl, hM.updmap hl hp hF ?_, rfl⟩
   unfold ints at hB' ⊢
   rw [List.map_append]
   exact hB'
 ·exact absurd h.symm hr
end
end Rn
end Eng
end Go.Proofs.YtbpmlbjapapoaaaGreatDoor
namespace Go.Proofs.YtbpmlbjapapoaaaGreatDoor
open Go.RowKit
namespace Eng
namespace Rn
theorem ER.put {m : Nat} {ρ : Pl} {e e' : En} {env : Env} {v : AV} {val : Value} {d : Option Nat} (h : ER m ρ e env) (hv : AR ρ v val) (he : ∀ t a, elk m e' t = some a → (d = some t ∧ a = v) ∨ (d ≠ some t ∧ elk m e t = some a)) : ER m ρ e' (Eng.put env d val) := fun t a ha => by
 rcases he t a ha with ⟨rfl, rfl⟩ | ⟨hd, ha⟩
 ·exact ⟨val, by simp [Eng.put, look_cons], hv⟩
 ·obtain ⟨u1, h1, h2⟩ := h t a ha
  cases d with
  | none => exact ⟨u1, h1, h2⟩
  | some d =>
   refine ⟨u1, ?_, h2⟩
   show look ((d, val) :: env) t = some u1
   rw [look_cons, if_neg (fun e => hd (by rw [e]))]
   exact h1
section
variable {m : Nat} {ih : Cl} {e : En} {σ : Mem} {res : Rs} {ρ : Pl} {env : Env} {w0 : Fm} {w : World} (hr : res ≠ .no)
include hr
omit hr in
theorem puW_inv {d : Option Nat} {v : AV} {c : En → Rs} (h : (puW m d).f e v c = res) : ∃ e', c e' = res ∧ e'.hs = e.hs ∧ e'.ms = e.ms ∧ ∀ t a, elk m e' t = some a → (d = some t ∧ a = v) ∨ (d ≠ some t ∧ elk m e t = some a) := by
 unfold puW at h
 cases d with
 | none => exact ⟨e, h, rfl, rfl, fun t a ha => .inr ⟨fun hh => (by cases hh), ha⟩⟩
 | some d =>
  cases hk : kept m d with
  | true =>
   have h' : repK d v e.vs (fun vs => c ⟨vs, e.ts, e.hs, e.ms⟩) = res := by
    have h'' : (match kept m d with
     | true => (⟨fun e v c => repK d v e.vs fun vs => c ⟨vs, e.ts, e.hs, e.ms⟩⟩ : Wd)
     | false => ⟨fun e v c => c ⟨e.vs, (d, v) :: e.ts, e.hs, e.ms⟩⟩).f e v c = res := h
    rw [hk] at h''
    exact h''
   obtain ⟨l', h1, h2⟩ := repK_inv (t := d) (v := v) (l := e.vs) (c := fun vs => c ⟨vs, e.ts, e.hs, e.ms⟩)
   rw [h1] at h'
   refine ⟨_, h', rfl, rfl, fun t a ha => ?_⟩
   unfold elk at ha ⊢
   by_cases htd : t = d
   ·subst htd
    rw [hk] at ha
    have ha : alook t l' = some a := ha
    rw [h2, if_pos rfl] at ha
    exact .inl ⟨rfl, (Option.some.inj ha).symm⟩
   ·refine .inr ⟨fun hh => htd (Option.some.inj hh).symm, ?_⟩
    cases hkt : kept m t with
    | true =>
     rw [hkt] at ha
     have ha : alook t l' = some a := ha
     rw [h2, if_neg htd] at ha
     exact ha
    | false =>
     rw [hkt] at ha
     exact ha
  | false =>
   have h' : c ⟨e.vs, (d, v) :: e.ts, e.hs, e.ms⟩ = res := by
    have h'' : (match kept m d with
     | true => (⟨fun e v c => repK d v e.vs fun vs => c ⟨vs, e.ts, e.hs, e.ms⟩⟩ : Wd)
     | false => ⟨fun e v c => c ⟨e.vs, (d, v) :: e.ts, e.hs, e.ms⟩⟩).f e v c = res := h
    rw [hk] at h''
    exact h''
   refine ⟨_, h', rfl, rfl, fun t a ha => ?_⟩
   unfold elk at ha ⊢
   by_cases htd : t = d
   ·subst htd
    rw [hk] at ha
    have ha : alook t ((t, v) :: e.ts) = some a := ha
    simp only [alook, if_pos] at ha
    exact .inl ⟨rfl, (Option.some.inj ha).symm⟩
   ·refine .inr ⟨fun hh => htd (Option.some.inj hh).symm, ?_⟩
    cases hkt : kept m t with
    | true =>
     rw [hkt] at ha
     exact ha
    | false =>
     rw [hkt] at ha
     have ha : alook t ((d, v) :: e.ts) = some a := ha
     simp only [alook] at ha
     rw [if_neg (fun hh => htd hh.symm)] at ha
     exact ha
theorem bqK_inv {x : AV} {want : Bool} {a b : Rs} (h : bqK x want a b = res) : (∃ q, x = .v (.b q) ∧ ((q == want) = true ∧ a = res ∨ (q == want) = false ∧ b = res)) ∨ (x = .v .u ∧ b = res) := by
 cases x with
 | v x =>
  cases x with
  | b q =>
   have h' : ifK (eB q want) a b = res := h
   rw [ifK_eq, eB_eq] at h'
   refine .inl ⟨q, rfl, ?_⟩
   cases hq : (q == want) with
   | true => rw [hq] at h'; exact .inl ⟨rfl, h'⟩
   | false => rw [hq] at h'; exact .inr ⟨rfl, h'⟩
  | u => exact .inr ⟨rfl, h⟩
  | _ => exact absurd h.symm hr
 | _ => exact absurd h.symm hr
variable (hih : CallS w0 ih) (hE : ER m ρ e env) (hM : MR w0 ρ σ w)
include hih hE hM
omit hih in
theorem s_bf {full : Array Oper} {c : Kt} {d : Option Tmp} {ty : TypeId} {pos : String} {af : Array Edge} {b : Builtin} {a : List Operand} {ts : List TypeId} (hd : dsO d (.call { callee := .builtin b, args := a.toArray, argTypes := ts.toArray }) = true) (h : (bfW m b a ts).f ih e σ c = res) :
  xs Tryz.prog isI isS [] Eng.noH full (Good w0 ρ c res env d) [⟨d, .call { callee := .builtin b, args := a.toArray, argTypes := ts.toArray }, ty, pos, af, none⟩] env w := by
 unfold bfW at h
 split at h
 ·cases d with
  | none => cases hd
  | some d => exact s_ln hr hE hM h
 ·exact s_ap hr hE hM h
 ·exact s_cp hr hE hM h
 ·cases d with
  | none => cases hd
  | some d =>
   obtain ⟨p, q, vp, vq, h1, h2, h3, h4, g1⟩ := two hr hE h
   obtain ⟨na, e0, g2⟩ := onE_inv hr g1
   obtain ⟨nb, e1, g3⟩ := onE_inv hr g2
   subst e0; subst e1
   obtain ⟨rfl, h5⟩ := h3
   obtain ⟨rfl, h6⟩ := h4
   refine xw (v := .complex .f64 (fw na) (fw nb)) (w' := w) (by simp [opsOK, Op.operands, Call.operands, h1, h2]) rfl ?_ ⟨_, σ, ρ, _, g3, Up.refl ρ, ⟨rfl, h5, h6⟩, hM, rfl⟩ trivial
   simp [execOp, resolve, invoke, builtin, ev_of h1, ev_of h2, run_complex]
 ·cases d with
  | none => cases hd
  | some d =>
   obtain ⟨p, vp, h1, h3, g1⟩ := gtW_inv hr hE (show (gtW m _).f e _ = res from h)
   obtain ⟨na, nb, e0, g2⟩ := onX_inv hr g1
   subst e0
   obtain ⟨rfl, h5, h6⟩ := h3
   refine xw (v := .float .f64 (fw na)) (w' := w) (by simp [opsOK, Op.operands, Call.operands, h1]) rfl ?_ ⟨_, σ, ρ, _, g2, Up.refl ρ, ⟨rfl, h5⟩, hM, rfl⟩ trivial
   simp [execOp, resolve, invoke, builtin, ev_of h1, run_real]
 ·cases d with
  | none => cases hd
  | some d =>
   obtain ⟨p, vp, h1, h3, g1⟩ := gtW_inv hr hE (show (gtW m _).f e _ = res from h)
   obtain ⟨na, nb, e0, g2⟩ := onX_inv hr g1
   subst e0
   obtain ⟨rfl, h5, h6⟩ := h3
   refine xw (v := .float .f64 (fw nb)) (w' := w) (by simp [opsOK, Op.operands, Call.operands, h1]) rfl ?_ ⟨_, σ, ρ, _, g2, Up.refl ρ, ⟨rfl, h6⟩, hM, rfl⟩ trivial
   simp [execOp, resolve, invoke, builtin, ev_of h1, run_imag]
 ·cases d with
  | none => cases hd
  | some d => exact s_mn (up := false) hr hE hM h
 ·cases d with
  | none => cases hd
  | some d => exact s_mn (up := true) hr hE hM h
 ·exact absurd h.symm hr
theorem s_op {full : Array Oper} {c : Kt} {d : Option Tmp} {op : Op} {ty : TypeId} {pos : String} {af : Array Edge} (hd : dsO d op = true) (h : (opW m op).f ih e σ c = res) : xs Tryz.prog isI isS [] Eng.noH full (Good w0 ρ c res env d) [⟨d, op, ty, pos, af, none⟩] env w := by
 cases d with
 | none =>
  cases op with
  | store t x y => exact s_st hr hE hM h
  | mapUpdate t x y z => exact s_mu hr hE hM h
  | call cl =>
   obtain ⟨k, a, ts⟩ := cl
   by_cases hb : ∃ b, k = .builtin b
   ·obtain ⟨b, rfl⟩ := hb
    exact s_bf (a := a.toList) (ts := ts.toList) hr hE hM hd h
   ·exact s_call (a := a.toList) (ts := ts.toList) hr hE hM hih h (fun b hh => hb ⟨b, hh⟩)
  | _ => cases hd
 | some d =>
  cases op with
  | move x => exact s_move hr hE hM h
  | assign x => exact s_assign hr hE hM h
  | pick x a b => exact s_pick hr hE hM h
  | alloc t => exact s_al hr hM h
  | box t x => exact s_bx hr hE hM h
  | build t ps => exact s_bu (ps := ps.toList) hr hE hM h
  | buildSlice t n ps => exact s_rw (ps := ps.toList) hr hE hM h
  | load t x => exact s_ld hr hE hM h
  | nilCheck x => exact s_nilCheck hr hE hM h
  | binOp op t x y yt => exact s_bin hr hE hM h
  | unOp op t x =>
   cases op with
   | not => exact s_not hr hE hM h
   | neg => exact s_neg hr hE hM h
   | _ => exact absurd h.symm hr
  | convert s t x => exact s_cv hr hE hM h
  | makeFunc fn a b =>
   have h' : (mfW m fn a.toList b.toList).f ih e σ c = res := h
   exact s_mf (a := a.toList) (b := b.toList) hr hE hM h'
  | makeSlice t n q => exact s_mk hr hE hM h
  | slice t x lo hi mx => exact s_sl hr hE hM h
  | fieldAddr s x f => exact s_fd hr hE hM h
  | field t x k => exact s_fl hr hE hM h
  | indexAddr t x i => exact s_ix hr hE hM h
  | index t x i => exact s_el hr hE hM h
  | extract x k => exact s_ex hr hE hM h
  | call cl =>
   obtain ⟨k, a, ts⟩ := cl
   by_cases hb : ∃ b, k = .builtin b
   ·obtain ⟨b, rfl⟩ := hb
    exact s_bf (a := a.toList) (ts := ts.toList) hr hE hM rfl h
   ·exact s_call (a := a.toList) (ts := ts.toList) hr hE hM hih h (fun b hh => hb ⟨b, hh⟩)
  | store t x y => cases hd
  | mapUpdate t x y z => cases hd
  | makeMap t q =>
   cases q with
   | none => exact s_mkm hr hM h
   | some q => exact absurd h.symm hr
  | lookup t x y q =>
   cases q with
   | true => exact s_lk hr hE hM h
   | false => exact absurd h.symm hr
  | _ => exact absurd h.symm hr
omit hr hih hE hM in
theorem dstOf_eq : ∀ (l : List Oper) (j : Nat), dstOf l j = dstAt l j
 | [], _ => rfl
 | _ :: _, 0 => rfl
 | _ :: r, j + 1 => dstOf_eq r j
def Then (w0 : Fm) (m : Nat) (ρ : Pl) (hs : List Nt) (ms : List Mem) (c : Kr) (res : Rs) : Env → World → Prop := fun env' w' => ∃ e' σ' ρ', c e' σ' = res ∧ e'.hs = hs ∧ e'.ms = ms ∧ Up ρ ρ' ∧ ER m ρ' e' env' ∧ MR w0 ρ' σ' w'
omit hr hih hE hM in
theorem xs_one {full : Array Oper} {o : Oper} {rest : List Oper} {K K' : Env → World → Prop} (h : xs Tryz.prog isI isS [] Eng.noH full K' [o] env w) (hk : ∀ env' w', K' env' w' → xs Tryz.prog isI isS [] Eng.noH full K rest env' w') : xs Tryz.prog isI isS [] Eng.noH full K (o :: rest) env w := by
 obtain ⟨g, hg, h1, h2⟩ := h
 exact ⟨g, hg, fun hh => ⟨(h1 hh).1, acts_mono trivial (fun v w' _ hs => hk _ _ hs) (h1 hh).2⟩, fun hh => hk _ _ (h2 hh)⟩
omit hih hM in
theorem s_guard {hs : List Nat} {H : World → Prop} {K : Env → World → Prop} {full : List Oper} {c : Kr} {wo : Wo} {d : Option Tmp} {op : Op} {ty : TypeId} {pos : String} {af : Array Edge} {gd : Option (Nat × Bool)} (h : (gdW m full ⟨d, op, ty, pos, af, gd⟩ wo).f ih e σ c = res)
  (go : wo.f ih e σ c = res → xs Tryz.prog isI isS hs H full.toArray K [⟨d, op, ty, pos, af, none⟩] env w)
  (no : ∀ e', c e' σ = res → e'.hs = e.hs → e'.ms = e.ms → ER m ρ e' (Eng.put env d undef) → K (Eng.put env d undef) w) : xs Tryz.prog isI isS hs H full.toArray K [⟨d, op, ty, pos, af, gd⟩] env w := by
 unfold gdW at h
 cases gd with
 | none => exact go h
 | some gq =>
  obtain ⟨j, want⟩ := gq
  have h' : (match dstOf full j with
   | some d' => (⟨fun ih e σ c => (gtT m d').f e fun q => bqK q want (wo.f ih e σ c) ((puW m d).f e (.v .u) fun e => c e σ)⟩ : Wo)
   | none => noO).f ih e σ c = res := h
  split at h'
  ·rename_i d' hdj
   obtain ⟨q, h1, g1⟩ := gtT_inv hr h'
   obtain ⟨val, h2, h3⟩ := hE d' q h1
   have hgv : ∀ r, (match look env d' with
    | some (.bool true) => some want
    | some (.bool false) => some (!want)
    | some _ => some false
    | none => none) = some r → gv full.toArray env (some (j, want)) = some r := fun r hh => by
    refine gvl_eq ?_
    unfold gvl
    rw [← dstOf_eq, hdj]
    exact hh
   have nox : (puW m d).f e (.v .u) (fun e => c e σ) = res → gv full.toArray env (some (j, want)) = some false → xs Tryz.prog isI isS hs H full.toArray K [⟨d, op, ty, pos, af, some (j, want)⟩] env w := fun hp hg => by
    obtain ⟨e', k1, k3, k4, k2⟩ := puW_inv hp
    exact xgn hg (no e' k1 k3 k4 (hE.put (v := .v .u) (val := undef) rfl k2))
   rcases bqK_inv hr g1 with ⟨q', e0, ⟨hq, g2⟩ | ⟨hq, g2⟩⟩ | ⟨e0, g2⟩
   ·subst e0
    have h3 : val = .bool q' := h3
    subst h3
    refine xgy (hgv true ?_) (go g2)
    rw [h2]
    cases q' <;> cases want <;> first | rfl | cases hq
   ·subst e0
    have h3 : val = .bool q' := h3
    subst h3
    refine nox g2 (hgv false ?_)
    rw [h2]
    cases q' <;> cases want <;> first | rfl | cases hq
   ·subst e0
    have h3 : val = undef := h3
    subst h3
    refine nox g2 (hgv false ?_)
    rw [h2]
    rfl
  ·exact absurd h'.symm hr
theorem s_or {full : List Oper} {c : Kr} {o : Oper} (h : (orW m full o).f ih e σ c = res) : xs Tryz.prog isI isS [] Eng.noH full.toArray (Then w0 m ρ e.hs e.ms c res) [o] env w := by
 obtain ⟨d, op, ty, pos, af, gd⟩ := o
 unfold orW at h
 split at h
 ·exact absurd h.symm hr
 ·rename_i hd
  refine s_guard hr hE h (fun h => ?_) (fun e' k1 k3 k4 k2 => ⟨e', σ, ρ, k1, k3, k4, Up.refl ρ, k2, hM⟩)
  refine xs_one (s_op hr hih hE hM hd h) (fun env' w' hg => ?_)
  obtain ⟨v, σ', ρ', val, g1, g2, g3, g4, rfl⟩ := hg
  obtain ⟨e', k1, k3, k4, k2⟩ := puW_inv g1
  exact ⟨e', σ', ρ', k1, k3, k4, g2, (hE.up g2).put g3 k2, g4⟩
end
theorem xs_mono {full : Array Oper} {K K' : Env → World → Prop} (hk : ∀ env w, K env w → K' env w) : ∀ {l : List Oper} {env : Env} {w : World}, xs Tryz.prog isI isS [] Eng.noH full K l env w → xs Tryz.prog isI isS [] Eng.noH full K' l env w
 | [], _, _, h => hk _ _ h
 | _ :: _, _, _, ⟨g, hg, h1, h2⟩ => ⟨g, hg, fun hh => ⟨(h1 hh).1, acts_mono trivial (fun _ _ _ hs => xs_mono hk hs) (h1 hh).2⟩, fun hh => xs_mono hk (h2 hh)⟩
theorem s_reg {w0 : Fm} {m : Nat} {ih : Cl} {res : Rs} (hr : res ≠ .no) (hih : CallS w0 ih) {full : List Oper} {c : Kr} : ∀ {l : List Oper} {e : En} {σ : Mem} {ρ : Pl} {env : Env} {w : World}, ER m ρ e env → MR w0 ρ σ w → (regW m full l).f ih e σ c = res → xs Tryz.prog isI isS [] Eng.noH full.toArray (Then w0 m ρ e.hs e.ms c res) l env w
 | [], e, σ, ρ, env, w, hE, hM, h => ⟨e, σ, ρ, h, rfl, rfl, Up.refl ρ, hE, hM⟩
 | o :: l, e, σ, ρ, env, w, hE, hM, h => by
  have h' : (orW m full o).f ih e σ (fun e σ => (regW m full l).f ih e σ c) = res := h
  refine xs_one (s_or hr hih hE hM h') (fun env' w' hg => ?_)
  obtain ⟨e', σ', ρ', g1, g5, g6, g2, g3, g4⟩ := hg
  have := s_reg hr hih (l := l) g3 g4 g1
  refine xs_mono (fun env'' w'' hh => ?_) this
  obtain ⟨e2, σ2, ρ2, k1, k5, k6, k2, k3, k4⟩ := hh
  exact ⟨e2, σ2, ρ2, k1, k5.trans g5, k6.trans g6, g2.trans k2, k3, k4⟩
end Rn
end Eng
end Go.Proofs.YtbpmlbjapapoaaaGreatDoor
namespace Go.Proofs.YtbpmlbjapapoaaaGreatDoor
open Go.RowKit
namespace Eng
namespace Rn
theorem kn_inj {k k' : IntKind} (h : Nat.beq (kn k) (kn k') = true) : k = k' := by
 cases k <;> cases k' <;> first | rfl | cases h
theorem eU_inj : ∀ {a b : List Nat}, eU a b = true → a = b
 | [], [], _ => rfl
 | [], _ :: _, h => by cases h
 | _ :: _, [], h => by cases h
 | x :: a, y :: b, h => by
  have h' : Bool.rec (motive := fun _ => Bool) false (eU a b) (Nat.beq x y) = true := h
  rcases beq_cases x y with ⟨h1, h2⟩ | ⟨h1, h2⟩
  ·rw [h2] at h'
   rw [h1, eU_inj (a := a) (b := b) h']
  ·rw [h2] at h'
   cases h'
theorem sE_eq {x y : SV} (h : sE x y = true) : x = y := by
 cases x with
 | n k a =>
  cases y <;> try cases h
  obtain ⟨h1, h2⟩ := an_inv h
  rw [kn_inj h1, Nat.eq_of_beq_eq_true h2]
 | m k a =>
  cases y <;> try cases h
  obtain ⟨h1, h2⟩ := an_inv h
  rw [kn_inj h1, Nat.eq_of_beq_eq_true h2]
 | b q =>
  cases y with
  | b q' =>
   have h : eB q q' = true := h
   rw [eB_eq] at h
   rw [eq_of_beq h]
  | _ => cases h
 | s l =>
  cases y with
  | s l' =>
   have h : eU l l' = true := h
   rw [eU_inj h]
  | _ => cases h
 | p0 => cases y <;> first | exact rfl | cases h
 | p i a =>
  cases y <;> try cases h
  obtain ⟨h1, h2⟩ := an_inv h
  rw [Nat.eq_of_beq_eq_true h1, Nat.eq_of_beq_eq_true h2]
 | l0 => cases y <;> first | exact rfl | cases h
 | l i a b c =>
  cases y <;> try cases h
  obtain ⟨h1, h2⟩ := an_inv h
  obtain ⟨h2, h3⟩ := an_inv h2
  obtain ⟨h3, h4⟩ := an_inv h3
  rw [Nat.eq_of_beq_eq_true h1, Nat.eq_of_beq_eq_true h2, Nat.eq_of_beq_eq_true h3, Nat.eq_of_beq_eq_true h4]
 | lx i a b c d =>
  cases y <;> try cases h
  obtain ⟨h1, h2⟩ := an_inv h
  obtain ⟨h2, h3⟩ := an_inv h2
  obtain ⟨h3, h4⟩ := an_inv h3
  obtain ⟨h4, h5⟩ := an_inv h4
  rw [Nat.eq_of_beq_eq_true h1, Nat.eq_of_beq_eq_true h2, Nat.eq_of_beq_eq_true h3, Nat.eq_of_beq_eq_true h4, Nat.eq_of_beq_eq_true h5]
 | fl a =>
  cases y <;> try cases h
  rw [Nat.eq_of_beq_eq_true h]
 | mp a =>
  cases y <;> try cases h
  rw [Nat.eq_of_beq_eq_true h]
 | cx a b =>
  cases y <;> try cases h
  obtain ⟨h1, h2⟩ := an_inv h
  rw [Nat.eq_of_beq_eq_true h1, Nat.eq_of_beq_eq_true h2]
 | le i a b c =>
  cases y <;> try cases h
  obtain ⟨h1, h2⟩ := an_inv h
  obtain ⟨h2, h3⟩ := an_inv h2
  obtain ⟨h3, h4⟩ := an_inv h3
  rw [Nat.eq_of_beq_eq_true h1, Nat.eq_of_beq_eq_true h2, Nat.eq_of_beq_eq_true h3, Nat.eq_of_beq_eq_true h4]
 | u => cases y <;> cases h
theorem lE_eq : ∀ {a b : List SV}, lE a b = true → a = b
 | [], [], _ => rfl
 | [], _ :: _, h => by cases h
 | _ :: _, [], h => by cases h
 | x :: a, y :: b, h => by
  have h' : an (sE x y) (lE a b) = true := h
  obtain ⟨h1, h2⟩ := an_inv h'
  rw [sE_eq h1, lE_eq h2]
theorem SRs.one {ρ : Pl} {l : List SV} {us vs : List Value} (h : SRs ρ l us) (h' : SRs ρ l vs) : us = vs := by
 induction h generalizing vs with
 | nil => cases h'; rfl
 | cons h1 _ ih =>
  cases h' with
  | cons h3 h4 => rw [SR.one h1.2 h3.2, ih h4]
def Hold (σ0 : Mem) (ms : List Mem) (n : Nt) : Prop := n.1 < σ0.n ∧ ∀ s ∈ σ0 :: ms, ∀ i, i < n.2.2.length → cget s n.1 (n.2.1 + i) = n.2.2[i]?
section
variable {res : Rs} (hr : res ≠ .no)
include hr
theorem ckM_inv {n : Nt} {r : Rs} : ∀ {ms : List Mem}, ckM ms n r = res → r = res ∧ ∀ s ∈ ms, ∀ i, i < n.2.2.length → cget s n.1 (n.2.1 + i) = n.2.2[i]?
 | [], h => ⟨h, fun s hs => by cases hs⟩
 | σ :: ms, h => by
  obtain ⟨ob, l, h1, h2, h3, h4⟩ := rdK_inv hr (show rdK σ n.1 n.2.1 n.2.2.length (fun l => okK (lE n.2.2 l) (ckM ms n r)) = res from h)
  obtain ⟨h5, h6⟩ := okK_inv h4 hr
  have h7 := lE_eq h5
  obtain ⟨h9, h10⟩ := ckM_inv h6
  refine ⟨h9, fun s hs => ?_⟩
  rcases List.mem_cons.1 hs with rfl | hs
  ·exact fun i hi => by rw [h3 i hi, h7]
  ·exact h10 s hs
theorem ckA_inv {σ0 : Mem} {ms : List Mem} {r : Rs} : ∀ {hs : List Nt}, ckA σ0 ms hs r = res → r = res ∧ ∀ n ∈ hs, Hold σ0 ms n
 | [], h => ⟨h, fun s hs => by cases hs⟩
 | n :: hs, h => by
  obtain ⟨h1, h2⟩ := okK_inv (show okK (Nat.ble (Nat.add n.1 1) σ0.n) (ckM (σ0 :: ms) n (ckA σ0 ms hs r)) = res from h) hr
  obtain ⟨h3, h4⟩ := ckM_inv hr h2
  obtain ⟨h5, h6⟩ := ckA_inv h3
  refine ⟨h5, fun k hk => ?_⟩
  rcases List.mem_cons.1 hk with rfl | hk
  ·exact ⟨Nat.le_of_ble_eq_true h1, fun s hs => h4 s hs⟩
  ·exact h6 k hk
end
def HH (ρ0 : Pl) (hl : List Nt) (w' : World) : Prop := ∀ n ∈ hl, ∀ p vs, ρ0[n.1]? = some p → SRs ρ0 n.2.2 vs → ∀ (j : Nat) u, vs[j]? = some u → w'.cell? ⟨p.b, n.2.1 + j, none⟩ = some u
theorem hold_at {w0 : Fm} {ρ0 ρ : Pl} {σ0 s : Mem} {ms : List Mem} {hl : List Nt} {w' : World} (hM : MR w0 ρ s w') (hu : Up ρ0 ρ) (hs : s ∈ σ0 :: ms) (hh : ∀ n ∈ hl, Hold σ0 ms n) : HH ρ0 hl w' := fun n hn p vs hp hv j u hj => by
 obtain ⟨_, h2⟩ := hh n hn
 obtain ⟨vs', h4, h5⟩ := hM.cells (hu _ _ hp) (l := n.2.2) (o := n.2.1) (fun i hi => h2 s hs i hi)
 have := SRs.one (hv.up hu) h4
 subst this
 exact (h5 j u hj).1
section
variable {w0 : Fm} {m : Nat} {ih : Cl} {e : En} {σ : Mem} {res : Rs} {ρ : Pl} {env : Env} {w : World} (hr : res ≠ .no)
include hr
theorem ldH_inv (hE : ER m ρ e env) {t : TypeId} {x : Operand} {k : AV → Nt → Rs} (h : (ldH m t x).f e σ k = res) : ∃ id o l av p, evo env x = some (.pointer (some ⟨p.b, o, none⟩)) ∧ ρ[id]? = some p ∧ (∀ i, i < l.length → cget σ id (o + i) = l[i]?) ∧ k av (id, o, l) = res ∧ ((one t = true ∧ ∃ y, l = [y] ∧ av = .v y) ∨ (get l_agg t = some l.length ∧ av = .g l)) := by
 unfold ldH at h
 split at h
 ·rename_i ht
  obtain ⟨a, v, h1, h2, g1⟩ := gtW_inv hr hE h
  obtain ⟨id, o, e0, g2⟩ := onP_inv hr g1
  obtain ⟨ob, g3, g4⟩ := obK_inv hr g2
  obtain ⟨y, g5, g6⟩ := getK_inv hr g4
  subst e0
  obtain ⟨p, h3, rfl⟩ := h2
  refine ⟨id, o, [y], .v y, p, h1, h3, fun i hi => ?_, g6, .inl ⟨ht, y, rfl, rfl⟩⟩
  have hi : i = 0 := by
   have : i < 1 := hi
   omega
  subst hi
  exact cget_iff.2 ⟨ob, g3, g5⟩
 ·split at h
  ·rename_i n hn
   rw [cN_eq] at h
   obtain ⟨a, v, h1, h2, g1⟩ := gtW_inv hr hE h
   obtain ⟨id, o, e0, g2⟩ := onP_inv hr g1
   obtain ⟨ob, l, g3, g4, g5, g6⟩ := rdK_inv hr g2
   subst e0
   obtain ⟨p, h3, rfl⟩ := h2
   exact ⟨id, o, l, .g l, p, h1, h3, fun i hi => g5 i (by omega), g6, .inr ⟨by rw [g4]; exact hn, rfl⟩⟩
  ·exact absurd h.symm hr
def ThH (w0 : Fm) (m : Nat) (ρ : Pl) (e : En) (c : Kr) (res : Rs) : Env → World → Prop := fun env' w' => ∃ e' σ' ρ', c e' σ' = res ∧ Up ρ ρ' ∧ ER m ρ' e' env' ∧ MR w0 ρ' σ' w' ∧ (∀ n ∈ e.hs, n ∈ e'.hs) ∧ ∀ s ∈ e.ms, s ∈ e'.ms
omit hr in
theorem ER.same {e' : En} (h : ER m ρ e env) (h1 : e'.vs = e.vs) (h2 : e'.ts = e.ts) : ER m ρ e' env := fun t a ha => by
 refine h t a ?_
 unfold elk at ha ⊢
 rw [h1, h2] at ha
 exact ha
variable (hih : CallS w0 ih) (hE : ER m ρ e env) (hM : MR w0 ρ σ w)
include hih hE hM
theorem s_wop {full : List Oper} {c : Kr} {d : Option Tmp} {op : Op} {ty : TypeId} {pos : String} {af : Array Edge} (hd : dsO d op = true) (h : (opW m op).f ih e σ (fun v σ => (puW m d).f e v fun e => c ⟨e.vs, e.ts, e.hs, σ :: e.ms⟩ σ) = res) :
  xs Tryz.prog isI isS [] Eng.noH full.toArray (fun env' w' => ∃ e' σ' ρ', c e' σ' = res ∧ Up ρ ρ' ∧ ER m ρ' e' env' ∧ MR w0 ρ' σ' w' ∧ (∀ n ∈ e.hs, n ∈ e'.hs) ∧ (∀ s ∈ e.ms, s ∈ e'.ms) ∧ σ' ∈ e'.ms) [⟨d, op, ty, pos, af, none⟩] env w := by
 refine xs_one (s_op hr hih hE hM hd h) (fun env' w' hg => ?_)
 obtain ⟨v, σ', ρ', val, g1, g2, g3, g4, rfl⟩ := hg
 obtain ⟨e', k1, k3, k4, k2⟩ := puW_inv g1
 refine ⟨_, σ', ρ', k1, g2, ((hE.up g2).put g3 k2).same rfl rfl, g4, fun n hn => ?_, fun s hs => ?_, List.mem_cons_self⟩
 ·show n ∈ e'.hs
  rw [k3]; exact hn
 ·show s ∈ σ' :: e'.ms
  rw [k4]; exact List.mem_cons_of_mem _ hs
theorem s_pop {full : List Oper} {c : Kr} {d : Option Tmp} {op : Op} {ty : TypeId} {pos : String} {af : Array Edge} (hd : dsO d op = true) (h : (opW m op).f ih e σ (fun v σ' => (puW m d).f e v fun e => c e σ') = res) :
  xs Tryz.prog isI isS [] Eng.noH full.toArray (ThH w0 m ρ e c res) [⟨d, op, ty, pos, af, none⟩] env w := by
 refine xs_one (s_op hr hih hE hM hd h) (fun env' w' hg => ?_)
 obtain ⟨v, σ', ρ', val, g1, g2, g3, g4, rfl⟩ := hg
 obtain ⟨e', k1, k3, k4, k2⟩ := puW_inv g1
 refine ⟨_, σ', ρ', k1, g2, (hE.up g2).put g3 k2, g4, fun n hn => ?_, fun s hs => ?_⟩
 ·rw [k3]; exact hn
 ·rw [k4]; exact hs
theorem s_orH {hs : List Nat} {full : List Oper} {c : Kr} {o : Oper} (h : (orH m hs full o).f ih e σ c = res) : xs Tryz.prog isI isS [] Eng.noH full.toArray (ThH w0 m ρ e c res) [o] env w := by
 obtain ⟨d, op, ty, pos, af, gd⟩ := o
 unfold orH at h
 split at h
 ·exact absurd h.symm hr
 ·rename_i hd
  have no : ∀ e', c e' σ = res → e'.hs = e.hs → e'.ms = e.ms → ER m ρ e' (Eng.put env d undef) → ThH w0 m ρ e c res (Eng.put env d undef) w := fun e' k1 k3 k4 k2 => ⟨e', σ, ρ, k1, Up.refl ρ, k2, hM, fun n hn => by rw [k3]; exact hn, fun s hs => by rw [k4]; exact hs⟩
  split at h
  ·rename_i t x hop
   have hop : op = .load t x := hop
   subst hop
   split at h
   ·refine s_guard hr hE h (fun h => ?_) no
    cases d with
    | none => cases hd
    | some d =>
     obtain ⟨id, o', l, av, p, h1, h2, h3, h4, h5⟩ := ldH_inv hr hE h
     obtain ⟨e', k1, k3, k4, k2⟩ := puW_inv h4
     obtain ⟨vs, g1, g2⟩ := hM.cells h2 h3
     have fin : ∀ val, AR ρ av val → ThH w0 m ρ e c res (Eng.put env (some d) val) w := fun val hv => by
      refine ⟨_, σ, ρ, k1, Up.refl ρ, (hE.put hv k2).same rfl rfl, hM, fun n hn => ?_, fun s hs => ?_⟩
      ·show n ∈ (id, o', l) :: e'.hs
       rw [k3]; exact List.mem_cons_of_mem _ hn
      ·show s ∈ e'.ms
       rw [k4]; exact hs
     rcases h5 with ⟨ht, y, rfl, rfl⟩ | ⟨ht, rfl⟩
     ·cases g1 with
      | cons q1 q2 =>
       cases q2
       exact xld h1 ht (g2 0 _ rfl).1 (fin _ q1.2)
     ·exact xldz h1 (by rw [g1.len]; exact ht) (fun j u hu => (g2 j u hu).1) (fin _ ⟨vs, g1, rfl⟩)
   ·exact s_guard hr hE h (fun h => s_pop hr hih hE hM hd h) no
  ·split at h
   ·refine s_guard hr hE h (fun h => ?_) no
    refine xs_one (s_wop hr hih hE hM hd h) (fun env' w' hg => ?_)
    obtain ⟨e', σ', ρ', g1, g2, g3, g4, g5, g6, _⟩ := hg
    exact ⟨e', σ', ρ', g1, g2, g3, g4, g5, g6⟩
   ·exact s_guard hr hE h (fun h => s_pop hr hih hE hM hd h) no
   ·exact absurd h.symm hr
end
theorem xs_some {full : Array Oper} {K : Env → World → Prop} {o : Oper} {env : Env} {w : World} (h : xs Tryz.prog isI isS [] Eng.noH full K [o] env w) : ∃ env' w', K env' w' := by
 obtain ⟨g, hg, h1, h2⟩ := h
 cases g with
 | true =>
  obtain ⟨v, w', _, h3⟩ := acts_some (H := Eng.noH) trivial (h1 rfl).2
  exact ⟨_, w', h3⟩
 | false => exact ⟨_, w, h2 rfl⟩
theorem xs_someL {full : Array Oper} {K : Env → World → Prop} : ∀ {l : List Oper} {env : Env} {w : World}, xs Tryz.prog isI isS [] Eng.noH full K l env w → ∃ env' w', K env' w'
 | [], env, w, h => ⟨env, w, h⟩
 | o :: l, env, w, h => by
  obtain ⟨env', w', h'⟩ := xs_some (o := o) (K := fun env' w' => xs Tryz.prog isI isS [] Eng.noH full K l env' w') h
  exact xs_someL h'
noncomputable def fin0 : Kr := fun e σ => .mk .nrm e σ
noncomputable def finH (m : Nat) (ih : Cl) (full l2 : List Oper) (σ0 : Mem) : Kr := fun e' σ' => ckA σ0 e'.ms e'.hs ((regW m full l2).f ih e' σ' fin0)
theorem mono_H {w0 : Fm} {m : Nat} {ih : Cl} {res : Rs} {σ0 : Mem} (hr : res ≠ .no) (hih : CallS w0 ih) {hs : List Nat} {full l2 : List Oper} : ∀ {l : List Oper} {e : En} {σ : Mem} {ρ : Pl} {env : Env} {w : World}, ER m ρ e env → MR w0 ρ σ w → (regH m hs full l).f ih e σ (finH m ih full l2 σ0) = res → ∃ ef σf, res = .mk .nrm ef σf ∧ (∀ n ∈ e.hs, n ∈ ef.hs) ∧ (∀ s ∈ e.ms, s ∈ ef.ms) ∧ ∀ n ∈ ef.hs, Hold σ0 ef.ms n
 | [], e, σ, ρ, env, w, hE, hM, h => by
  obtain ⟨h1, h2⟩ := ckA_inv hr (show ckA σ0 e.ms e.hs ((regW m full l2).f ih e σ fin0) = res from h)
  obtain ⟨env', w', e', σ', ρ', k1, k2, k3, _⟩ := xs_someL (s_reg hr hih hE hM h1)
  exact ⟨e', σ', k1.symm, fun n hn => by rw [k2]; exact hn, fun s hs => by rw [k3]; exact hs, by rw [k2, k3]; exact h2⟩
 | o :: l, e, σ, ρ, env, w, hE, hM, h => by
  have h' : (orH m hs full o).f ih e σ (fun e σ => (regH m hs full l).f ih e σ (finH m ih full l2 σ0)) = res := h
  obtain ⟨env', w', e', σ', ρ', h1, _, h3, h4, h5, h6⟩ := xs_some (s_orH hr hih hE hM h')
  obtain ⟨ef, σf, g1, g2, g3, g4⟩ := mono_H hr hih h3 h4 h1
  exact ⟨ef, σf, g1, fun n hn => g2 n (h5 n hn), fun s hs => g3 s (h6 s hs), g4⟩
theorem acts_monoH {P : Program} {H : World → Prop} {c : Cls} {s : Sem Next} {w : World} {S S' : Value → World → Prop} (h : ∀ v w', S v w' → S' v w') (hh : acts P H c s w S) : acts P H c s w S' := by
 cases c with
 | p => obtain ⟨v, h1, h2⟩ := hh; exact ⟨v, h1, h v w h2⟩
 | r => obtain ⟨v, h1, h2⟩ := hh; exact ⟨v, h1, h v w h2⟩
 | h => obtain ⟨v, h1, h2⟩ := hh; exact ⟨v, h1, h v w h2⟩
 | w => exact out_mono (fun v w' hh => ⟨hh.1, h v w' hh.2⟩) hh
theorem xs_held {hs : List Nat} {H : World → Prop} {full : Array Oper} {K : Env → World → Prop} {d : Option Tmp} {op : Op} {ty : TypeId} {pos : String} {af : Array Edge} {env : Env} {w : World} (h : xs Tryz.prog isI isS [] Eng.noH full K [⟨d, op, ty, pos, af, none⟩] env w) (hc : (cls isI isS op = .p) ∨ (cls isI isS op = .r ∧ memb hs d = false) ∨ (cls isI isS op = .w ∧ ∀ env' w', K env' w' → H w')) : xs Tryz.prog isI isS hs H full K [⟨d, op, ty, pos, af, none⟩] env w := by
 obtain ⟨g, hg, h1, h2⟩ := h
 refine ⟨g, hg, fun hh => ⟨(h1 hh).1, ?_⟩, fun hh => h2 hh⟩
 have ha := (h1 hh).2
 rcases hc with hc | ⟨hc, hm⟩ | ⟨hc, hk⟩
 ·have e1 : ∀ hs, clsO isI isS hs ⟨d, op, ty, pos, af, none⟩ = .p := fun hs => by unfold clsO; rw [hc]
  rw [e1] at ha ⊢
  exact ha
 ·have e1 : clsO isI isS hs ⟨d, op, ty, pos, af, none⟩ = .r := by unfold clsO; rw [hc]; dsimp only; rw [hm]
  have e2 : clsO isI isS [] ⟨d, op, ty, pos, af, none⟩ = .r := by unfold clsO; rw [hc]; cases d <;> rfl
  rw [e2] at ha
  rw [e1]
  exact ha
 ·have e1 : ∀ hs, clsO isI isS hs ⟨d, op, ty, pos, af, none⟩ = .w := fun hs => by unfold clsO; rw [hc]
  rw [e1] at ha ⊢
  exact out_mono (fun v w' hh => ⟨hk _ _ hh.2, hh.2⟩) ha
theorem xs_monoH {hs : List Nat} {H : World → Prop} {full : Array Oper} {K K' : Env → World → Prop} (hk : ∀ env w, K env w → K' env w) : ∀ {l : List Oper} {env : Env} {w : World}, xs Tryz.prog isI isS hs H full K l env w → xs Tryz.prog isI isS hs H full K' l env w
 | [], _, _, h => hk _ _ h
 | _ :: _, _, _, ⟨g, hg, h1, h2⟩ => ⟨g, hg, fun hh => ⟨(h1 hh).1, acts_monoH (fun _ _ hs => xs_monoH hk hs) (h1 hh).2⟩, fun hh => xs_monoH hk (h2 hh)⟩
theorem xs_cons {hs : List Nat} {H : World → Prop} {full : Array Oper} {K : Env → World → Prop} {o : Oper} {rest : List Oper} {env : Env} {w : World} (h : xs Tryz.prog isI isS hs H full (fun env' w' => xs Tryz.prog isI isS hs H full K rest env' w') [o] env w) : xs Tryz.prog isI isS hs H full K (o :: rest) env w := h
def Mono (w0 : Fm) (m : Nat) (res : Rs) (nh : List Nt) (nm : List Mem) (k : Kr) : Prop := ∀ (e : En) (σ : Mem) (ρ : Pl) (env : Env) (w : World), ER m ρ e env → MR w0 ρ σ w → k e σ = res → (∀ n ∈ e.hs, n ∈ nh) ∧ ∀ s ∈ e.ms, s ∈ nm
theorem Mono.op {w0 : Fm} {m : Nat} {ih : Cl} {res : Rs} {nh : List Nt} {nm : List Mem} {k : Kr} (hr : res ≠ .no) (hih : CallS w0 ih) {hs : List Nat} {full : List Oper} {o : Oper} (hk : Mono w0 m res nh nm k) : Mono w0 m res nh nm (fun e σ => (orH m hs full o).f ih e σ k) := fun e σ ρ env w hE hM h => by
 obtain ⟨env', w', e', σ', ρ', h1, _, h3, h4, h5, h6⟩ := xs_some (s_orH hr hih hE hM h)
 obtain ⟨g2, g3⟩ := hk e' σ' ρ' env' w' h3 h4 h1
 exact ⟨fun n hn => g2 n (h5 n hn), fun s hs => g3 s (h6 s hs)⟩
theorem Mono.reg {w0 : Fm} {m : Nat} {ih : Cl} {res : Rs} {nh : List Nt} {nm : List Mem} {k : Kr} (hr : res ≠ .no) (hih : CallS w0 ih) {hs : List Nat} {full : List Oper} (hk : Mono w0 m res nh nm k) : ∀ l : List Oper, Mono w0 m res nh nm (fun e σ => (regH m hs full l).f ih e σ k)
 | [] => hk
 | o :: l => Mono.op (o := o) hr hih (Mono.reg hr hih hk l)
theorem Mono.fin {w0 : Fm} {m : Nat} {ih : Cl} {res : Rs} {σ0 : Mem} {ef : En} {σf : Mem} (hr : res ≠ .no) (hih : CallS w0 ih) (hres : res = .mk .nrm ef σf) {full l2 : List Oper} : Mono w0 m res ef.hs ef.ms (finH m ih full l2 σ0) := fun e σ ρ env w hE hM h => by
 obtain ⟨ef', σf', k1, k2, k3, _⟩ := mono_H (hs := []) (l := []) hr hih hE hM h
 rw [hres] at k1
 injection k1 with _ k4 k5
 subst k4
 exact ⟨k2, k3⟩
theorem s_regK {w0 w00 : Fm} {m : Nat} {ih : Cl} {res : Rs} {σ0 : Mem} {ρ0 : Pl} {ws : World} {nh : List Nt} {nm : List Mem} {k : Kr} (hr : res ≠ .no) (hih : CallS w0 ih) (hk : Mono w0 m res nh nm k) (hho : ∀ n ∈ nh, Hold σ0 nm n) (hM0 : MR w00 ρ0 σ0 ws) {hs0 : List Nat} {full : List Oper} : ∀ {l : List Oper} {e : En} {σ : Mem} {ρ : Pl} {env : Env} {w : World}, Up ρ0 ρ → ER m ρ e env → MR w0 ρ σ w → (regH m hs0 full l).f ih e σ k = res → xs Tryz.prog isI isS hs0 (HH ρ0 nh) full.toArray (fun env' w' => ∃ e1 σ1 ρ', k e1 σ1 = res ∧ Up ρ ρ' ∧ ER m ρ' e1 env' ∧ MR w0 ρ' σ1 w') l env w
 | [], e, σ, ρ, env, w, hu, hE, hM, h => ⟨e, σ, ρ, h, Up.refl ρ, hE, hM⟩
 | o :: l, e, σ, ρ, env, w, hu, hE, hM, h => by
  have h' : (orH m hs0 full o).f ih e σ (fun e σ => (regH m hs0 full l).f ih e σ k) = res := h
  have next : ∀ {ρ' e' σ' env' w'}, Up ρ ρ' → ER m ρ' e' env' → MR w0 ρ' σ' w' → (regH m hs0 full l).f ih e' σ' k = res → xs Tryz.prog isI isS hs0 (HH ρ0 nh) full.toArray (fun env' w' => ∃ e1 σ1 ρ', k e1 σ1 = res ∧ Up ρ ρ' ∧ ER m ρ' e1 env' ∧ MR w0 ρ' σ1 w') l env' w' := fun {ρ' e' σ' env' w'} hu' hE' hM' hh => by
   have := s_regK hr hih hk hho hM0 (l := l) (hu.trans hu') hE' hM' hh
   exact xs_monoH (fun env'' w'' ⟨e1, σ1, r, h0, h1, h2, h3⟩ => ⟨e1, σ1, r, h0, hu'.trans h1, h2, h3⟩) this
  have fins : ∀ {ρ' e' σ' env' w'}, ER m ρ' e' env' → MR w0 ρ' σ' w' → (regH m hs0 full l).f ih e' σ' k = res → (∀ n ∈ e'.hs, n ∈ nh) ∧ ∀ s ∈ e'.ms, s ∈ nm := fun {ρ' e' σ' env' w'} hE' hM' hh => Mono.reg hr hih hk l _ _ _ _ _ hE' hM' hh
  obtain ⟨d, op, ty, pos, af, gd⟩ := o
  unfold orH at h'
  split at h'
  ·exact absurd h'.symm hr
  ·rename_i hd
   have no : ∀ e', (regH m hs0 full l).f ih e' σ k = res → e'.hs = e.hs → e'.ms = e.ms → ER m ρ e' (Eng.put env d undef) → xs Tryz.prog isI isS hs0 (HH ρ0 nh) full.toArray (fun env' w' => ∃ e1 σ1 ρ', k e1 σ1 = res ∧ Up ρ ρ' ∧ ER m ρ' e1 env' ∧ MR w0 ρ' σ1 w') l (Eng.put env d undef) w := fun e' k1 _ _ k2 => next (Up.refl ρ) k2 hM k1
   split at h'
   ·rename_i t x hop
    have hop : op = .load t x := hop
    subst hop
    split at h'
    ·rename_i hmem
     refine xs_cons (s_guard hr hE h' (fun h => ?_) no)
     cases d with
     | none => cases hd
     | some d =>
      obtain ⟨id, o', l', av, p, h1, h2, h3, h4, h5⟩ := ldH_inv hr hE h
      obtain ⟨e', k1, k3, k4, k2⟩ := puW_inv h4
      obtain ⟨vs, g1, g2⟩ := hM.cells h2 h3
      have hn : (id, o', l') ∈ nh := by
       rcases h5 with ⟨ht, y, rfl, rfl⟩ | ⟨ht, rfl⟩
       ·cases g1 with
        | cons q1 q2 => exact (fins ((hE.put (v := .v y) q1.2 k2).same (e' := ⟨e'.vs, e'.ts, (id, o', [y]) :: e'.hs, e'.ms⟩) rfl rfl) hM k1).1 _ List.mem_cons_self
       ·exact (fins ((hE.put (v := .g l') (val := .agg vs.toArray) ⟨vs, g1, rfl⟩ k2).same (e' := ⟨e'.vs, e'.ts, (id, o', l') :: e'.hs, e'.ms⟩) rfl rfl) hM k1).1 _ List.mem_cons_self
      obtain ⟨q1, q2⟩ := hho _ hn
      have q1 : id < σ0.n := q1
      rw [← hM0.len] at q1
      have hp0 : ρ0[id]? = some ρ0[id] := List.getElem?_eq_getElem q1
      have hpp := hu _ _ hp0
      rw [h2] at hpp
      have hpe : ρ0[id] = p := (Option.some.inj hpp).symm
      rw [hpe] at hp0
      obtain ⟨vs0, g3, _⟩ := hM0.cells hp0 (l := l') (o := o') (fun i hi => q2 σ0 List.mem_cons_self i hi)
      have hcell : ∀ w', HH ρ0 nh w' → ∀ (j : Nat) u, vs0[j]? = some u → w'.cell? ⟨p.b, o' + j, none⟩ = some u := fun w' hw j u hj => hw _ hn p vs0 hp0 g3 j u hj
      have fin : ∀ val, AR ρ av val → xs Tryz.prog isI isS hs0 (HH ρ0 nh) full.toArray (fun env' w' => ∃ e1 σ1 ρ', k e1 σ1 = res ∧ Up ρ ρ' ∧ ER m ρ' e1 env' ∧ MR w0 ρ' σ1 w') l (Eng.put env (some d) val) w := fun val hv => next (Up.refl ρ) ((hE.put hv k2).same (e' := ⟨e'.vs, e'.ts, (id, o', l') :: e'.hs, e'.ms⟩) rfl rfl) hM k1
      rcases h5 with ⟨ht, y, rfl, rfl⟩ | ⟨ht, rfl⟩
      ·cases g3 with
       | cons r1 r2 =>
        cases r2
        exact xldh h1 ht (fun w' hw => by have := hcell w' hw 0 _ rfl; exact this) (fin _ (r1.2.up hu)) hmem
      ·exact xldzh h1 (by rw [g3.len]; exact ht) (fun w' hw => hcell w' hw) (fin _ ⟨vs0, g3.up hu, rfl⟩) hmem
    ·rename_i hmem
     refine xs_cons (s_guard hr hE h' (fun h => ?_) no)
     refine xs_monoH (fun env' w' hh => ?_) (xs_held (s_pop (c := fun e σ => (regH m hs0 full l).f ih e σ k) hr hih hE hM hd h) (.inr (.inl ⟨rfl, hmem⟩)))
     exact y57
   ·split at h'
    ·rename_i hcl
     refine xs_cons (s_guard hr hE h' (fun h => ?_) no)
     refine xs_monoH (fun env' w' hh => ?_) (xs_held (s_wop (c := fun e σ => (regH m hs0 full l).f ih e σ k) hr hih hE hM hd h) (.inr (.inr ⟨hcl, fun env' w' hh => ?_⟩)))
     ·exact y57
     ·obtain ⟨e', σ', ρ', g1, g2, g3, g4, _, _, g7⟩ := hh
      exact hold_at g4 (hu.trans g2) (List.mem_cons_of_mem _ ((fins g3 g4 g1).2 σ' g7)) hho
    ·rename_i hcl
     refine xs_cons (s_guard hr hE h' (fun h => ?_) no)
     refine xs_monoH (fun env' w' hh => ?_) (xs_held (s_pop (c := fun e σ => (regH m hs0 full l).f ih e σ k) hr hih hE hM hd h) (.inl hcl))
     exact y57
    ·exact absurd h'.symm hr
theorem s_regH {w0 : Fm} {m : Nat} {ih : Cl} {res : Rs} {σ0 : Mem} {ρ0 : Pl} {ws : World} {ef : En} {σf : Mem} (hr : res ≠ .no) (hih : CallS w0 ih) (hres : res = .mk .nrm ef σf) (hho : ∀ n ∈ ef.hs, Hold σ0 ef.ms n) (hM0 : MR w0 ρ0 σ0 ws) {hs0 : List Nat} {full l2 l : List Oper} {e : En} {σ : Mem} {ρ : Pl} {env : Env} {w : World} (hu : Up ρ0 ρ) (hE : ER m ρ e env) (hM : MR w0 ρ σ w) (h : (regH m hs0 full l).f ih e σ (finH m ih full l2 σ0) = res) : xs Tryz.prog isI isS hs0 (HH ρ0 ef.hs) full.toArray (fun env' w' => ∃ e1 σ1 ρ', (regW m full l2).f ih e1 σ1 fin0 = res ∧ Up ρ ρ' ∧ ER m ρ' e1 env' ∧ MR w0 ρ' σ1 w') l env w := by
 refine xs_monoH (fun env' w' ⟨e1, σ1, ρ', h0, h1, h2, h3⟩ => ?_) (s_regK hr hih (Mono.fin hr hih hres) hho hM0 hu hE hM h)
 obtain ⟨g1, _⟩ := ckA_inv hr (show ckA σ0 e1.ms e1.hs ((regW m full l2).f ih e1 σ1 fin0) = res from h0)
 exact ⟨e1, σ1, ρ', g1, h1, h2, h3⟩
theorem wp_cut {N : Nat} {id : Nat} {l : List Oper} {env : Env} {w : World} {a : Act} {K : Env → World → Prop} {Q : Exit → Act → World → Prop} (cut : Nat) (hs : List Nat) (H : World → Prop) (hd : dstOK N l.toArray = true) (hq : seqOK2 isI isS hs cut l.toArray (Region.before l.toArray) = true) (hw : H w.drew) (ha : Fits N env a)
  (hQ : ∀ a' env' w', Fits N env' a' → K env' w' → Q .normal a' w')
  (h : xs Tryz.prog isI isS hs H l.toArray (fun env' w' => xs Tryz.prog isI isS [] Eng.noH l.toArray K (l.drop cut) env' w') (l.take cut) env w.drew) : (Code.region id l.toArray true).wp Tryz.prog Q a w := by
 obtain ⟨hs', hd⟩ := dstOK_spec hd
 have hq' := seqOK2_spec hq
 have hle : cut ≤ l.length := by simpa using hq'.le
 have h1 := ss_of_xs2 (N := N) hs' hd (l.take cut) 0 env a w.drew (fun j o ho => by
  rw [Nat.zero_add]
  have hj : j < cut := by
   have := (List.getElem?_eq_some_iff.1 ho).1
   rw [List.length_take] at this; omega
  rw [List.getElem?_take_of_lt hj] at ho
  simpa using ho) hw ha h
 rw [List.length_take, Nat.min_eq_left hle] at h1
 have h2 : ss2 Tryz.prog isI isS hs H l.toArray (fun a' w' => ∃ env', Fits N env' a' ∧ K env' w') (List.range' 0 cut) (List.range' cut (l.length - cut)) a w.drew := by
  refine ss_app _ _ a _ hw (fun a' w' _ ⟨env', hf, hx⟩ => ?_) h1
  have := ss_of_xs2 (N := N) hs' hd (l.drop cut) cut env' a' w' (fun j o ho => by
   rw [List.getElem?_drop] at ho
   simpa using ho) trivial hf hx
  rwa [List.length_drop] at this
 refine wp_region_any mixed (wpAny_of_ss2 hq' (fun a' w' ⟨env', hf, ht⟩ => hQ a' env' w' hf ht) l.toArray.size _ (List.range' 0 cut) (List.range' cut (l.length - cut)) a _ (fun _ => hw) (by simp) (by simp; omega) ?_ (fun i hi => by rw [List.mem_range'_1] at hi; omega) (fun i hi => by rw [List.mem_range'_1] at hi; omega) (fun i => ?_) (fun i o ho hl => ?_) h2)
 ·have e : List.range' 0 cut ++ List.range' cut (l.length - cut) = List.range l.length := by
   have := List.range'_append_1 (s := 0) (m := cut) (n := l.length - cut)
   rw [Nat.zero_add] at this
   rw [this, List.range_eq_range']
   congr 1; omega
  rw [e]; exact List.pairwise_lt_range
 ·rw [List.mem_append, List.mem_range'_1, List.mem_range'_1]
  simp [Array.getD_eq_getD_getElem?]
  constructor
  ·intro hh
   have : i < l.length := by omega
   exact ⟨this, by simp [this]⟩
  ·intro hh; omega
 ·exfalso
  rw [Array.getD_eq_getD_getElem?, Array.getElem?_replicate] at hl
  split at hl <;> simp at hl
theorem cutR_inv {ops : Array Oper} {k : Nat} : ∀ {l : List Nat}, cutR ops l = .held k → seqOK2 isI isS (ldK ops k) k ops (Region.before ops) = true
 | [], h => by cases h
 | q :: l, h => by
  have h' : cN q (fun k => (match seqOK2 isI isS (ldK ops k) k ops (Region.before ops) with
   | true => Rk.held k
   | false => cutR ops l : Rk)) = Rk.held k := h
  rw [cN_eq] at h'
  split at h'
  ·rename_i hq
   injection h' with h'
   rw [← h']; exact hq
  ·exact cutR_inv h'
theorem cutR_text {ops : Array Oper} : ∀ {l : List Nat}, cutR ops l ≠ .text
 | [], h => by cases h
 | q :: l, h => by
  have h' : cN q (fun k => (match seqOK2 isI isS (ldK ops k) k ops (Region.before ops) with
   | true => Rk.held k
   | false => cutR ops l : Rk)) = Rk.text := h
  rw [cN_eq] at h'
  split at h'
  ·cases h'
  ·exact cutR_text h'
end Rn
end Eng
end Go.Proofs.YtbpmlbjapapoaaaGreatDoor
namespace Go.Proofs.YtbpmlbjapapoaaaGreatDoor
open Go.RowKit
namespace Eng
namespace Rn
theorem look_put_ne {env : Env} {d : Option Tmp} {v : Value} {t : Nat} (h : d ≠ some t) : look (Eng.put env d v) t = look env t := by
 cases d with
 | none => rfl
 | some k =>
  show look ((k, v) :: env) t = _
  rw [look_cons, if_neg (fun e => h (by rw [e]))]
theorem xs_keep {hs : List Nat} {H : World → Prop} {full : Array Oper} {K : Env → World → Prop} : ∀ {l : List Oper} {env : Env} {w : World}, xs Tryz.prog isI isS hs H full K l env w → xs Tryz.prog isI isS hs H full (fun env' w' => K env' w' ∧ ∀ t, (∀ o ∈ l, o.dst ≠ some t) → look env' t = look env t) l env w
 | [], _, _, h => ⟨h, fun _ _ => rfl⟩
 | o :: l, env, w, ⟨g, hg, h1, h2⟩ => by
  have step : ∀ v w', xs Tryz.prog isI isS hs H full K l (Eng.put env o.dst v) w' → xs Tryz.prog isI isS hs H full (fun env' w' => K env' w' ∧ ∀ t, (∀ o' ∈ o :: l, o'.dst ≠ some t) → look env' t = look env t) l (Eng.put env o.dst v) w' := fun v w' h =>
   xs_monoH (fun env' w' ⟨hk, hl⟩ => ⟨hk, fun t ht => (hl t fun o' ho' => ht o' (List.mem_cons_of_mem _ ho')).trans (look_put_ne (ht o List.mem_cons_self))⟩) (xs_keep h)
  exact ⟨g, hg, fun hh => ⟨(h1 hh).1, acts_monoH (fun v w' hx => step v w' hx) (h1 hh).2⟩, fun hh => step _ _ (h2 hh)⟩
theorem ops_keep {d : Option Tmp} {op : Op} {ty : TypeId} {pos : String} {af : Array Edge} {env env2 : Env} (hx : ∀ x ∈ op.operands.toList, evo env2 x = evo env x) (h : opsOK env ⟨d, op, ty, pos, af, none⟩ = true) : opsOK env2 ⟨d, op, ty, pos, af, none⟩ = true := by
 unfold opsOK at h ⊢
 rw [List.all_eq_true] at h ⊢
 intro x hm
 rw [hx x hm]
 exact h x hm
def Made (ρ : Pl) (env : Env) (d : Tmp) (op : Op) (ty : TypeId) (pos : String) (af : Array Edge) (σ : Mem) (c : Kt) (res : Rs) : Prop :=
 ∃ (el : TypeId) (l : List SV) (vs : List Value) (cs : Array Value) (n z : Nat) (av : Nat → AV) (mv : Nat → Value), newK σ el l (fun id σ => c (av id) σ) = res ∧ SRs ρ l vs ∧ (∀ (o : Nat) v, vs[o]? = some v → cs[o]? = some v) ∧ n * z ≤ cs.size ∧ (∀ id b (ρ' : Pl), ρ'[id]? = some ⟨b, n, z⟩ → AR ρ' (av id) (mv b)) ∧
   ∀ (env2 : Env) (w : World), (∀ x ∈ op.operands.toList, evo env2 x = evo env x) → opsOK env2 ⟨some d, op, ty, pos, af, none⟩ = true ∧ (execOp (ev env2) ⟨some d, op, ty, pos, af, none⟩).run Tryz.prog w = .ok (.value (mv w.heap.size)) (w.alloc (.cells cs el))
theorem al_mk {ih : Cl} {e : En} {σ : Mem} {c : Kt} {res : Rs} {ρ : Pl} {env : Env} {d : Tmp} {ty : TypeId} {pos : String} {af : Array Edge} (hr : res ≠ .no) {t : TypeId} (h : (alW t (zA t)).f ih e σ c = res) : Made ρ env d (.alloc t) ty pos af σ c res := by
 unfold alW at h
 split at h
 ·rename_i z hz
  rw [cVs_eq] at h
  obtain ⟨i, v, hi, hv, hl⟩ := zA_inv (ρ := ρ) hz
  refine ⟨t, z, _, v.cells, v.cells.size, 1, _, fun b => .pointer (some ⟨b, 0, none⟩), h, hl, fun o u hu => by simpa using hu, by simp, fun id b ρ' hp => ⟨_, hp, rfl⟩, fun env2 w _ => ⟨by simp [opsOK, Op.operands], ?_⟩⟩
  simp [execOp, Instr.alloc, zeroValue, typeInfo, hi, hv, newVar, newRow]
 ·exact absurd h.symm hr
theorem rw_mk {m : Nat} {ih : Cl} {e : En} {σ : Mem} {c : Kt} {res : Rs} {ρ : Pl} {env : Env} {d : Tmp} {ty : TypeId} {pos : String} {af : Array Edge} (hr : res ≠ .no) (hE : ER m ρ e env) {t : TypeId} {n : Nat} {ps : List (Nat × Operand)} (hm : 1 ≤ n) (h : (rwW m n ps (elemOf t)).f ih e σ c = res) : Made ρ env d (.buildSlice t n ps.toArray) ty pos af σ c res := by
 unfold rwW at h
 split at h
 ·omega
 split at h
 ·rename_i el z hel
  obtain ⟨hu, hsz⟩ := elemOf_inv hel
  obtain ⟨⟨ie, hie, hz⟩, _⟩ := size_spec hsz
  split at h
  ·rename_i zs hzs
   split at h
   ·exact absurd h.symm hr
   ·rename_i hchk
    rw [cN_eq, cN_eq, cVs_eq] at h
    obtain ⟨k1, hchk⟩ := an_inv hchk
    obtain ⟨k2, hchk⟩ := an_inv hchk
    obtain ⟨k3, k4⟩ := an_inv hchk
    have k1 := Nat.eq_of_beq_eq_true k1
    have k2 := Nat.le_of_ble_eq_true k2
    have k3 := Nat.le_of_ble_eq_true k3
    have k4 : n * z ≤ 16777216 := Nat.le_of_ble_eq_true k4
    obtain ⟨i, v, hi, hv, hl⟩ := zA_inv (ρ := ρ) hzs
    rw [hie] at hi; obtain rfl := Option.some.inj hi
    have hrep := rep_rel hl n
    rw [k1] at hrep
    obtain ⟨pvs, l', vs', h1, h2, h3, hlen', g1⟩ := ptW_inv hr hE h hrep
    obtain ⟨he, ho⟩ := evq_spec h1
    have hpos : 0 < n * z := Nat.mul_pos (by omega) (by omega)
    have hlen' : vs'.length = n * z := by rw [hlen', Array.length_toList, size_madeCells]
    refine ⟨el, l', vs', vs'.toArray, n, z, fun id => .v (.lx id z 0 n n), fun b => .slice (some ⟨b, 0, none⟩) n n, g1, h3, fun o u hu => by simpa using hu, by simp [hlen'], fun id b ρ' hp => ⟨_, hp, Nat.le_refl _, by have := Nat.le_mul_of_pos_right n k3; unfold maxLen; omega, by simp⟩, fun env2 w hx => ?_⟩
    have hx' : ∀ p ∈ ps, evo env2 p.2 = evo env p.2 := fun p hp => hx p.2 (by simp only [Op.operands]; simp; exact ⟨p.1, by simpa using hp⟩)
    have hev : (ps.map fun p => (p.1, ev env2 p.2)) = ps.map fun p => (p.1, ev env p.2) := List.map_congr_left fun p hp => by unfold ev; rw [hx' p hp]
    have hrun := run_buildSlice (P := Tryz.prog) w t el n ((ps.map fun p => (p.1, ev env2 p.2)).toArray) vs'.toArray ie v hu hie hv (by rw [hz]; omega) (by rw [hz]; omega) (by
     show Instr.fill _ _ (ps.map fun p => (p.1, ev env2 p.2)) = _
     rw [hev, he, hz]
     exact h2)
    refine ⟨ops_keep hx (by simp only [opsOK, Op.operands]; rw [List.all_eq_true]; intro x hx; simp at hx; obtain ⟨j, hj⟩ := hx; exact ho _ (by simpa using hj)), ?_⟩
    have e2 : (ps.toArray.map fun x => match x with | (i, x) => (i, ev env2 x)) = (ps.map fun p => (p.1, ev env2 p.2)).toArray := by simp
    simp only [execOp]
    rw [e2]
    simp [hrun]
  ·exact absurd h.symm hr
 ·exact absurd h.symm hr
theorem mk_inv {m : Nat} {ih : Cl} {e : En} {σ : Mem} {c : Kt} {res : Rs} {ρ : Pl} {env : Env} {d : Tmp} {ty : TypeId} {pos : String} {af : Array Edge} (hr : res ≠ .no) {op : Op} (hm : isMk op = true) (hE : ER m ρ e env) (h : (opW m op).f ih e σ c = res) : Made ρ env d op ty pos af σ c res := by
 cases op with
 | alloc t => exact al_mk hr h
 | buildSlice t n ps => exact rw_mk (ps := ps.toList) hr hE (Nat.le_of_ble_eq_true hm) h
 | _ => cases hm
theorem dryH {w0 : Fm} {m : Nat} {ih : Cl} {res : Rs} {k : Kr} (hr : res ≠ .no) (hih : CallS w0 ih) {hs : List Nat} {full : List Oper} : ∀ {l : List Oper} {e : En} {σ : Mem} {ρ : Pl} {env : Env} {w : World}, ER m ρ e env → MR w0 ρ σ w → (regH m hs full l).f ih e σ k = res → ∃ env' w' e1 σ1 ρ', k e1 σ1 = res ∧ Up ρ ρ' ∧ ER m ρ' e1 env' ∧ MR w0 ρ' σ1 w' ∧ ∀ t, (∀ o ∈ l, o.dst ≠ some t) → look env' t = look env t
 | [], e, σ, ρ, env, w, hE, hM, h => ⟨env, w, e, σ, ρ, h, Up.refl ρ, hE, hM, fun _ _ => rfl⟩
 | o :: l, e, σ, ρ, env, w, hE, hM, h => by
  have h' : (orH m hs full o).f ih e σ (fun e σ => (regH m hs full l).f ih e σ k) = res := h
  obtain ⟨env1, w1, ⟨e1, σ1, ρ1, h1, h2, h3, h4, _⟩, h5⟩ := xs_some (xs_keep (s_orH hr hih hE hM h'))
  obtain ⟨env2, w2, e2, σ2, ρ2, g1, g2, g3, g4, g5⟩ := dryH hr hih h3 h4 h1
  exact ⟨env2, w2, e2, σ2, ρ2, g1, h2.trans g2, g3, g4, fun t ht => (g5 t fun o' ho' => ht o' (List.mem_cons_of_mem _ ho')).trans (h5 t fun o' ho' => by rw [List.mem_singleton] at ho'; subst ho'; exact ht _ List.mem_cons_self)⟩
theorem alook_delL {d t : Nat} : ∀ {l : AEnv}, alook t (delL d l) = if d = t then none else alook t l
 | [] => by
  have e : alook t (delL d []) = none := rfl
  rw [e]; split <;> rfl
 | (k, x) :: l => by
  have e1 : delL d ((k, x) :: l) = Bool.rec (motive := fun _ => AEnv) ((k, x) :: delL d l) (delL d l) (Nat.beq k d) := rfl
  have ih := alook_delL (d := d) (t := t) (l := l)
  rw [e1]
  cases hk : Nat.beq k d with
  | true =>
   have hk := Nat.eq_of_beq_eq_true hk
   subst hk
   show alook t (delL k l) = _
   rw [ih]
   by_cases ht : k = t
   ·rw [if_pos ht, if_pos ht]
   ·rw [if_neg ht, if_neg ht]; simp [alook, ht]
  | false =>
   have hk : k ≠ d := fun e => by subst e; rw [Nat.beq_refl] at hk; cases hk
   show alook t ((k, x) :: delL d l) = _
   by_cases ht : k = t
   ·subst ht
    rw [if_neg (fun e => hk e.symm)]; simp [alook]
   ·simp only [alook, if_neg ht]; exact ih
theorem delL_idem {d : Nat} : ∀ {l : AEnv}, delL d (delL d l) = delL d l
 | [] => rfl
 | (k, x) :: l => by
  have e1 : delL d ((k, x) :: l) = Bool.rec (motive := fun _ => AEnv) ((k, x) :: delL d l) (delL d l) (Nat.beq k d) := rfl
  rw [e1]
  cases hk : Nat.beq k d with
  | true => exact delL_idem
  | false =>
   show Bool.rec (motive := fun _ => AEnv) ((k, x) :: delL d (delL d l)) (delL d (delL d l)) (Nat.beq k d) = _
   rw [hk, delL_idem]
theorem delE_idem {d : Nat} {e : En} : delE d (delE d e) = delE d e := by
 unfold delE
 simp only [delL_idem]
theorem elk_del {m d t : Nat} {e : En} : elk m (delE d e) t = if d = t then none else elk m e t := by
 unfold elk delE
 cases kept m t <;> exact alook_delL
theorem ER.del {m : Nat} {ρ : Pl} {e : En} {env : Env} {d : Nat} (h : ER m ρ e env) : ER m ρ (delE d e) env := fun t a ha => by
 rw [elk_del] at ha
 split at ha
 ·cases ha
 ·exact h t a ha
theorem dryF {w0 : Fm} {m : Nat} {ih : Cl} {res : Rs} {k : Kr} (hr : res ≠ .no) (hih : CallS w0 ih) {hs : List Nat} {full : List Oper} {d : Nat} : ∀ {l : List (Oper × Bool)} {e : En} {σ : Mem} {ρ : Pl} {env : Env} {w : World}, ER m ρ e env → MR w0 ρ σ w → (regF m hs full d l).f ih e σ k = res → ∃ env' w' e1 σ1 ρ', k e1 σ1 = res ∧ Up ρ ρ' ∧ ER m ρ' e1 env' ∧ MR w0 ρ' σ1 w' ∧ ∀ t, (∀ o ∈ l.map Prod.fst, o.dst ≠ some t) → look env' t = look env t
 | [], e, σ, ρ, env, w, hE, hM, h => ⟨env, w, e, σ, ρ, h, Up.refl ρ, hE, hM, fun _ _ => rfl⟩
 | (o, b) :: l, e, σ, ρ, env, w, hE, hM, h => by
  have h' : (orH m hs full o).f ih (delE d e) σ (fun e σ => (regF m hs full d l).f ih e σ k) = res := h
  obtain ⟨env1, w1, ⟨e1, σ1, ρ1, h1, h2, h3, h4, _⟩, h5⟩ := xs_some (xs_keep (s_orH hr hih hE.del hM h'))
  obtain ⟨env2, w2, e2, σ2, ρ2, g1, g2, g3, g4, g5⟩ := dryF hr hih h3 h4 h1
  exact ⟨env2, w2, e2, σ2, ρ2, g1, h2.trans g2, g3, g4, fun t ht => (g5 t fun o' ho' => ht o' (by rw [List.map_cons]; exact List.mem_cons_of_mem _ ho')).trans (h5 t fun o' ho' => by rw [List.mem_singleton] at ho'; subst ho'; exact ht _ (by rw [List.map_cons]; exact List.mem_cons_self))⟩
theorem Mono.regF {w0 : Fm} {m : Nat} {ih : Cl} {res : Rs} {nh : List Nt} {nm : List Mem} {k : Kr} (hr : res ≠ .no) (hih : CallS w0 ih) {hs : List Nat} {full : List Oper} {d : Nat} (hk : Mono w0 m res nh nm k) : ∀ l : List (Oper × Bool), Mono w0 m res nh nm (fun e σ => (regF m hs full d l).f ih e σ k)
 | [] => hk
 | (o, _) :: l => fun e σ ρ env w hE hM h => Mono.op (o := o) hr hih (Mono.regF hr hih hk l) (delE d e) σ ρ env w hE.del hM h
theorem s_regF {w0 w00 : Fm} {m : Nat} {ih : Cl} {res : Rs} {σ0 : Mem} {ρ0 : Pl} {ws : World} {nh : List Nt} {nm : List Mem} {k : Kr} (hr : res ≠ .no) (hih : CallS w0 ih) (hk : Mono w0 m res nh nm k) (hho : ∀ n ∈ nh, Hold σ0 nm n) (hM0 : MR w00 ρ0 σ0 ws) {hs0 : List Nat} {full : List Oper} {d : Nat} : ∀ {l : List (Oper × Bool)} {e : En} {σ : Mem} {ρ : Pl} {env : Env} {w : World}, Up ρ0 ρ → ER m ρ e env → MR w0 ρ σ w → (regF m hs0 full d l).f ih e σ k = res → xs Tryz.prog isI isS hs0 (HH ρ0 nh) full.toArray (fun env' w' => ∃ e1 σ1 ρ', k e1 σ1 = res ∧ Up ρ ρ' ∧ ER m ρ' e1 env' ∧ MR w0 ρ' σ1 w') (l.map Prod.fst) env w
 | [], e, σ, ρ, env, w, hu, hE, hM, h => ⟨e, σ, ρ, h, Up.refl ρ, hE, hM⟩
 | (o, b) :: l, e, σ, ρ, env, w, hu, hE, hM, h => by
  have h1 := s_regK hr hih (Mono.regF hr hih hk l) hho hM0 (hs0 := hs0) (full := full) (l := [o]) hu (hE.del (d := d)) hM h
  rw [List.map_cons]
  refine xs_cons (xs_monoH (fun env' w' hh => ?_) h1)
  obtain ⟨e1, σ1, ρ1, k1, k2, k3, k4⟩ := hh
  exact xs_monoH (fun env'' w'' ⟨e2, σ2, ρ2, q1, q2, q3, q4⟩ => ⟨e2, σ2, ρ2, q1, k2.trans q2, q3, q4⟩) (s_regF hr hih hk hho hM0 (hu.trans k2) k3 k4 k1)
theorem HH.ext {ρ0 : Pl} {nh : List Nt} {w w' : World} (h : HH ρ0 nh w) (hE : Ext w w') : HH ρ0 nh w' := fun n hn p vs hp hv j u hj => hE.cell (h n hn p vs hp hv j u hj)
theorem MR.keep {w0 : Fm} {ρ : Pl} {σ : Mem} {w w1 : World} (h : MR w0 ρ σ w) (hE : Ext w w1) : MR ⟨fun b => b ≠ w.heap.size ∧ w0.may b, w1⟩ ρ σ w1 where
 len := h.len
 blk := (h.ext hE).blk
 old := Fr.refl _ _
 far := fun id o p hs hp => .inr ⟨Nat.ne_of_lt (h.below id o p hs hp), h.far id o p hs hp⟩
 pre := h.pre
 apart := h.apart
 mps := h.mps.to (Up.refl ρ) (fun _ _ hb => hb.ext hE) fun _ _ hb hm => .inr ⟨Nat.ne_of_lt hb.lt, hm⟩
theorem MR.back {w0 : Fm} {ρ ρ1 : Pl} {σ σ1 : Mem} {w w1 w' : World} (h : MR w0 ρ σ w) (hE : Ext w w1) (hlt : w.heap.size < w1.heap.size) (h1 : MR ⟨fun b => b ≠ w.heap.size ∧ w0.may b, w1⟩ ρ1 σ1 w') : MR w0 ρ1 σ1 w' ∧ (∀ id o p, (cget σ1 id o).isSome = true → ρ1[id]? = some p → p.b ≠ w.heap.size) ∧ ∀ t cs, Bk w1 w.heap.size t cs → Bk w' w.heap.size t cs := by
 have hs := h.old.size
 refine ⟨⟨h1.len, h1.blk, (h.old.te hE).trans h1.old fun j hj hS => hS.2.resolve_left (by omega), fun id o p a b => ?_, h1.pre, h1.apart, h1.mps.to (Up.refl ρ1) (fun _ _ hb => hb) fun b l _ hm => ?_⟩, fun id o p a b => ?_, fun t cs hb => hb.fr h1.old fun hS => hS.1 rfl⟩
 ·rcases h1.far id o p a b with hh | hh
  ·have hh : w1.heap.size ≤ p.b := hh
   exact .inl (by omega)
  ·exact hh.2
 ·rcases hm with hh | hh
  ·have hh : w1.heap.size ≤ b := hh
   exact .inl (by omega)
  ·exact hh.2
 ·rcases h1.far id o p a b with hh | hh
  ·have hh : w1.heap.size ≤ p.b := hh
   omega
  ·exact hh.1
theorem mkH_inv {m : Nat} {ih : Cl} {res : Rs} (hr : res ≠ .no) {hs : List Nat} {full : List Oper} {c : Kr} {e : En} {σ : Mem} {d : Tmp} {op : Op} {ty : TypeId} {pos : String} {af : Array Edge} (hm : isMk op = true) (h : (orH m hs full ⟨some d, op, ty, pos, af, none⟩).f ih e σ c = res) : (opW m op).f ih e σ (fun v σ => (puW m (some d)).f e v fun e => c ⟨e.vs, e.ts, e.hs, σ :: e.ms⟩ σ) = res := by
 unfold orH at h
 split at h
 ·exact absurd h.symm hr
 ·cases op with
  | alloc t => exact h
  | buildSlice t n ps => exact h
  | _ => cases hm
theorem xs_app2 {hs : List Nat} {H : World → Prop} {full : Array Oper} {K : Env → World → Prop} : ∀ {l1 l2 : List Oper} {env : Env} {w : World}, xs Tryz.prog isI isS hs H full (fun env' w' => xs Tryz.prog isI isS hs H full K l2 env' w') l1 env w → xs Tryz.prog isI isS hs H full K (l1 ++ l2) env w
 | [], _, _, _, h => h
 | _ :: _, _, _, _, ⟨g, hg, h1, h2⟩ => ⟨g, hg, fun hh => ⟨(h1 hh).1, acts_monoH (fun _ _ hx => xs_app2 hx) (h1 hh).2⟩, fun hh => xs_app2 (h2 hh)⟩
theorem early {w0 w00 : Fm} {m : Nat} {ih : Cl} {res : Rs} {σ0 : Mem} {ρ0 : Pl} {ws : World} {nh : List Nt} {nm : List Mem} {k : Kr} (hr : res ≠ .no) (hih : ∀ F, CallS F ih) (hk : ∀ F, Mono F m res nh nm k) (hho : ∀ n ∈ nh, Hold σ0 nm n) (hM0 : MR w00 ρ0 σ0 ws) {hs0 : List Nat} {full post : List Oper} {preB : List (Oper × Bool)} {d : Tmp} {op : Op} {ty : TypeId} {pos : String} {af : Array Edge} (hm : isMk op = true) (hcl : cls isI isS op = .w)
  (hd : ∀ o ∈ preB.map Prod.fst, o.dst ≠ some d) (hx : ∀ o ∈ preB.map Prod.fst, ∀ t, Operand.tmp t ∈ op.operands.toList → o.dst ≠ some t) (hself : Operand.tmp d ∉ op.operands.toList) {e : En} {σ : Mem} {ρ : Pl} {env : Env} {w : World} (hu : Up ρ0 ρ) (hE : ER m ρ e env) (hM : MR w0 ρ σ w) (hnd : elk m e d = none) (hH : HH ρ0 nh w)
  (h : (regF m hs0 full d preB).f ih e σ (fun e σ => (orH m hs0 full ⟨some d, op, ty, pos, af, none⟩).f ih e σ fun e σ => (regH m hs0 full post).f ih e σ k) = res) :
  xs Tryz.prog isI isS hs0 (HH ρ0 nh) full.toArray (fun env' w' => ∃ e1 σ1 ρ', k e1 σ1 = res ∧ Up ρ ρ' ∧ ER m ρ' e1 env' ∧ MR w0 ρ' σ1 w') (⟨some d, op, ty, pos, af, none⟩ :: (preB.map Prod.fst ++ post)) env w := by
 have opnd : ∀ {env' : Env}, (∀ t, (∀ o ∈ preB.map Prod.fst, o.dst ≠ some t) → look env' t = look env t) → ∀ x ∈ op.operands.toList, evo env x = evo env' x := fun {env'} hl x hxm => by
  cases x with
  | tmp t => exact (hl t fun o ho => hx o ho t hxm).symm
  | _ => rfl
 obtain ⟨envd, wd, ed, σd, ρd, d1, _, d3, _, d5⟩ := dryF hr (hih w0) hE hM h
 obtain ⟨el, l, vs, cs, n, z, av, mv, _, _, _, _, _, b6⟩ := mk_inv (d := d) (ty := ty) (pos := pos) (af := af) hr hm d3 (mkH_inv hr hm d1)
 obtain ⟨r1, r2⟩ := b6 env w (opnd d5)
 have hE1 : Ext w (w.alloc (.cells cs el)) := Fr.alloc _ _ _
 have hH1 := HH.ext hH hE1
 refine xw r1 hcl r2 ?_ hH1
 have hM1 := hM.keep hE1
 have hE2 : ER m ρ e (Eng.put env (some d) (mv w.heap.size)) := fun t a ha => by
  obtain ⟨v, q1, q2⟩ := hE t a ha
  refine ⟨v, ?_, q2⟩
  rw [look_put_ne (fun hh => ?_)]
  ·exact q1
  ·injection hh with hh
   subst hh
   rw [hnd] at ha; cases ha
 refine xs_app2 ?_
 refine xs_monoH (fun env' w' hh => ?_) (xs_keep (s_regF hr (hih _) (Mono.op hr (hih _) (Mono.reg hr (hih _) (hk _) post)) hho hM0 hu hE2 hM1 h))
 obtain ⟨⟨e1, σ1, ρ1, c1, c2, c3, c4⟩, c5⟩ := hh
 obtain ⟨g1, g2, g3⟩ := hM.back hE1 (by simp) c4
 have hl : ∀ t, t ≠ d → (∀ o ∈ preB.map Prod.fst, o.dst ≠ some t) → look env' t = look env t := fun t hne ht => (c5 t ht).trans (look_put_ne fun hh => hne (by injection hh with hh; exact hh.symm))
 have hld : look env' d = some (mv w.heap.size) := (c5 d hd).trans (by simp [Eng.put, look_cons])
 obtain ⟨el', l', vs', cs', n', z', av', mv', a1, a2, a3, a4, a5, a6⟩ := mk_inv (d := d) (ty := ty) (pos := pos) (af := af) hr hm c3 (mkH_inv hr hm c1)
 obtain ⟨_, r3⟩ := a6 env w fun x hxm => by
  cases x with
  | tmp t => exact (hl t (fun hh => hself (by rw [← hh]; exact hxm)) fun o ho => hx o ho t hxm).symm
  | _ => rfl
 rw [r2] at r3
 injection r3 with hv hw
 injection hv with hv
 have hB : Bk w' w.heap.size el' cs' := g3 _ _ (by rw [hw]; exact Blk.bk (Blk.new _ _ _))
 obtain ⟨ob, σ2, q1, q2, q3, q4, q5, q6, q7⟩ := newK_inv hr a1
 have hM2 := g1.more (S := noneB) n' z' a4 q1 q2 (fun o ho => by rw [q4 o]; exact List.getElem?_eq_none (by omega)) (fun o x hx => by
  rw [q4 o] at hx
  obtain ⟨v, h3, h4⟩ := a2.get o x hx
  exact ⟨v, a3 o v h3, h4⟩) q5 q6 hB (Fr.refl _ _) (fun id o p s1 s2 => ⟨g2 id o p s1 s2, fun hh => hh⟩) (fun b hh => hh.elim) (.inl hM.old.size)
 obtain ⟨e2, t1, _, _, t4⟩ := puW_inv q7
 have hlast : (ρ1 ++ [(⟨w.heap.size, n', z'⟩ : At)])[σ1.n]? = some ⟨w.heap.size, n', z'⟩ := by rw [← g1.len]; simp
 have hE3 : ER m (ρ1 ++ [(⟨w.heap.size, n', z'⟩ : At)]) ⟨e2.vs, e2.ts, e2.hs, σ2 :: e2.ms⟩ env' := fun t a ha => by
  rcases t4 t a ha with ⟨hh, rfl⟩ | ⟨hh, ha⟩
  ·injection hh with hh
   subst hh
   exact ⟨_, hld, by rw [hv]; exact a5 _ _ _ hlast⟩
  ·obtain ⟨v, s1, s2⟩ := c3 t a ha
   exact ⟨v, s1, s2.up (Up.snoc _ _)⟩
 refine xs_monoH (fun env'' w'' hh => ?_) (s_regK hr (hih _) (hk _) hho hM0 ((hu.trans c2).trans (Up.snoc _ _)) hE3 hM2 t1)
 obtain ⟨e3, σ3, ρ3, v1, v2, v3, v4⟩ := hh
 exact ⟨e3, σ3, ρ3, v1, (c2.trans (Up.snoc _ _)).trans v2, v3, v4⟩
theorem opsAt_map {l : List Oper} : ∀ {is : List Nat} {os : List Oper}, opsAt l is = some os → is.map (l.toArray[·]?) = os.map some
 | [], os, h => by
  have h : some [] = some os := h
  obtain rfl := Option.some.inj h
  rfl
 | i :: is, os, h => by
  have h : (match l[i]?, opsAt l is with
   | some o, some r => some (o :: r)
   | _, _ => none) = some os := h
  split at h
  ·rename_i o r h1 h2
   obtain rfl := Option.some.inj h
   rw [List.map_cons, List.map_cons, opsAt_map h2, List.getElem?_toArray, h1]
  ·cases h
def xf (hs : List Nat) (H : World → Prop) (full : Array Oper) (K : Env → World → Prop) (f : Oper) (post : List Oper) : List (Oper × Bool) → Env → World → Prop
 | [], env, w => xs Tryz.prog isI isS hs H full K (f :: post) env w
 | (o, b) :: pre, env, w => (b = true → H w → xs Tryz.prog isI isS hs H full K (f :: (o :: pre.map Prod.fst ++ post)) env w) ∧ xs Tryz.prog isI isS hs H full (xf hs H full K f post pre) [o] env w
theorem xg_k {hs : List Nat} {H : World → Prop} {full : Array Oper} {N : Nat} {A : Array Nat} {K : Env → World → Prop} (hR : RegOK full N A) {is l : List Nat} {ops : List Oper} {env : Env} {w : World} (h1 : soloL isI isS hs full A l is [] = true) (h2 : is.map (full[·]?) = ops.map some) (h : xs Tryz.prog isI isS hs H full K ops env w) : xg Tryz.prog isI isS hs H full N K l env w :=
 xg_run hR h1 h2 (xs_monoH (fun _ _ hk => xg_end hk) h)
theorem xs_split {hs : List Nat} {H : World → Prop} {full : Array Oper} {K : Env → World → Prop} : ∀ {l1 l2 : List Oper} {env : Env} {w : World}, xs Tryz.prog isI isS hs H full K (l1 ++ l2) env w → xs Tryz.prog isI isS hs H full (fun env' w' => xs Tryz.prog isI isS hs H full K l2 env' w') l1 env w
 | [], _, _, _, h => h
 | _ :: _, _, _, _, ⟨g, hg, h1, h2⟩ => ⟨g, hg, fun hh => ⟨(h1 hh).1, acts_monoH (fun _ _ hx => xs_split hx) (h1 hh).2⟩, fun hh => xs_split (h2 hh)⟩
theorem free_run {hs : List Nat} {H : World → Prop} {full : Array Oper} {N : Nat} {A : Array Nat} {K : Env → World → Prop} (hR : RegOK full N A) {f : Nat} {fo : Oper} (hof : full[f]? = some fo) {post : List Nat} {opost : List Oper} (hp : post.map (full[·]?) = opost.map some) : ∀ {pre : List (Nat × Bool)} {opre : List (Oper × Bool)} {l : List Nat} {env : Env} {w : World}, freeB hs full A f post l pre = true → pre.map Prod.snd = opre.map Prod.snd → (pre.map Prod.fst).map (full[·]?) = (opre.map Prod.fst).map some → xf hs H full K fo opost opre env w → xg Tryz.prog isI isS hs H full N K l env w
 | [], [], l, env, w, h, _, _, hx => xg_k hR (show soloL isI isS hs full A l (f :: post) [] = true from h) (by rw [List.map_cons, List.map_cons, hof, hp]) hx
 | [], _ :: _, _, _, _, _, h, _, _ => by cases h
 | _ :: _, [], _, _, _, _, h, _, _ => by cases h
 | (i, b) :: pre, (o, b') :: opre, l, env, w, h, hb, hm, hx => by
  rw [List.map_cons, List.map_cons, List.cons.injEq] at hb
  obtain ⟨hb, hbs⟩ := hb
  have hb : b = b' := hb
  subst hb
  rw [List.map_cons, List.map_cons, List.map_cons, List.map_cons, List.cons.injEq] at hm
  obtain ⟨ho, hms⟩ := hm
  have ho : full[i]? = some o := ho
  obtain ⟨hx1, hx2⟩ := hx
  have one : freeB hs full A f post (l.erase i) pre = true → xs Tryz.prog isI isS hs H full (xg Tryz.prog isI isS hs H full N K (l.erase i)) [o] env w := fun hq => xs_monoH (fun _ _ hk => free_run hR hof hp hq hbs hms hk) hx2
  cases b with
  | false =>
   have h : ((soloB isI isS hs full A l i || l.filter (rdyB full l) == [i]) && freeB hs full A f post (l.erase i) pre) = true := h
   rw [Bool.and_eq_true, Bool.or_eq_true] at h
   rcases h.1 with h1 | h1
   ·exact xg_solo hR h1 ho (one h.2)
   ·have h1 : l.filter (rdyB full l) = [i] := by simpa using h1
    refine xg_all hR (List.length_pos_of_mem (List.mem_filter.1 (show i ∈ l.filter (rdyB full l) by rw [h1]; simp)).1) fun i' o' hi' ho' => ?_
    rw [h1, List.mem_singleton] at hi'
    subst hi'
    rw [ho] at ho'; obtain rfl := Option.some.inj ho'
    exact one h.2
  | true =>
   have h : ((l.filter (rdyB full l) == [i, f] || l.filter (rdyB full l) == [f, i]) && (soloL isI isS hs full A (l.erase f) (i :: pre.map Prod.fst ++ post) [] && freeB hs full A f post (l.erase i) pre)) = true := h
   rw [Bool.and_eq_true, Bool.and_eq_true, Bool.or_eq_true] at h
   obtain ⟨h1, h2, h3⟩ := h
   have hmem : ∀ i', i' ∈ l.filter (rdyB full l) → i' = i ∨ i' = f := fun i' hi' => by
    rcases h1 with h1 | h1
    ·have h1 : l.filter (rdyB full l) = [i, f] := by simpa using h1
     rw [h1] at hi'; simpa using hi'
    ·have h1 : l.filter (rdyB full l) = [f, i] := by simpa using h1
     rw [h1] at hi'
     have : i' = f ∨ i' = i := by simpa using hi'
     exact this.symm
   have hin : i ∈ l.filter (rdyB full l) := by
    rcases h1 with h1 | h1
    ·have h1 : l.filter (rdyB full l) = [i, f] := by simpa using h1
     rw [h1]; simp
    ·have h1 : l.filter (rdyB full l) = [f, i] := by simpa using h1
     rw [h1]; simp
   intro hn hc hw a ha
   refine xg_all hR (List.length_pos_of_mem (List.mem_filter.1 hin).1) (fun i' o' hi' ho' => ?_) hn hc hw a ha
   rcases hmem i' hi' with rfl | rfl
   ·rw [ho] at ho'; obtain rfl := Option.some.inj ho'
    exact one h3
   ·rw [hof] at ho'; obtain rfl := Option.some.inj ho'
    have hx3 := hx1 rfl hw
    refine xs_cons (K := xg Tryz.prog isI isS hs H full N K (l.erase i')) (rest := []) ?_
    refine xs_monoH (fun env' w' hk => ?_) (xs_split (l1 := [fo]) hx3)
    refine xg_k hR h2 (ops := (o :: opre.map Prod.fst) ++ opost) ?_ hk
    rw [List.map_append, List.map_append, hp, List.map_cons, List.map_cons, ho, hms]
theorem mk_cls {op : Op} (h : isMk op = true) : cls isI isS op = .w := by
 cases op <;> first | rfl | cases h
theorem readsT_no {op : Op} {t : Nat} (h : readsT op t = false) : Operand.tmp t ∉ op.operands.toList := fun hm => by
 unfold readsT at h
 rw [List.any_eq_false] at h
 exact h _ hm (Nat.beq_refl t)
theorem offF_spec {d : Nat} {op : Op} {o : Oper} (h : offF d op o = true) : o.dst ≠ some d ∧ ∀ t, Operand.tmp t ∈ op.operands.toList → o.dst ≠ some t := by
 unfold offF at h
 split at h
 ·rename_i t ht
  rw [Bool.not_eq_true', Bool.or_eq_false_iff] at h
  refine ⟨fun e => ?_, fun t' hm e => ?_⟩
  ·rw [ht] at e
   obtain rfl := Option.some.inj e
   rw [Nat.beq_refl] at h
   cases h.1
  ·rw [ht] at e
   obtain rfl := Option.some.inj e
   exact readsT_no h.2 hm
 ·rename_i ht
  exact ⟨fun e => (by rw [ht] at e; cases e), fun t _ e => (by rw [ht] at e; cases e)⟩
theorem run_xf {w0 w00 : Fm} {m : Nat} {ih : Cl} {res : Rs} {σ0 : Mem} {ρ0 : Pl} {ws : World} {nh : List Nt} {nm : List Mem} {k : Kr} (hr : res ≠ .no) (hih : ∀ F, CallS F ih) (hk : ∀ F, Mono F m res nh nm k) (hho : ∀ n ∈ nh, Hold σ0 nm n) (hM0 : MR w00 ρ0 σ0 ws) {hs0 : List Nat} {full post : List Oper} {d : Tmp} {op : Op} {ty : TypeId} {pos : String} {af : Array Edge} (hm : isMk op = true) (hself : readsT op d = false) {K : Env → World → Prop}
  (hK : ∀ env' w' e1 σ1 ρ', k e1 σ1 = res → Up ρ0 ρ' → ER m ρ' e1 env' → MR w0 ρ' σ1 w' → K env' w') : ∀ {preB : List (Oper × Bool)} {e : En} {σ : Mem} {ρ : Pl} {env : Env} {w : World}, farF d op preB = true → Up ρ0 ρ → ER m ρ e env → MR w0 ρ σ w →
  (regF m hs0 full d preB).f ih e σ (fun e σ => (orH m hs0 full ⟨some d, op, ty, pos, af, none⟩).f ih e σ fun e σ => (regH m hs0 full post).f ih e σ k) = res → xf hs0 (HH ρ0 nh) full.toArray K ⟨some d, op, ty, pos, af, none⟩ post preB env w
 | [], e, σ, ρ, env, w, hf, hu, hE, hM, h => by
  refine xs_monoH (fun env' w' hh => ?_) (s_regK hr (hih w0) (hk w0) hho hM0 (l := ⟨some d, op, ty, pos, af, none⟩ :: post) hu hE hM h)
  obtain ⟨e1, σ1, ρ1, k1, k2, k3, k4⟩ := hh
  exact hK _ _ e1 σ1 ρ1 k1 (hu.trans k2) k3 k4
 | (o, b) :: preB, e, σ, ρ, env, w, hf, hu, hE, hM, h => by
  have hfar : farF d op preB = true := by
   cases b with
   | true =>
    have hf : (offF d op o && preB.all (fun x => offF d op x.1) && farF d op preB) = true := hf
    rw [Bool.and_eq_true] at hf
    exact hf.2
   | false => exact hf
  refine ⟨fun hb hH => ?_, ?_⟩
  ·subst hb
   have hf : (offF d op o && preB.all (fun x => offF d op x.1) && farF d op preB) = true := hf
   rw [Bool.and_eq_true, Bool.and_eq_true] at hf
   have hoff : ∀ o' ∈ ((o, true) :: preB).map Prod.fst, offF d op o' = true := fun o' ho' => by
    rw [List.map_cons] at ho'
    rcases List.mem_cons.1 ho' with rfl | ho'
    ·exact hf.1.1
    ·obtain ⟨x, hx, rfl⟩ := List.mem_map.1 ho'
     exact List.all_eq_true.1 hf.1.2 x hx
   have h2 : (regF m hs0 full d ((o, true) :: preB)).f ih (delE d e) σ (fun e σ => (orH m hs0 full ⟨some d, op, ty, pos, af, none⟩).f ih e σ fun e σ => (regH m hs0 full post).f ih e σ k) = res := by
    show (orH m hs0 full o).f ih (delE d (delE d e)) σ _ = res
    rw [delE_idem]; exact h
   refine xs_monoH (fun env' w' hh => ?_) (early (preB := (o, true) :: preB) hr hih hk hho hM0 hm (mk_cls hm) (fun o' ho' => (offF_spec (hoff o' ho')).1) (fun o' ho' => (offF_spec (hoff o' ho')).2) (readsT_no hself) hu hE.del hM (by rw [elk_del, if_pos rfl]) hH h2)
   obtain ⟨e1, σ1, ρ1, k1, k2, k3, k4⟩ := hh
   exact hK _ _ e1 σ1 ρ1 k1 (hu.trans k2) k3 k4
  ·refine xs_monoH (fun env' w' hh => ?_) (s_regK hr (hih w0) (Mono.regF hr (hih w0) (Mono.op hr (hih w0) (Mono.reg hr (hih w0) (hk w0) post)) preB) hho hM0 (l := [o]) hu (hE.del (d := d)) hM h)
   obtain ⟨e1, σ1, ρ1, k1, k2, k3, k4⟩ := hh
   exact run_xf hr hih hk hho hM0 hm hself hK hfar (hu.trans k2) k3 k4 k1
theorem wp_free {N : Nat} {id : Nat} {l : List Oper} {env : Env} {w : World} {a : Act} {K : Env → World → Prop} {Q : Exit → Act → World → Prop} (hs : List Nat) (H : World → Prop) (hd : dstOK N l.toArray = true) (hq : ancOK l.toArray (Region.before l.toArray) = true) (hw : H w.drew) (ha : Fits N env a)
  (hQ : ∀ a' env' w', Fits N env' a' → K env' w' → Q .normal a' w')
  (h : RegOK l.toArray N (Region.before l.toArray) → xg Tryz.prog isI isS hs H l.toArray N K (List.range l.toArray.size) env w.drew) : (Code.region id l.toArray true).wp Tryz.prog Q a w := by
 have hR := Eng.regOK hd hq
 have h' := h hR List.nodup_range (fun i o ho hi => absurd (List.mem_range.2 (Array.getElem?_eq_some_iff.1 ho).1) hi) hw a ha
 rw [List.length_range] at h'
 refine wp_region_any mixed ?_
 refine wpAny_of_sch (P := Tryz.prog) (isI := isI) (isS := isS) (hs := hs) (H := H) hR.a (K := fun a' w' => ∃ env', Fits N env' a' ∧ K env' w') (fun a' w' ⟨env', hf, ht⟩ => hQ a' env' w' hf ht) l.toArray.size _ (List.range l.toArray.size) a _ hw (by simp) (by simp) List.nodup_range (fun i => ?_) h'
 rw [List.mem_range]
 simp [Array.getD_eq_getD_getElem?, Array.getElem?_replicate]
 intro hi
 simp [hi]
end Rn
end Eng
end Go.Proofs.YtbpmlbjapapoaaaGreatDoor
namespace Go.Proofs.YtbpmlbjapapoaaaGreatDoor
open Go.RowKit
namespace Eng
namespace Rn
def St (w0 : Fm) (N m : Nat) (ρ : Pl) (e : En) (σ : Mem) (a : Act) (w : World) : Prop := ∃ ρ' env, Up ρ ρ' ∧ ER m ρ' e env ∧ MR w0 ρ' σ w ∧ Fits N env a
def exM : Ex → Exit → Prop
 | .nrm, .normal => True
 | .ext n, .exit k => n = k
 | .gto n, .goto k => n = k
 | .ret, .ret => True
 | _, _ => False
def Post (w0 : Fm) (N m : Nat) (ρ : Pl) (res : Rs) : Exit → Act → World → Prop := fun ex a w => ∃ x e σ, res = .mk x e σ ∧ exM x ex ∧ St w0 N m ρ e σ a w
theorem frOK_inv {hs : List Nat} {ops : Array Oper} {A : Array Nat} {f : Nat} {x : Fr0} (h : frOK hs ops A f = some x) : ∃ d op ty pos af pre post opre opost, ops[f]? = some ⟨some d, op, ty, pos, af, none⟩ ∧ isMk op = true ∧ readsT op d = false ∧ freeB hs ops A f post (List.range ops.size) pre = true ∧ opsAt ops.toList (pre.map Prod.fst) = some opre ∧ opsAt ops.toList post = some opost ∧ farF d op (opre.zip (pre.map Prod.snd)) = true ∧ x = ⟨hs, opre.zip (pre.map Prod.snd), d, ⟨some d, op, ty, pos, af, none⟩, opost⟩ := by
 unfold frOK at h
 split at h
 ·rename_i d op ty pos af hof
  split at h
  ·rename_i pre post hm hp
   rw [Bool.and_eq_true, Bool.not_eq_true'] at hm
   split at h
   ·rename_i opre opost h1 h2 h3
    split at h
    ·rename_i h4
     exact ⟨d, op, ty, pos, af, pre, post, opre, opost, hof, hm.1, hm.2, h1, h2, h3, h4, (Option.some.inj h).symm⟩
    ·cases h
   ·cases h
  ·cases h
 ·cases h
theorem cutR_free {ops : Array Oper} {x : Fr0} : ∀ {l : List Nat}, cutR ops l ≠ .free x
 | [], h => by cases h
 | q :: l, h => by
  have h' : cN q (fun k => (match seqOK2 isI isS (ldK ops k) k ops (Region.before ops) with
   | true => Rk.held k
   | false => cutR ops l : Rk)) = Rk.free x := h
  rw [cN_eq] at h'
  split at h'
  ·cases h'
  ·exact cutR_free h'
theorem findSome_mem {α β : Type} {f : α → Option β} {b : β} : ∀ {l : List α}, l.findSome? f = some b → ∃ a, f a = some b
 | [], h => by cases h
 | a :: l, h => by
  rw [List.findSome?_cons] at h
  split at h
  ·rename_i b' hb
   exact ⟨a, by rw [hb]; exact h⟩
  ·exact findSome_mem h
theorem zip_fst {α β : Type} : ∀ {l : List α} {m : List β}, l.length = m.length → (l.zip m).map Prod.fst = l
 | [], _, _ => rfl
 | _ :: _, [], h => by cases h
 | a :: l, b :: m, h => by rw [List.zip_cons_cons, List.map_cons, zip_fst (by simpa using h)]
theorem zip_snd {α β : Type} : ∀ {l : List α} {m : List β}, l.length = m.length → (l.zip m).map Prod.snd = m
 | [], [], _ => rfl
 | [], _ :: _, h => by cases h
 | _ :: _, [], h => by cases h
 | a :: l, b :: m, h => by rw [List.zip_cons_cons, List.map_cons, zip_snd (by simpa using h)]
theorem pick_cut {z y : Rk} {q : Bool} {f : Option Fr0} (hy : (match z with
 | .bad => match q with
  | true => match f with
   | some x => Rk.free x
   | none => .bad
  | false => .bad
 | x => x) = y) (h1 : ∀ x, y ≠ .free x) (h2 : y ≠ .bad) : z = y := by
 cases z with
 | bad =>
  cases q with
  | true =>
   cases f with
   | some x => exact absurd hy.symm (h1 x)
   | none => exact absurd hy.symm h2
  | false => exact absurd hy.symm h2
 | text => exact hy
 | held k => exact hy
 | free x => exact hy
section
variable {w0 : Fm} {N m : Nat} {ih : Cl} {res : Rs} (hr : res ≠ .no)
include hr
theorem sqK_inv {g : En → Mem → Rs} {r : Rs} (h : sqK g r = res) : ∃ x e σ, r = .mk x e σ ∧ ((x = .nrm ∧ g e σ = res) ∨ (x ≠ .nrm ∧ res = .mk x e σ)) := by
 cases r with
 | no => exact absurd h.symm hr
 | mk x e σ =>
  refine ⟨x, e, σ, rfl, ?_⟩
  cases x with
  | nrm => exact .inl ⟨rfl, h⟩
  | ext n => exact .inr ⟨fun hh => (by cases hh), h.symm⟩
  | gto n => exact .inr ⟨fun hh => (by cases hh), h.symm⟩
  | ret => exact .inr ⟨fun hh => (by cases hh), h.symm⟩
  | val v => exact absurd h.symm hr
omit hr in
theorem en_nil {ρ : Pl} {e : En} {env : Env} (hE : ER m ρ e env) : ER m ρ ⟨e.vs, [], [], []⟩ env := fun t x hx => by
 refine hE t x ?_
 unfold elk at hx ⊢
 cases hk : kept m t with
 | true => rw [hk] at hx; exact hx
 | false =>
  rw [hk] at hx
  have hx : alook t [] = some x := hx
  cases hx
theorem reg_run (hih : CallS w0 ih) {id : Nat} {ops : Array Oper} {drawn : Bool} {ρ : Pl} {e : En} {σ : Mem} {a : Act} {w : World} (hok : regOK N drawn ops = .text) (h : (regW m ops.toList ops.toList).f ih ⟨e.vs, [], [], []⟩ σ (fun e σ => .mk .nrm e σ) = res) (hS : St w0 N m ρ e σ a w) : (Code.region id ops drawn).wp Tryz.prog (Post w0 N m ρ res) a w := by
 obtain ⟨ρ1, env, hu, hE, hM, hf⟩ := hS
 have hE' := en_nil hE
 have hQ : ∀ a' w', (∃ env', Fits N env' a' ∧ Then w0 m ρ1 [] [] (fun e σ => .mk .nrm e σ) res env' w') → Post w0 N m ρ res .normal a' w' := fun a' w' hh => by
  obtain ⟨env', h1, e', σ', ρ', h2, _, _, h3, h4, h5⟩ := hh
  exact ⟨.nrm, e', σ', h2.symm, trivial, ρ', env', hu.trans h3, h4, h5, h1⟩
 unfold regOK at hok
 split at hok
 ·cases hok
 ·rename_i hd
  obtain ⟨hs, hd⟩ := dstOK_spec hd
  split at hok
  ·refine wp_region_ss' (isI := isI) (isS := isS) (hs := []) (H := Eng.noH) trivial hQ ?_
   have hx := s_reg hr hih (full := ops.toList) hE' hM h
   have := ss_of_xs (N := N) (full := ops) hs hd ops.toList 0 env a w (by simp) trivial hf (by simpa using hx)
   simpa [List.range_eq_range'] using this
  ·split at hok
   ·rename_i hsq
    refine wp_region_ss (isI := isI) (isS := isS) (hs := []) (H := Eng.noH) mixed trivial hsq hQ ?_
    have hx := s_reg hr hih (full := ops.toList) hE' (hM.ext (Fr.drew _ w)) h
    have := ss_of_xs (N := N) (full := ops) hs hd ops.toList 0 env a w.drew (by simp) trivial hf (by simpa using hx)
    simpa [List.range_eq_range'] using this
   ·exact absurd (pick_cut hok (fun _ hh => by cases hh) (fun hh => by cases hh)) cutR_text
theorem reg_runH (hih : CallS w0 ih) {id : Nat} {l : List Oper} {drawn : Bool} {ρ : Pl} {e : En} {σ : Mem} {a : Act} {w : World} {k : Nat} (hok : regOK N drawn l.toArray = .held k) (h : (regH m (ldK l.toArray k) l (l.take k)).f ih ⟨e.vs, [], [], []⟩ σ (finH m ih l (l.drop k) σ) = res) (hS : St w0 N m ρ e σ a w) : (Code.region id l.toArray drawn).wp Tryz.prog (Post w0 N m ρ res) a w := by
 obtain ⟨ρ1, env, hu, hE, hM, hf⟩ := hS
 have hE' := en_nil hE
 have hM' := hM.ext (Fr.drew _ w)
 obtain ⟨ef, σf, hres, _, _, hho⟩ := mono_H hr hih hE' hM' h
 unfold regOK at hok
 split at hok
 ·cases hok
 ·rename_i hd
  split at hok
  ·cases hok
  ·split at hok
   ·cases hok
   ·have hsq := cutR_inv (pick_cut hok (fun _ hh => by cases hh) (fun hh => by cases hh))
    refine wp_cut (K := Then w0 m ρ1 ef.hs ef.ms fin0 res) k (ldK l.toArray k) (HH ρ1 ef.hs) hd hsq (hold_at hM' (Up.refl ρ1) List.mem_cons_self hho) hf (fun a' env' w' h1 hh => ?_) ?_
    ·obtain ⟨e', σ', ρ', h2, _, _, h3, h4, h5⟩ := hh
     exact ⟨.nrm, e', σ', h2.symm, trivial, ρ', env', hu.trans h3, h4, h5, h1⟩
    ·refine xs_monoH (fun env' w' hh => ?_) (s_regH hr hih hres hho hM' (full := l) (l2 := l.drop k) (l := l.take k) (Up.refl ρ1) hE' hM' h)
     obtain ⟨e1, σ1, ρ', k1, k2, k3, k4⟩ := hh
     have hx := s_reg hr hih (full := l) k3 k4 k1
     obtain ⟨_, _, e2, σ2, _, q1, q2, q3, _⟩ := xs_someL hx
     have q1 : Rs.mk .nrm e2 σ2 = res := q1
     rw [hres] at q1
     injection q1 with _ q4 _
     refine xs_mono (fun env'' w'' hh => ?_) hx
     obtain ⟨e3, σ3, ρ3, r1, r2, r3, r4, r5, r6⟩ := hh
     exact ⟨e3, σ3, ρ3, r1, by rw [r2, ← q2, q4], by rw [r3, ← q3, q4], k2.trans r4, r5, r6⟩
theorem reg_runF (hih : ∀ F, CallS F ih) {id : Nat} {l : List Oper} {drawn : Bool} {ρ : Pl} {e : En} {σ : Mem} {a : Act} {w : World} {x : Fr0} (hok : regOK N drawn l.toArray = .free x) (h : (regF m x.hs l x.d x.pre).f ih ⟨e.vs, [], [], []⟩ σ (fun e' σ' => (orH m x.hs l x.f).f ih e' σ' fun e' σ' => (regH m x.hs l x.post).f ih e' σ' (finH m ih l [] σ)) = res) (hS : St w0 N m ρ e σ a w) : (Code.region id l.toArray drawn).wp Tryz.prog (Post w0 N m ρ res) a w := by
 obtain ⟨ρ1, env, hu, hE, hM, hf⟩ := hS
 have hE' := en_nil hE
 have hM' := hM.ext (Fr.drew _ w)
 obtain ⟨_, _, ea, σa, ρa, a1, _, a3, a4, _⟩ := dryF hr (hih w0) hE' hM' h
 obtain ⟨_, _, eb, σb, ρb, b1, _, b3, b4, _⟩ := dryH (l := [x.f]) hr (hih w0) a3 a4 a1
 obtain ⟨_, _, ef, σf, ρf, c1, _, c3, c4, _⟩ := dryH hr (hih w0) b3 b4 b1
 obtain ⟨c5, hho⟩ := ckA_inv hr (show ckA σ ef.ms ef.hs ((regW m l []).f ih ef σf fin0) = res from c1)
 have hres : res = .mk .nrm ef σf := c5.symm
 unfold regOK at hok
 split at hok
 ·cases hok
 ·rename_i hd
  split at hok
  ·cases hok
  ·split at hok
   ·cases hok
   ·split at hok
    ·split at hok
     ·rename_i hanc
      split at hok
      ·rename_i x' hfs
       injection hok with hok
       subst hok
       obtain ⟨f, hfr⟩ := findSome_mem hfs
       obtain ⟨d, op, ty, pos, af, pre, post, opre, opost, h1, h2, h3, h4, h5, h6, h7, h8⟩ := frOK_inv hfr
       subst h8
       have hlen : opre.length = (pre.map Prod.snd).length := by
        have := congrArg List.length (opsAt_map h5)
        simpa using this.symm
       refine wp_free (K := fun env' w' => ∃ e' σ' ρ', res = .mk .nrm e' σ' ∧ Up ρ1 ρ' ∧ ER m ρ' e' env' ∧ MR w0 ρ' σ' w') (ldK l.toArray l.toArray.size) (HH ρ1 ef.hs) hd hanc (hold_at hM' (Up.refl ρ1) List.mem_cons_self hho) hf (fun a' env' w' q1 hh => ?_) (fun hR => ?_)
       ·obtain ⟨e', σ', ρ', g1, g2, g3, g4⟩ := hh
        exact ⟨.nrm, e', σ', g1, trivial, ρ', env', hu.trans g2, g3, g4, q1⟩
       ·refine free_run hR h1 (opsAt_map h6) h4 (opre := opre.zip (pre.map Prod.snd)) (zip_snd hlen).symm (by rw [zip_fst hlen]; exact opsAt_map h5) ?_
        refine run_xf hr hih (fun F => Mono.fin hr (hih F) hres) hho hM' h2 h3 (fun env' w' e1 σ1 ρ' g1 g2 g3 g4 => ?_) h7 (Up.refl ρ1) hE' hM' h
        obtain ⟨g5, _⟩ := ckA_inv hr (show ckA σ e1.ms e1.hs ((regW m l []).f ih e1 σ1 fin0) = res from g1)
        exact ⟨e1, σ1, ρ', g5.symm, g2, g3, g4⟩
      ·cases hok
     ·cases hok
    ·exact absurd hok cutR_free
end
theorem exM_other {x : Ex} {ex : Exit} (h : exM x ex) (hx : x ≠ .nrm) (Q : Exit → Act → World → Prop) (K : Act → World → Prop) (a : Act) (w : World) (hq : Q ex a w) : Exit.then K Q ex a w := by
 cases ex with
 | normal => cases x <;> first | exact absurd rfl hx | cases h
 | _ => exact hq
theorem cod_run {w0 : Fm} {N m : Nat} {ih : Cl} (hih : ∀ F, CallS F ih) : ∀ (d : Nat) (c : Code) (n : Nat) (e : En) (σ : Mem) (res : Rs) (ρ : Pl) (a : Act) (w : World), res ≠ .no → (codW N m d c).f ih n e σ = res → St w0 N m ρ e σ a w → c.wp Tryz.prog (Post w0 N m ρ res) a w
 | 0, c, n, e, σ, res, ρ, a, w, hr, h, hS => absurd h.symm hr
 | d + 1, c, n, e, σ, res, ρ, a, w, hr, h, hS => by
  have IH := cod_run (w0 := w0) (N := N) (m := m) hih d
  cases c with
  | skip => exact wp_skip ⟨.nrm, e, σ, h.symm, trivial, hS⟩
  | label l => exact wp_label ⟨.nrm, e, σ, h.symm, trivial, hS⟩
  | exit id => exact wp_exit ⟨.ext id, e, σ, h.symm, rfl, hS⟩
  | goto l => exact wp_goto ⟨.gto l, e, σ, h.symm, rfl, hS⟩
  | ret => exact wp_ret ⟨.ret, e, σ, h.symm, trivial, hS⟩
  | region id ops drawn =>
   have h' : (match regOK N drawn ops with
    | .text => (⟨fun ih _ e σ => (regW m ops.toList ops.toList).f ih ⟨e.vs, [], [], []⟩ σ fun e σ => .mk .nrm e σ⟩ : Wc)
    | .held k => ⟨fun ih _ e σ => (regH m (ldK ops k) ops.toList (ops.toList.take k)).f ih ⟨e.vs, [], [], []⟩ σ fun e' σ' => ckA σ e'.ms e'.hs ((regW m ops.toList (ops.toList.drop k)).f ih e' σ' fun e σ => .mk .nrm e σ)⟩
    | .free x => ⟨fun ih _ e σ => (regF m x.hs ops.toList x.d x.pre).f ih ⟨e.vs, [], [], []⟩ σ fun e' σ' => (orH m x.hs ops.toList x.f).f ih e' σ' fun e' σ' => (regH m x.hs ops.toList x.post).f ih e' σ' fun e' σ' => ckA σ e'.ms e'.hs (.mk .nrm e' σ')⟩
    | .bad => noC).f ih n e σ = res := h
   split at h'
   ·rename_i hok
    exact reg_run hr (hih w0) hok h' hS
   ·rename_i hok
    exact reg_runH (l := ops.toList) hr (hih w0) hok h' hS
   ·rename_i hok
    exact reg_runF (l := ops.toList) hr hih hok h' hS
   ·exact absurd h'.symm hr
  | seq x y =>
   have h' : sqK ((codW N m d y).f ih n) ((codW N m d x).f ih n e σ) = res := h
   obtain ⟨x1, e1, σ1, h1, h2⟩ := sqK_inv hr h'
   refine wp_seq (wp_mono (IH x n e σ _ ρ a w (by rw [h1]; exact fun hh => by cases hh) rfl hS) ?_)
   rintro ex a' w' ⟨x2, e2, σ2, k1, k2, k3⟩
   rw [h1] at k1
   injection k1 with q1 q2 q3
   subst q1; subst q2; subst q3
   rcases h2 with ⟨rfl, h2⟩ | ⟨hx, h2⟩
   ·cases ex with
    | normal => exact IH y n e1 σ1 res ρ a' w' hr h2 k3
    | _ => cases k2
   ·exact exM_other k2 hx _ _ _ _ ⟨x1, e1, σ1, h2, k2, k3⟩
  | cond q x y =>
   have h' : (gtW m q).f e (fun q => onB q ((codW N m d x).f ih n e σ) ((codW N m d y).f ih n e σ)) = res := h
   have hS' := hS
   obtain ⟨ρ1, env, hu, hE, hM, hf⟩ := hS'
   obtain ⟨b, v, h1, h2, h3⟩ := gtW_inv hr hE h'
   rcases onB_inv hr h3 with ⟨rfl, h4⟩ | ⟨rfl, h4⟩
   ·have h2 : v = .bool true := h2
    subst h2
    exact wp_cond_true (hf.eval h1) (IH x n e σ res ρ a w hr h4 hS)
   ·have h2 : v = .bool false := h2
    subst h2
    exact wp_cond_false (hf.eval h1) (IH y n e σ res ρ a w hr h4 hS)
  | block id b =>
   have h' : blK id ((codW N m d b).f ih n e σ) = res := h
   generalize hr0 : (codW N m d b).f ih n e σ = r0 at h'
   have hr0n : r0 ≠ .no := fun hh => by rw [hh] at h'; exact hr h'.symm
   refine wp_block (wp_mono (IH b n e σ r0 ρ a w hr0n hr0 hS) ?_)
   rintro ex a' w' ⟨x2, e2, σ2, k1, k2, k3⟩
   subst k1
   cases x2 with
   | nrm =>
    cases ex with
    | normal => exact ⟨.nrm, e2, σ2, h'.symm, trivial, k3⟩
    | _ => cases k2
   | ext j =>
    cases ex with
    | exit k =>
     have k2 : j = k := k2
     subst k2
     have h'' : ifK (Nat.beq j id) (.mk .nrm e2 σ2) (.mk (.ext j) e2 σ2) = res := h'
     rw [ifK_eq] at h''
     show (if j = id then _ else _)
     split at h''
     ·rename_i hj
      rw [if_pos (Nat.eq_of_beq_eq_true hj)]
      exact ⟨.nrm, e2, σ2, h''.symm, trivial, k3⟩
     ·rename_i hj
      rw [if_neg (fun hh => hj (by rw [hh]; exact Nat.beq_refl id))]
      exact ⟨.ext j, e2, σ2, h''.symm, rfl, k3⟩
    | _ => cases k2
   | gto j =>
    cases ex with
    | goto k => exact ⟨.gto j, e2, σ2, h'.symm, k2, k3⟩
    | _ => cases k2
   | ret =>
    cases ex with
    | ret => exact ⟨.ret, e2, σ2, h'.symm, trivial, k3⟩
    | _ => cases k2
   | val v => cases k2
  | loop b =>
   have h' : lpK ((codW N m d b).f ih n) n e σ = res := h
   refine wp_loop_ghost (fun k a w => ∃ e σ, lpK ((codW N m d b).f ih n) k e σ = res ∧ St w0 N m ρ e σ a w) n ⟨e, σ, h', hS⟩ ?_
   rintro k a1 w1 ⟨e1, σ1, h1, hS1⟩
   cases k with
   | zero => exact absurd h1.symm hr
   | succ k =>
    have h1' : sqK (lpK ((codW N m d b).f ih n) k) ((codW N m d b).f ih n e1 σ1) = res := h1
    obtain ⟨x2, e2, σ2, h2, h3⟩ := sqK_inv hr h1'
    refine wp_mono (IH b n e1 σ1 _ ρ a1 w1 (by rw [h2]; exact fun hh => by cases hh) rfl hS1) ?_
    rintro ex a' w' ⟨x3, e3, σ3, k1, k2, k3⟩
    rw [h2] at k1
    injection k1 with q1 q2 q3
    subst q1; subst q2; subst q3
    rcases h3 with ⟨rfl, h3⟩ | ⟨hx, h3⟩
    ·cases ex with
     | normal => exact ⟨k, Nat.lt_succ_self k, e2, σ2, h3, k3⟩
     | _ => cases k2
    ·exact exM_other k2 hx _ _ _ _ ⟨x2, e2, σ2, h3, k2, k3⟩
  | scope b =>
   have h' : scpK (fun l => (lbW (codW N m d) b l).f ih n) n ((codW N m d b).f ih n e σ) = res := h
   have fin : ∀ (k : Nat) (x2 : Ex) (e2 : En) (σ2 : Mem), scpK (fun l => (lbW (codW N m d) b l).f ih n) k (.mk x2 e2 σ2) = res → (∃ l k', x2 = .gto l ∧ k = k' + 1 ∧ scpK (fun l => (lbW (codW N m d) b l).f ih n) k' ((lbW (codW N m d) b l).f ih n e2 σ2) = res) ∨ (res = .mk x2 e2 σ2 ∧ ∀ l, x2 ≠ .gto l) := fun k x2 e2 σ2 hh => by
    cases k with
    | zero => exact absurd hh.symm hr
    | succ k =>
     cases x2 with
     | gto l => exact .inl ⟨l, k, rfl, rfl, hh⟩
     | nrm => exact .inr ⟨hh.symm, fun l hl => by cases hl⟩
     | ext j => exact .inr ⟨hh.symm, fun l hl => by cases hl⟩
     | ret => exact .inr ⟨hh.symm, fun l hl => by cases hl⟩
     | val v => exact absurd hh.symm hr
   have hno : ∀ k, scpK (fun l => (lbW (codW N m d) b l).f ih n) k .no ≠ res := fun k hh => by
    cases k <;> exact hr hh.symm
   have hlb : ∀ l k e2 σ2, scpK (fun l => (lbW (codW N m d) b l).f ih n) k ((lbW (codW N m d) b l).f ih n e2 σ2) = res → ∃ rest, findLabel b l = some rest ∧ (lbW (codW N m d) b l).f ih n e2 σ2 = (codW N m d rest).f ih n e2 σ2 ∧ (codW N m d rest).f ih n e2 σ2 ≠ .no := fun l k e2 σ2 hh => by
    cases hf : findLabel b l with
    | none =>
     have : (lbW (codW N m d) b l).f ih n e2 σ2 = .no := by
      unfold lbW
      rw [hf]
     rw [this] at hh
     exact absurd hh (hno k)
    | some rest =>
     have he : (lbW (codW N m d) b l).f ih n e2 σ2 = (codW N m d rest).f ih n e2 σ2 := by
      unfold lbW
      rw [hf]
     refine ⟨rest, rfl, he, fun h0 => ?_⟩
     rw [he, h0] at hh
     exact hno k hh
   refine wp_scope_labels (fun l k a w => ∃ e2 σ2, scpK (fun l => (lbW (codW N m d) b l).f ih n) k ((lbW (codW N m d) b l).f ih n e2 σ2) = res ∧ St w0 N m ρ e2 σ2 a w) ?_ ?_ ?_
   ·rintro l k a1 w1 ⟨e2, σ2, h1, _⟩
    obtain ⟨rest, hf, _⟩ := hlb l k e2 σ2 h1
    exact ⟨rest, hf⟩
   ·have hr0n : (codW N m d b).f ih n e σ ≠ .no := fun hh => by rw [hh] at h'; exact hno n h'
    refine wp_mono (IH b n e σ _ ρ a w hr0n rfl hS) ?_
    rintro ex a' w' ⟨x2, e2, σ2, k1, k2, k3⟩
    rw [k1] at h'
    rcases fin n x2 e2 σ2 h' with ⟨l, k', rfl, _, h2⟩ | ⟨h2, h3⟩
    ·cases ex with
     | goto j =>
      have k2 : l = j := k2
      subst k2
      exact ⟨k', e2, σ2, h2, k3⟩
     | _ => cases k2
    ·cases ex with
     | goto j => cases x2 <;> first | exact absurd rfl (h3 _) | cases k2
     | _ => exact ⟨x2, e2, σ2, h2, k2, k3⟩
   ·rintro k l rest a1 w1 hf ⟨e1, σ1, h1, hS1⟩
    obtain ⟨rest', hf', he, hn0⟩ := hlb l k e1 σ1 h1
    rw [hf] at hf'
    obtain rfl := Option.some.inj hf'
    rw [he] at h1
    refine wp_mono (IH rest n e1 σ1 _ ρ a1 w1 hn0 rfl hS1) ?_
    rintro ex a' w' ⟨x2, e2, σ2, k1, k2, k3⟩
    rw [k1] at h1
    rcases fin k x2 e2 σ2 h1 with ⟨l', k', rfl, hk, h2⟩ | ⟨h2, h3⟩
    ·cases ex with
     | goto j =>
      have k2 : l' = j := k2
      subst k2
      exact ⟨k', by omega, e2, σ2, h2, k3⟩
     | _ => cases k2
    ·cases ex with
     | goto j => cases x2 <;> first | exact absurd rfl (h3 _) | cases k2
     | _ => exact ⟨x2, e2, σ2, h2, k2, k3⟩
  | _ => exact absurd h.symm hr
end Rn
end Eng
end Go.Proofs.YtbpmlbjapapoaaaGreatDoor
namespace Go.Proofs.YtbpmlbjapapoaaaGreatDoor
open Go.RowKit
namespace Eng
namespace Rn
theorem look_arg : ∀ (l : List Value) (n t : Nat) (v : Value), n ≤ t → l[t - n]? = some v → look (argEnv n l) t = some v
 | [], n, t, v, _, h => by cases h
 | x :: l, n, t, v, hn, h => by
  show look ((n, x) :: argEnv (n + 1) l) t = some v
  rw [look_cons]
  by_cases ht : n = t
  ·subst ht
   rw [if_pos rfl]
   rw [Nat.sub_self] at h
   exact h
  ·rw [if_neg ht]
   refine look_arg l (n + 1) t v (by omega) ?_
   rw [show t - n = t - (n + 1) + 1 by omega] at h
   exact h
theorem ARs.get {ρ : Pl} {l : List AV} {vs : List Value} (h : ARs ρ l vs) : ∀ (i : Nat) x, l[i]? = some x → ∃ v, vs[i]? = some v ∧ AR ρ x v := by
 induction h with
 | nil => intro i x hx; cases hx
 | cons h1 _ ih =>
  intro i x hx
  cases i with
  | zero => injection hx with hx; subst hx; exact ⟨_, rfl, h1⟩
  | succ i => exact ih i x hx
theorem ARs.len {ρ : Pl} {l : List AV} {vs : List Value} (h : ARs ρ l vs) : vs.length = l.length := by
 induction h with
 | nil => rfl
 | cons _ _ ih => simp [ih]
noncomputable def paL (m : Nat) (l : List AV) (k : Nat) (c : AEnv → Rs) : Rs := List.rec (motive := fun _ => Nat → (AEnv → Rs) → Rs) (fun _ c => c []) (fun x _ ih k c => fN (Nat.add k 1) fun k' => ih k' fun r => ifK (kept m k) (c ((k, x) :: r)) (c r)) l k c
theorem paL_inv {m : Nat} {res : Rs} : ∀ {l : List AV} {k : Nat} {c : AEnv → Rs}, paL m l k c = res → ∃ env, c env = res ∧ ∀ t a, alook t env = some a → k ≤ t ∧ l[t - k]? = some a
 | [], k, c, h => ⟨[], h, fun t a ha => by cases ha⟩
 | x :: l, k, c, h => by
  have h' : fN (Nat.add k 1) (fun k' => paL m l k' fun r => ifK (kept m k) (c ((k, x) :: r)) (c r)) = res := h
  rw [fN_eq] at h'
  obtain ⟨env, h1, h2⟩ := paL_inv h'
  rw [ifK_eq] at h1
  have hold : ∀ t a, alook t env = some a → k ≤ t ∧ (x :: l)[t - k]? = some a := fun t a ha => by
   obtain ⟨g1, g2⟩ := h2 t a ha
   have g1 : k + 1 ≤ t := g1
   have g2 : l[t - (k + 1)]? = some a := g2
   refine ⟨by omega, ?_⟩
   rw [show t - k = t - (k + 1) + 1 by omega]
   exact g2
  split at h1
  ·refine ⟨_, h1, fun t a ha => ?_⟩
   simp only [alook] at ha
   split at ha
   ·rename_i hkt
    subst hkt
    obtain rfl := Option.some.inj ha
    exact ⟨Nat.le_refl _, by simp⟩
   ·exact hold t a ha
  ·exact ⟨env, h1, hold⟩
theorem ld_one {t : TypeId} {p : Addr} {v : Value} {w : World} (ht : one t = true) (hc : w.cell? p = some v) : (loadVar t p).run Tryz.prog w = .ok v w := by
 simp [loadVar, isAgg_one ht, load, Sem.run, hc]
section
variable {w0 : Fm} {m : Nat} {ih : Cl} {e : En} {σ : Mem} {res : Rs} {ρ : Pl} {env : Env} {w : World} (hr : res ≠ .no)
include hr
theorem reW_inv {N : Nat} {a : Act} (hE : ER m ρ e env) (hM : MR w0 ρ σ w) (hf : Fits N env a) {r : ResultVar} {k : AV → Rs} (h : (reW m r).f e σ k = res) : ∃ x v, AR ρ x v ∧ k x = res ∧ ((match r with
  | .tmp t => pure (a.tmps.getD t undef)
  | .cell p t => do loadVar t (← asAddr (a.tmps.getD p undef)) : Sem Value)).run Tryz.prog w = .ok v w := by
 cases r with
 | tmp t =>
  obtain ⟨x, h1, h2⟩ := gtT_inv hr (show (gtT m t).f e k = res from h)
  obtain ⟨v, h3, h4⟩ := hE t x h1
  refine ⟨x, v, h4, h2, ?_⟩
  have := hf.2.2 t v h3
  simp [Array.getD_eq_getD_getElem?, this]
 | cell p t =>
  have hp : ∀ id o, ∀ pv, look env p = some pv → SR ρ (.p id o) pv → ∃ q, ρ[id]? = some q ∧ (asAddr (a.tmps.getD p undef)).run Tryz.prog w = .ok ⟨q.b, o, none⟩ w := fun id o pv h1 h2 => by
   obtain ⟨q, h3, rfl⟩ := h2
   refine ⟨q, h3, ?_⟩
   have := hf.2.2 p _ h1
   simp [Array.getD_eq_getD_getElem?, this, asAddr]
  unfold reW at h
  simp only at h
  split at h
  ·rename_i ho
   obtain ⟨x, h1, h2⟩ := gtT_inv hr h
   obtain ⟨pv, h3, h4⟩ := hE p x h1
   obtain ⟨id, o, e0, h5⟩ := onP_inv hr h2
   obtain ⟨ob, h6, h7⟩ := obK_inv hr h5
   obtain ⟨y, h8, h9⟩ := getK_inv hr h7
   subst e0
   obtain ⟨q, h10, h11⟩ := hp id o pv h3 h4
   obtain ⟨v, h12, h13, _⟩ := hM.cell (cget_iff.2 ⟨ob, h6, h8⟩) h10
   refine ⟨.v y, v, h13.2, h9, ?_⟩
   show ((asAddr (a.tmps.getD p undef)) >>= fun q => loadVar t q).run Tryz.prog w = _
   rw [Sem.run_bind, h11, Result.andThen_ok]
   exact ld_one ho h12
  ·split at h
   ·rename_i n hn
    rw [cN_eq] at h
    obtain ⟨x, h1, h2⟩ := gtT_inv hr h
    obtain ⟨pv, h3, h4⟩ := hE p x h1
    obtain ⟨id, o, e0, h5⟩ := onP_inv hr h2
    obtain ⟨ob, l, h6, h7, h8, h9⟩ := rdK_inv hr h5
    subst e0
    obtain ⟨q, h10, h11⟩ := hp id o pv h3 h4
    obtain ⟨vs, h12, h13⟩ := hM.cells h10 (l := l) (o := o) (fun i hi => h8 i (by omega))
    refine ⟨.g l, .agg vs.toArray, ⟨vs, h12, rfl⟩, h9, ?_⟩
    have := ld_agg (w := w) (t := t) (b := q.b) (o := o) (cs := vs) (by rw [h12.len, h7]; exact hn) (fun j u hu => (h13 j u hu).1)
    show ((asAddr (a.tmps.getD p undef)) >>= fun q => loadVar t q).run Tryz.prog w = _
    rw [Sem.run_bind, h11, Result.andThen_ok]
    exact this
   ·exact absurd h.symm hr
def resF (tmps : Array Value) : ResultVar → Sem Value := fun
 | .tmp t => pure (tmps.getD t undef)
 | .cell p t => do loadVar t (← asAddr (tmps.getD p undef))
theorem resW_inv {N : Nat} {a : Act} (hE : ER m ρ e env) (hM : MR w0 ρ σ w) (hf : Fits N env a) : ∀ {l : List ResultVar} {k : List AV → Rs}, (resW m l).f e σ k = res → ∃ al vs, ARs ρ al vs ∧ k al = res ∧ (l.mapM (resF a.tmps)).run Tryz.prog w = .ok vs w
 | [], k, h => ⟨[], [], .nil, h, by simp⟩
 | r :: l, k, h => by
  obtain ⟨x, v, h1, h2, h3⟩ := reW_inv hr hE hM hf (show (reW m r).f e σ (fun v => (resW m l).f e σ fun l => k (v :: l)) = res from h)
  obtain ⟨al, vs, h4, h5, h6⟩ := resW_inv hE hM hf h2
  refine ⟨x :: al, v :: vs, .cons h1 h4, h5, ?_⟩
  have h3' : (resF a.tmps r).run Tryz.prog w = .ok v w := by
   cases r <;> exact h3
  simp [List.mapM_cons, h3', h6]
theorem tuK_inv : ∀ {l : List AV} {vs : List Value} {k : List TV → Rs}, tuK l k = res → ARs ρ l vs → ∃ tl, TRs ρ tl vs ∧ k tl = res
 | [], vs, k, h, ha => by
  cases ha
  exact ⟨[], .nil, h⟩
 | x :: l, vs, k, h, ha => by
  cases ha with
  | cons h1 h2 =>
   rcases onV_inv hr (show onV x (fun x => tuK l fun l => k (.v x :: l)) (fun g => tuK l fun l => k (.g g :: l)) = res from h) with ⟨y, rfl, h3⟩ | ⟨g, rfl, h3⟩
   ·obtain ⟨tl, h4, h5⟩ := tuK_inv h3 h2
    exact ⟨.v y :: tl, .cons h1 h4, h5⟩
   ·obtain ⟨tl, h4, h5⟩ := tuK_inv h3 h2
    exact ⟨.g g :: tl, .cons h1 h4, h5⟩
theorem toK_inv {l : List AV} {vs : List Value} (h : toK e σ l = res) (ha : ARs ρ l vs) : ∃ v, res = .mk (.val v) e σ ∧ AR ρ v (if h : vs.toArray.size = 1 then vs.toArray[0] else .tuple vs.toArray) := by
 cases ha with
 | nil => exact ⟨.t [], h.symm, [], .nil, rfl⟩
 | cons h1 h2 =>
  rename_i x v l vs
  cases h2 with
  | nil => exact ⟨x, h.symm, h1⟩
  | cons h3 h4 =>
   rename_i y v' l vs
   obtain ⟨tl, h5, h6⟩ := tuK_inv hr (show tuK (x :: y :: l) (fun l => .mk (.val (.t l)) e σ) = res from h) (.cons h1 (.cons h3 h4))
   exact ⟨.t tl, h6.symm, _, h5, by simp⟩
theorem reK_inv {ws : Wrs} {r : Rs} (h : reK ws r = res) : ∃ x e σ, r = .mk x e σ ∧ (x = .nrm ∨ x = .ret) ∧ ws.f e σ (fun l => toK e σ l) = res := by
 cases r with
 | no => exact absurd h.symm hr
 | mk x e σ =>
  cases x with
  | nrm => exact ⟨_, _, _, rfl, .inl rfl, h⟩
  | ret => exact ⟨_, _, _, rfl, .inr rfl, h⟩
  | _ => exact absurd h.symm hr
end
theorem nthF_mem : ∀ {l : List (Nat × Fe)} {f : Nat} {x : Fe}, nthF l f = some x → (f, x) ∈ l
 | [], f, x, h => by cases h
 | y :: l, f, x, h => by
  have h' : (match Nat.beq y.1 f with
   | true => some y.2
   | false => nthF l f) = some x := h
  split at h'
  ·rename_i hb
   obtain rfl := Option.some.inj h'
   have := Nat.eq_of_beq_eq_true hb
   subst this
   exact List.mem_cons_self
  ·exact List.mem_cons_of_mem _ (nthF_mem h')
def OrcS (f : Nat) (o : List AV → Mem → Rs) : Prop := ∀ (w0 : Fm) al σ v e' σ' (ρ : Pl) vs w, o al σ = .mk (.val v) e' σ' → ARs ρ al vs → MR w0 ρ σ w → Does Tryz.prog f vs.toArray w (fun val w' => ∃ ρ', Up ρ ρ' ∧ AR ρ' v val ∧ MR w0 ρ' σ' w')
def FeOK (f : Nat) : Fe → Prop
 | .code fn _ => Tryz.prog.funcs[f]? = some fn
 | .orc o => OrcS f o
def TabOK (tab : List (Nat × Fe)) : Prop := ∀ x ∈ tab, FeOK x.1 x.2
theorem run_sound {tab : List (Nat × Fe)} (ht : TabOK tab) : ∀ n (w0 : Fm), CallS w0 (run tab n)
 | 0, w0 => fun f al σ v e' σ' ρ vs w h _ _ => by cases h
 | n + 1, w0 => fun f al σ v e' σ' ρ vs w h ha hM => by
  have IH := run_sound ht n
  have hr : (Rs.mk (.val v) e' σ') ≠ .no := fun hh => by cases hh
  have h' : (fnW (nthF tab f)).f (run tab n) al σ = .mk (.val v) e' σ' := h
  unfold fnW at h'
  split at h'
  ·rename_i fn m hnth
   have hf : Tryz.prog.funcs[f]? = some fn := ht _ (nthF_mem hnth)
   split at h'
   ·rename_i c hc
    obtain ⟨hlen, h1⟩ := okK_inv h' hr
    have hlen := Nat.le_of_ble_eq_true hlen
    have h1' : paL m al 0 (fun l => reK (resW m fn.results.toList) ((codW fn.ntmps m 1000 c).f (run tab n) lF ⟨l, [], [], []⟩ σ)) = .mk (.val v) e' σ' := h1
    obtain ⟨l, h2, h3⟩ := paL_inv h1'
    obtain ⟨x, e1, σ1, h4, h5, h6⟩ := reK_inv hr h2
    have hE : ER m ρ ⟨l, [], [], []⟩ (argEnv 0 vs) := fun t a hta => by
     unfold elk at hta
     cases hk : kept m t with
     | true =>
      rw [hk] at hta
      obtain ⟨_, g2⟩ := h3 t a hta
      obtain ⟨u1, g3, g4⟩ := ha.get _ a g2
      exact ⟨u1, look_arg vs 0 t u1 (Nat.zero_le _) g3, g4⟩
     | false =>
      rw [hk] at hta
      have hta : alook t [] = some a := hta
      cases hta
    have hfit : Fits fn.ntmps (argEnv 0 vs) { tmps := vs.toArray ++ Array.replicate (fn.ntmps - vs.toArray.size) undef, defers := [] } :=
     fits_args (by simpa [ha.len] using hlen) fun t v hl => by simpa using (look_argEnv vs 0 t v hl).2
    refine calls_of_wp hf hc (wp_mono (cod_run (N := fn.ntmps) (m := m) IH 1000 c lF ⟨l, [], [], []⟩ σ _ ρ _ w (by rw [h4]; exact fun hh => by cases hh) rfl ⟨ρ, _, Up.refl ρ, hE, hM, hfit⟩) ?_)
    rintro ex a' w' ⟨x2, e2, σ2, k1, k2, ρ', env', k3, k4, k5, k6⟩
    rw [h4] at k1
    injection k1 with q1 q2 q3
    subst q1; subst q2; subst q3
    obtain ⟨al', vs', r1, r2, r3⟩ := resW_inv hr k4 k5 k6 h6
    obtain ⟨v', r4, r5⟩ := toK_inv hr r2 r1
    injection r4 with q1 q2 q3
    injection q1 with q1
    subst q1; subst q2; subst q3
    have hres : (results fn a'.tmps).run Tryz.prog w' = .ok (if h : vs'.toArray.size = 1 then vs'.toArray[0] else .tuple vs'.toArray) w' := by
     have e1 : results fn a'.tmps = (do
      let vs ← fn.results.mapM (resF a'.tmps)
      pure (if h : vs.size = 1 then vs[0] else .tuple vs)) := rfl
     rw [e1, Array.mapM_eq_mapM_toList]
     simp [r3]
    have fin : a'.defers = [] ∧ ∃ vv, (results fn a'.tmps).run Tryz.prog w' = .ok vv w' ∧ Ret (fun val w' => ∃ ρ', Up ρ ρ' ∧ AR ρ' v val ∧ MR w0 ρ' σ' w') (.returned vv) w' := ⟨k6.1, _, hres, _, rfl, ρ', k3, r5, k5⟩
    rcases h5 with rfl | rfl
    ·cases ex with
     | normal => exact fin
     | _ => cases k2
    ·cases ex with
     | ret => exact fin
     | _ => cases k2
   ·cases h'
  ·rename_i o hnth
   have ho : OrcS f o := ht _ (nthF_mem hnth)
   exact ho w0 al σ v e' σ' ρ vs w h' ha hM
  ·cases h'
theorem told_run {tab : List (Nat × Fe)} (ht : TabOK tab) {n f : Nat} (h : ok (run tab n f [] ⟨0, .nil, []⟩) = true) (w : World) : Does Tryz.prog f #[] w (fun v w' => v = .bool true ∧ Ext w w') := by
 generalize hres : run tab n f [] ⟨0, .nil, []⟩ = r at h
 cases r with
 | no => cases h
 | mk x e σ =>
  cases x with
  | val v =>
   cases v with
   | v v =>
    cases v with
    | b q =>
     have h : q = true := h
     subst h
     have hM : MR ⟨noneB, w⟩ [] ⟨0, .nil, []⟩ w := {
      len := rfl
      blk := fun id ob h1 _ => by
       have : oget ⟨0, .nil, []⟩ id = none := tget_nil _ _
       rw [this] at h1; cases h1
      old := Fr.refl _ _
      far := fun id o p _ hp => by cases hp
      pre := fun id ob h1 => by
       have : oget ⟨0, .nil, []⟩ id = none := tget_nil _ _
       rw [this] at h1; cases h1
      apart := fun id id' o o' p p' _ _ _ hp => by cases hp
      mps := Mps.nil _ _ _ }
     have := run_sound ht n ⟨noneB, w⟩ f [] ⟨0, .nil, []⟩ _ e σ [] [] w hres .nil hM
     refine Does.mono this fun v w' hh => ?_
     obtain ⟨ρ', _, h2, h3⟩ := hh
     exact ⟨h2, h3.old⟩
    | _ => cases h
   | _ => cases h
  | _ => cases h
end Rn
end Eng
end Go.Proofs.YtbpmlbjapapoaaaGreatDoor
namespace Go.Proofs.YtbpmlbjapapoaaaGreatDoor.Eng
open Go.RowKit
section
def hmayGo : List Int → Int → Int → Bool
 | [], codes, sum => if codes = 1 then decide (sum = 2048) else decide (codes = 0) || decide (sum = 4096)
 | n :: r, codes, sum => if n < 0 ∨ 12 < n then false else if 0 < n then hmayGo r (codes + 1) (sum + p2 (12 - n)) else hmayGo r codes sum
def mayB (zs : List Int) : Bool := decide (zs.length ≤ 400) && hmayGo zs 0 0
structure MayI (zs : List Int) (w0 : World) (x : Nat × Int × Int) (w : World) : Prop where
 w : w = w0
 len : zs.length ≤ 400
 k : x.1 ≤ zs.length
 c0 : 0 ≤ x.2.1
 c1 : x.2.1 ≤ x.1
 s0 : 0 ≤ x.2.2
 s1 : x.2.2 ≤ 4096 * x.1
 go : hmayGo (zs.drop x.1) x.2.1 x.2.2 = hmayGo zs 0 0
theorem hmayGo_nil (c s : Int) : hmayGo [] c s = if c = 1 then decide (s = 2048) else decide (c = 0) || decide (s = 4096) := rfl
theorem hmayGo_cons (n : Int) (r : List Int) (c s : Int) : hmayGo (n :: r) c s = if n < 0 ∨ 12 < n then false else if 0 < n then hmayGo r (c + 1) (s + p2 (12 - n)) else hmayGo r c s := rfl
theorem hmay_does (w : World) (v : Value) (zs : List Int) (hv : IRow w v zs) : Does Tryz.prog 199 #[v] w fun r w' => r = .bool (mayB zs) ∧ w = w' := by
 obtain ⟨A, c, rfl, hc, hcm, hA⟩ := hv
 unfold maxLen at hcm
 refine does1 Tryz.func199 rfl (by kernel_rfl) ?_
 refine wk ?_
 refine tscope1 (α := Nat × Int × Int) 0 rfl (fun x => [(0, .slice A zs.length c), (3, .int .i64 (x.1 : Int)), (4, .int .i64 x.2.1), (5, .int .i64 x.2.2)])
  (MayI zs w) (fun x => zs.length - x.1) ?_ ?_
 ·rintro ⟨k, cd, sm⟩ w' ⟨rfl, h4, hk, hc0, hc1, hs0, hs1, hgo⟩
  dsimp only at h4 hk hc0 hc1 hs0 hs1 hgo ⊢
  by_cases hlt : k < zs.length
  ·obtain ⟨b, o, z, rfl, hb, hz, hcell, hdrop⟩ := at_row hA hlt
   rw [hdrop, hmayGo_cons] at hgo
   by_cases h0 : z < 0 ∨ 12 < z
   ·rw [if_pos h0] at hgo
    repeat' (first | refine wk1 ?_ | refine xcs rfl rfl rfl (fun hc => ?_) (fun hc => ?_) | fail)
    all_goals first | omega | exact tret1 rfl rfl ⟨by simp [mayB, ← hgo], rfl⟩
   ·rw [if_neg h0] at hgo
    by_cases h1 : 0 < z
    ·rw [if_pos h1] at hgo
     have hp := p2_pos (12 - z)
     have hp' : p2 (12 - z) ≤ 2 ^ 12 := p2_le (by omega)
     refine wk ?_
     refine xshl (r := p2 (12 - z)) rfl rfl (by omega) (by simp [IntKind.bits]; omega) (by rw [Int.one_mul]; exact IntWalk.i64_in _ (by unfold p2 at *; omega)) ?_
     refine wk ?_
     exact tgoto rfl ⟨_, by dsimp only; omega, rfl, (k + 1, cd + 1, sm + p2 (12 - z)), sub ⟨rfl, rfl, rfl, rfl⟩, ⟨rfl, h4, by dsimp only; omega, by dsimp only; omega, by dsimp only; omega, by dsimp only; omega, by dsimp only; omega, hgo⟩, rfl⟩
    ·rw [if_neg h1] at hgo
     refine wk ?_
     exact tgoto rfl ⟨_, by dsimp only; omega, rfl, (k + 1, cd, sm), sub ⟨rfl, rfl, rfl, rfl⟩, ⟨rfl, h4, by dsimp only; omega, by dsimp only; omega, by dsimp only; omega, by dsimp only; omega, by dsimp only; omega, hgo⟩, rfl⟩
  ·rw [List.drop_eq_nil_of_le (by omega), hmayGo_nil] at hgo
   have hm : mayB zs = if cd = 1 then decide (sm = 2048) else decide (cd = 0) || decide (sm = 4096) := by rw [hgo]; simp [mayB, h4]
   repeat' (first | refine wk1 ?_ | refine xcs rfl rfl rfl (fun hc => ?_) (fun hc => ?_) | fail)
   all_goals exact tret1 rfl rfl ⟨by rw [hm]; simp [*], rfl⟩
 ·intro H
  repeat' (first | refine wk1 ?_ | refine xcs rfl rfl rfl (fun hc => ?_) (fun hc => ?_) | fail)
  ·exact tret1 rfl rfl ⟨by simp [mayB]; omega, rfl⟩
  ·refine tlabel ?_
   exact tweak (H (0, 0, 0) w ⟨rfl, by omega, by simp, by simp, by simp, by simp, by simp, by simp⟩) (sub ⟨rfl, rfl, rfl, rfl⟩)
end
section
end
section
end
section
def minL (zs : List Int) : Int := zs.tail.foldl min (zs.headD 0)
def maxL (zs : List Int) : Int := zs.tail.foldl max (zs.headD 0)
structure FoldI (f : Int → Int → Int) (zs : List Int) (w0 : World) (k : Nat) (w : World) : Prop where
 w : w = w0
 k1 : 1 ≤ k
 le : k ≤ zs.length
theorem foldl_take_succ (f : Int → Int → Int) (zs : List Int) (a : Int) (k : Nat) (z : Int) (hk : 1 ≤ k) (hz : zs[k]? = some z) : f ((zs.tail.take (k - 1)).foldl f a) z = (zs.tail.take k).foldl f a := by
 obtain ⟨j, rfl⟩ : ∃ j, k = j + 1 := ⟨k - 1, by omega⟩
 rw [Nat.add_sub_cancel]
 cases zs with
 | nil => simp at hz
 | cons y r =>
  simp only [List.tail_cons, List.getElem?_cons_succ] at hz ⊢
  rw [List.take_add_one, hz]; simp
theorem min_does (w : World) (v : Value) (zs : List Int) (hv : IRow w v zs) (hn : 0 < zs.length) (hl : zs.length ≤ 2 ^ 40) :
  Does Tryz.prog 195 #[v] w fun r w' => r = .int .i64 (minL zs) ∧ w = w' := by
 obtain ⟨A, c, rfl, hc, hcm, hA⟩ := hv
 obtain ⟨b, o, z, rfl, hb, hz, hcell, _⟩ := at_row hA hn
 have hh : zs.headD 0 = z := by cases zs with
  | nil => simp at hz
  | cons y r => simpa using hz
 rw [Nat.add_zero] at hcell
 refine does1 Tryz.func195 rfl (by kernel_rfl) ?_
 refine wk ?_
 refine tloop (α := Nat) (fun k => [(0, .slice (some ⟨b, o, none⟩) zs.length c), (3, .int .i64 ((zs.tail.take (k - 1)).foldl min z)), (4, .int .i64 (k : Int))]) (FoldI min zs w) (fun k => zs.length - k) 1 (sub ⟨rfl, by simp [look], rfl⟩) ⟨rfl, by omega, by omega⟩ ?_
 rintro k w' ⟨rfl, h1, hle⟩
 by_cases hlt : k < zs.length
 ·obtain ⟨b', o', z', e, hb', hz', hcell', _⟩ := at_row hA hlt
  injection e with e; injection e with e1 e2; subst e1; subst e2
  refine wk ?_
  refine xmin rfl rfl ?_
  rw [foldl_take_succ min zs z k z' h1 hz']
  refine wk ?_
  exact tfin ⟨k + 1, sub ⟨rfl, rfl, rfl⟩, ⟨rfl, by omega, by omega⟩, by dsimp only; omega⟩
 ·obtain rfl : k = zs.length := by omega
  refine wk ?_
  refine tret1 rfl rfl ⟨?_, rfl⟩
  unfold minL
  rw [hh, List.take_of_length_le (by simp)]
theorem max_does (w : World) (v : Value) (zs : List Int) (hv : IRow w v zs) (hn : 0 < zs.length) (hl : zs.length ≤ 2 ^ 40) :
  Does Tryz.prog 196 #[v] w fun r w' => r = .int .i64 (maxL zs) ∧ w = w' := by
 obtain ⟨A, c, rfl, hc, hcm, hA⟩ := hv
 obtain ⟨b, o, z, rfl, hb, hz, hcell, _⟩ := at_row hA hn
 have hh : zs.headD 0 = z := by cases zs with
  | nil => simp at hz
  | cons y r => simpa using hz
 rw [Nat.add_zero] at hcell
 refine does1 Tryz.func196 rfl (by kernel_rfl) ?_
 refine wk ?_
 refine tloop (α := Nat) (fun k => [(0, .slice (some ⟨b, o, none⟩) zs.length c), (3, .int .i64 ((zs.tail.take (k - 1)).foldl max z)), (4, .int .i64 (k : Int))]) (FoldI max zs w) (fun k => zs.length - k) 1 (sub ⟨rfl, by simp [look], rfl⟩) ⟨rfl, by omega, by omega⟩ ?_
 rintro k w' ⟨rfl, h1, hle⟩
 by_cases hlt : k < zs.length
 ·obtain ⟨b', o', z', e, hb', hz', hcell', _⟩ := at_row hA hlt
  injection e with e; injection e with e1 e2; subst e1; subst e2
  refine wk ?_
  refine xmax rfl rfl ?_
  rw [foldl_take_succ max zs z k z' h1 hz']
  refine wk ?_
  exact tfin ⟨k + 1, sub ⟨rfl, rfl, rfl⟩, ⟨rfl, by omega, by omega⟩, by dsimp only; omega⟩
 ·obtain rfl : k = zs.length := by omega
  refine wk ?_
  refine tret1 rfl rfl ⟨?_, rfl⟩
  unfold maxL
  rw [hh, List.take_of_length_le (by simp)]
end
section
def manyB (zs : List Int) (l : Nat) : Nat := if l = 0 then 0 else zs.count (l : Int)
def firstB (zs : List Int) : Nat → Nat
 | 0 => 0
 | l + 1 => (firstB zs l + manyB zs l) * 2
def tabL (f m : Nat → Nat) : List Value := (List.range 13).map (fun l => Value.int .u64 (f l : Int)) ++ (List.range 13).map (fun l => Value.int .u64 (m l : Int))
def tabA (f m : Nat → Nat) : Array Value := (tabL f m).toArray
def updF (f : Nat → Nat) (n v : Nat) : Nat → Nat := fun l => if l = n then v else f l
theorem size_tabA (f m : Nat → Nat) : (tabA f m).size = 26 := by simp [tabA, tabL]
theorem tabA_f (f m : Nat → Nat) (l : Nat) (h : l < 13) : (tabA f m)[l]? = some (.int .u64 (f l : Int)) := by
 simp only [tabA, tabL, List.getElem?_toArray]
 rw [List.getElem?_append_left (by simp; omega)]; simp [h]
theorem tabA_m (f m : Nat → Nat) (l : Nat) (h : l < 13) : (tabA f m)[13 + l]? = some (.int .u64 (m l : Int)) := by
 simp only [tabA, tabL, List.getElem?_toArray]
 rw [List.getElem?_append_right (by simp)]; simp [h]
theorem tabA_set_f (f m : Nat → Nat) (n v : Nat) (h : n < 13) : (tabA f m).setIfInBounds n (.int .u64 (v : Int)) = tabA (updF f n v) m := by
 apply Array.ext'
 apply List.ext_getElem?
 intro i
 rw [Array.toList_setIfInBounds, List.getElem?_set]
 have e1 : (tabA f m).toList[i]? = (tabA f m)[i]? := by simp
 have e2 : (tabA (updF f n v) m).toList[i]? = (tabA (updF f n v) m)[i]? := by simp
 rw [e1, e2]
 by_cases hi : n = i
 ·subst hi; rw [if_pos rfl, if_pos (by simp [tabA, tabL]; omega), tabA_f _ _ _ h]; simp [updF]
 ·rw [if_neg hi]
  by_cases h13 : i < 13
  ·rw [tabA_f _ _ _ h13, tabA_f _ _ _ h13]; simp [updF, Ne.symm hi]
  ·by_cases h26 : i < 26
   ·obtain ⟨q, rfl⟩ : ∃ q, i = 13 + q := ⟨i - 13, by omega⟩
    rw [tabA_m _ _ _ (by omega), tabA_m _ _ _ (by omega)]
   ·rw [Array.getElem?_eq_none (by rw [size_tabA]; omega), Array.getElem?_eq_none (by rw [size_tabA]; omega)]
theorem tabA_set_m (f m : Nat → Nat) (n v : Nat) (h : n < 13) : (tabA f m).setIfInBounds (13 + n) (.int .u64 (v : Int)) = tabA f (updF m n v) := by
 apply Array.ext'
 apply List.ext_getElem?
 intro i
 rw [Array.toList_setIfInBounds, List.getElem?_set]
 have e1 : (tabA f m).toList[i]? = (tabA f m)[i]? := by simp
 have e2 : (tabA f (updF m n v)).toList[i]? = (tabA f (updF m n v))[i]? := by simp
 rw [e1, e2]
 by_cases hi : 13 + n = i
 ·subst hi; rw [if_pos rfl, if_pos (by simp [tabA, tabL]; omega), tabA_m _ _ _ h]; simp [updF]
 ·rw [if_neg hi]
  by_cases h13 : i < 13
  ·rw [tabA_f _ _ _ h13, tabA_f _ _ _ h13]
  ·by_cases h26 : i < 26
   ·obtain ⟨q, rfl⟩ : ∃ q, i = 13 + q := ⟨i - 13, by omega⟩
    rw [tabA_m _ _ _ (by omega), tabA_m _ _ _ (by omega)]; simp [updF, show ¬ q = n by omega]
   ·rw [Array.getElem?_eq_none (by rw [size_tabA]; omega), Array.getElem?_eq_none (by rw [size_tabA]; omega)]
theorem tabA_congr {f f' m m' : Nat → Nat} (hf : ∀ l, l < 13 → f l = f' l) (hm : ∀ l, l < 13 → m l = m' l) : tabA f m = tabA f' m' := by
 unfold tabA tabL
 congr 2
 ·exact List.map_congr_left fun l hl => by rw [hf l (by simpa using hl)]
 ·exact List.map_congr_left fun l hl => by rw [hm l (by simpa using hl)]
theorem tabA_one (f m : Nat → Nat) : (tabA f m).all (·.oneCell') = true := by
 rw [Array.all_eq_true_iff_forall_mem]
 intro v hv
 simp only [tabA, tabL, List.mem_toArray, List.mem_append, List.mem_map] at hv
 rcases hv with ⟨l, _, rfl⟩ | ⟨l, _, rfl⟩ <;> rfl
theorem firstB_le (zs : List Int) (hl : zs.length ≤ 400) : ∀ l, firstB zs l + manyB zs l ≤ 400 * 2 ^ (l + 1) - 400 := by
 have hm : ∀ l, manyB zs l ≤ 400 := fun l => by
  unfold manyB
  split
  ·omega
  ·exact Nat.le_trans List.count_le_length hl
 intro l
 induction l with
 | zero => have := hm 0; simp [firstB]; omega
 | succ l ih =>
  have := hm (l + 1)
  rw [firstB, Nat.pow_succ]
  have hp : 1 ≤ 2 ^ (l + 1) := Nat.two_pow_pos _
  omega
theorem firstB_lt (zs : List Int) (hl : zs.length ≤ 400) (l : Nat) (h : l ≤ 12) : firstB zs l + manyB zs l < 4000000 := by
 have h1 := firstB_le zs hl l
 have h2 : 2 ^ (l + 1) ≤ 2 ^ 13 := Nat.pow_le_pow_right (by decide) (by omega)
 omega
def Lens (zs : List Int) : Prop := ∀ z ∈ zs, 0 ≤ z ∧ z ≤ 12
structure CntI (zs : List Int) (g g2 : Nat) (w0 : World) (k : Nat) (w : World) : Prop where
 le : k ≤ zs.length
 B : Blk w g 261 (tabA (fun _ => 0) (fun l => (zs.take k).count (l : Int)))
 B2 : Blk w g2 261 (tabA (fun _ => 0) (fun _ => 0))
 ext : Ext w0 w
structure CntJ (zs : List Int) (g g2 : Nat) (w0 : World) (n : Nat) (w : World) : Prop where
 n1 : 1 ≤ n
 le : n ≤ 13
 B : Blk w g 261 (tabA (fun l => if l < n then firstB zs l else 0) (manyB zs))
 B2 : Blk w g2 261 (tabA (fun _ => 0) (fun _ => 0))
 ext : Ext w0 w
theorem hcount_does (w : World) (v : Value) (zs : List Int) (hv : IRow w v zs) (hz : Lens zs) (hl : zs.length ≤ 400) :
  Does Tryz.prog 218 #[v] w fun r w' => r = .agg (tabA (firstB zs) (manyB zs)) ∧ Ext w w' := by
 have hrow := hv
 obtain ⟨A, c, rfl, hc, hcm, hA⟩ := hv
 refine does1 Tryz.func218 rfl (by kernel_rfl) ?_
 refine wk ?_
 refine xalloc (z := .agg (tabA (fun _ => 0) (fun _ => 0))) (by kernel_rfl) (fun w1 hB1 hE1 hs1 => ?_)
 refine wk ?_
 refine tscope1 (α := Nat) 0 rfl (fun n => [(2, .pointer (some ⟨w.heap.size, 0, none⟩)), (3, .pointer (some ⟨w.heap.size + 1, 0, none⟩)), (6, .int .i64 (n : Int))]) (CntJ zs (w.heap.size + 1) w.heap.size w) (fun n => 13 - n) ?_ ?_
 ·rintro n w2 ⟨hn1, hn, hB, hB2, hE⟩
  by_cases hlt : n ≤ 12
  ·obtain ⟨m, rfl⟩ : ∃ m, n = m + 1 := ⟨n - 1, by omega⟩
   have hf := firstB_lt zs hl m (by omega)
   have hc1 : w2.cell? ⟨w.heap.size + 1, m, none⟩ = some (.int .u64 (firstB zs m : Int)) := by rw [hB.cell, tabA_f _ _ _ (by omega)]; simp
   have hc2 : w2.cell? ⟨w.heap.size + 1, 13 + m, none⟩ = some (.int .u64 (manyB zs m : Int)) := by rw [hB.cell, tabA_m _ _ _ (by omega)]
   refine wk ?_
   refine xiq m m rfl rfl rfl rfl (by omega) (by omega) (by omega) ?_
   refine wk ?_
   refine xiq m (13 + m) rfl rfl rfl rfl (by omega) (by omega) (by omega) ?_
   refine wk ?_
   refine xshl (r := (firstB zs (m + 1) : Int)) rfl rfl (by decide) (by decide) (by
    have e : ((firstB zs m : Int) + (manyB zs m : Int)) * 2 ^ (1 : Int).toNat = (firstB zs (m + 1) : Int) := by
     rw [firstB]; show ((firstB zs m : Int) + (manyB zs m : Int)) * 2 = _; omega
    rw [e]
    exact u64_in _ (by omega) (by rw [firstB]; omega)) ?_
   refine wk ?_
   refine xiq (m + 1) (m + 1) rfl rfl rfl rfl (by omega) (by omega) (by omega) ?_
   refine wk ?_
   refine xstb hB rfl rfl rfl rfl (by rw [size_tabA]; simp; omega) (fun w3 hB3 hF3 => ?_)
   refine wk ?_
   have hF : Fr (· = w.heap.size + 1) w2 w3 := (Fr.drew _ _).t hF3
   refine tgoto rfl ⟨_, (by show 13 - (m + 1 + 1) < 13 - (m + 1); omega), rfl, m + 1 + 1, sub ⟨rfl, rfl, rfl⟩, ⟨by omega, by omega, ?_, hB2.fr hF (by show ¬ w.heap.size = _; omega), hE.te hF fun j hj e => by omega⟩, rfl⟩
   rw [tabA_set_f _ _ _ _ (by omega)] at hB3
   rw [tabA_congr (f' := updF (fun l => if l < m + 1 then firstB zs l else 0) (m + 1) (firstB zs (m + 1))) (m' := manyB zs) (fun l hl => ?_) (fun l hl => rfl)]
   ·exact hB3
   ·unfold updF
    by_cases h1 : l = m + 1
    ·subst h1; simp
    ·rw [if_neg h1]
     dsimp only
     by_cases h2 : l < m + 1
     ·rw [if_pos h2, if_pos (by omega)]
     ·rw [if_neg h2, if_neg (by omega)]
  ·obtain rfl : n = 13 := by omega
   refine wk ?_
   refine xlda hB rfl (by rw [size_tabA]; rfl) ?_
   refine xsta hB2 rfl rfl (by rw [size_tabA]; rfl) (by rw [size_tabA, size_tabA]) (tabA_one _ _) (fun w3 hB3 hF3 => ?_)
   refine wk ?_
   have e : tabA (fun l => if l < 13 then firstB zs l else 0) (manyB zs) = tabA (firstB zs) (manyB zs) := tabA_congr (fun l hl => by simp [hl]) (fun l hl => rfl)
   rw [e] at hB3
   refine tretc rfl rfl hB3 (by rw [size_tabA]; rfl) ⟨rfl, hE.te hF3 fun j hj e => by omega⟩
 ·intro H
  refine wk ?_
  refine xalloc (z := .agg (tabA (fun _ => 0) (fun _ => 0))) (by kernel_rfl) (fun w2 hB2 hE2 hs2 => ?_)
  rw [hs1] at hB2 ⊢
  refine wk ?_
  refine tloop (α := Nat) (fun k => [(2, .pointer (some ⟨w.heap.size, 0, none⟩)), (3, .pointer (some ⟨w.heap.size + 1, 0, none⟩)), (7, .slice A zs.length c), (8, .int .i64 (zs.length : Int)), (9, .int .i64 (k : Int))]) (CntI zs (w.heap.size + 1) w.heap.size w) (fun k => zs.length - k) 0 (sub ⟨rfl, rfl, rfl, rfl, rfl⟩) ⟨by omega, hB2, hB1.ext hE2, hE1.te hE2 fun _ _ hh => hh⟩ ?_
  rintro k w3 ⟨hk, hB3, hB32, hE3⟩
  by_cases hlt : k < zs.length
  ·obtain ⟨b, o, z, rfl, hb, hzk, hcell, hdrop⟩ := at_row hA hlt
   have hzz := hz z (List.mem_of_getElem? hzk)
   obtain ⟨q, rfl⟩ := Int.eq_ofNat_of_zero_le hzz.1
   have hcell3 := hE3.cell hcell
   have hcq : w3.cell? ⟨w.heap.size + 1, 13 + q, none⟩ = some (.int .u64 ((zs.take k).count (q : Int) : Int)) := by rw [hB3.cell, tabA_m _ _ _ (by omega)]
   have hcnt : (zs.take k).count (q : Int) ≤ 400 := by
    have := List.count_le_length (a := (q : Int)) (l := zs.take k)
    rw [List.length_take] at this; omega
   refine wk ?_
   refine xiq q (13 + q) rfl rfl rfl rfl (by omega) (by omega) (by omega) ?_
   refine wk ?_
   refine wk ?_
   refine xiq q (13 + q) rfl rfl rfl rfl (by omega) (by omega) (by omega) ?_
   refine xstb hB3 rfl rfl rfl rfl (by rw [size_tabA]; simp; omega) (fun w4 hB4 hF4 => ?_)
   refine wk ?_
   refine tfin ⟨k + 1, sub ⟨rfl, rfl, rfl, rfl, rfl⟩, ⟨by omega, ?_, hB32.fr hF4 (by show ¬ w.heap.size = _; omega), hE3.te hF4 fun j hj e => by omega⟩, by dsimp only; omega⟩
   have e : ((List.count (q : Int) (List.take k zs) : Int) + 1) = ((List.count (q : Int) (List.take k zs) + 1 : Nat) : Int) := by omega
   rw [e, tabA_set_m _ _ _ _ (by omega)] at hB4
   rw [tabA_congr (f' := fun _ => 0) (m' := updF (fun l => (zs.take k).count (l : Int)) q ((zs.take k).count (q : Int) + 1)) (fun l hl => rfl) (fun l hl => ?_)]
   ·exact hB4
   ·rw [List.take_add_one, hzk]
    unfold updF
    simp only [Option.toList_some, List.count_append, List.count_singleton]
    by_cases h1 : l = q
    ·subst h1; simp
    ·have : ¬ (q : Int) = (l : Int) := by omega
     simp [h1, this]
  ·obtain rfl : k = zs.length := by omega
   refine wk ?_
   refine xiq 0 13 rfl rfl rfl rfl (by omega) (by omega) (by omega) ?_
   refine xstb hB3 rfl rfl rfl rfl (by rw [size_tabA]; rfl) (fun w4 hB4 hF4 => ?_)
   refine wk ?_
   refine tlabel ?_
   refine tweak (H 1 w4 ⟨by omega, by omega, ?_, hB32.fr hF4 (by show ¬ w.heap.size = _; omega), hE3.te hF4 fun j hj e => by omega⟩) (sub ⟨rfl, rfl, rfl⟩)
   have hB4' : Blk w4 (w.heap.size + 1) 261 ((tabA (fun _ => 0) (fun l => (zs.take zs.length).count (l : Int))).setIfInBounds (13 + 0) (.int .u64 ((0 : Nat) : Int))) := hB4
   rw [tabA_set_m _ _ _ _ (by omega)] at hB4'
   rw [tabA_congr (f' := fun _ => 0) (m' := updF (fun l => (zs.take zs.length).count (l : Int)) 0 0) (fun l hl => ?_) (fun l hl => ?_)]
   ·exact hB4'
   ·by_cases h1 : l < 1
    ·obtain rfl : l = 0 := by omega
     rfl
    ·rw [if_neg h1]
   ·unfold updF manyB
    rw [List.take_length]
def codeB (zs : List Int) (s : Nat) : Nat := match zs[s]? with
 | some z => if 0 < z then firstB zs z.toNat + (zs.take s).count z else 0
 | none => 0
def codesB (zs : List Int) : List Int := (List.range zs.length).map fun s => (codeB zs s : Int)
def UB (w : World) (b : Nat) (l : List Int) : Prop := Blk w b 40 (l.map (Value.int .u64)).toArray
theorem sl_uints : SlT 242 40 (.int .u64 0) 1 8 := slT Tryz.underlying242 (by kernel_rfl)
def codesTo (zs : List Int) (k : Nat) : List Int := (List.range zs.length).map fun s => if s < k then (codeB zs s : Int) else 0
structure CodI (zs : List Int) (g b : Nat) (w0 : World) (k : Nat) (w : World) : Prop where
 le : k ≤ zs.length
 B : Blk w g 261 (tabA (fun l => firstB zs l + if l = 0 then 0 else (zs.take k).count (l : Int)) (manyB zs))
 U : UB w b (codesTo zs k)
 ext : Ext w0 w
theorem may_len {zs : List Int} (h : mayB zs = true) : zs.length ≤ 400 := by
 simp only [mayB, Bool.and_eq_true, decide_eq_true_eq] at h; exact h.1
theorem may_lens {zs : List Int} (h : mayB zs = true) : Lens zs := by
 simp only [mayB, Bool.and_eq_true, decide_eq_true_eq] at h
 have key : ∀ (l : List Int) (c s : Int), hmayGo l c s = true → Lens l := by
  intro l
  induction l with
  | nil => intro c s _ z hz; cases hz
  | cons n r ih =>
   intro c s hg
   rw [hmayGo_cons] at hg
   split at hg
   ·cases hg
   ·rename_i hn
    have hr : Lens r := by
     split at hg
     ·exact ih _ _ hg
     ·exact ih _ _ hg
    intro z hz
    rcases List.mem_cons.1 hz with rfl | h'
    ·omega
    ·exact hr z h'
 exact key zs 0 0 h.2
theorem take_count_lt {zs : List Int} {k : Nat} {z : Int} (h : zs[k]? = some z) : (zs.take k).count z < zs.count z := by
 have e : zs = zs.take k ++ (z :: zs.drop (k + 1)) := by
  have hk : k < zs.length := (List.getElem?_eq_some_iff.1 h).1
  have hz : zs[k] = z := by rw [List.getElem?_eq_getElem hk] at h; injection h
  rw [← hz, ← List.drop_eq_getElem_cons hk, List.take_append_drop]
 have e2 : zs.count z = (zs.take k).count z + ((z :: zs.drop (k + 1)).count z) := by
  conv => lhs; rw [e, List.count_append]
 rw [e2, List.count_cons_self]; omega
theorem codes_does (w : World) (v : Value) (zs : List Int) (hv : IRow w v zs) (hm : mayB zs = true) :
  Does Tryz.prog 200 #[v] w fun r w' => ∃ b, r = .slice (some ⟨b, 0, none⟩) zs.length zs.length ∧ w.heap.size ≤ b ∧ UB w' b (codesB zs) ∧ Ext w w' := by
 have hrow := hv
 have hl := may_len hm
 have hz := may_lens hm
 obtain ⟨A, c, rfl, hc, hcm, hA⟩ := hv
 refine does1 Tryz.func200 rfl (by kernel_rfl) ?_
 refine wk ?_
 refine tscope1 (α := Nat × Nat × Nat) 0 rfl (fun x => [(0, .slice A zs.length c), (3, .pointer (some ⟨x.2.1, 0, none⟩)), (4, .slice (some ⟨x.2.2, 0, none⟩) zs.length zs.length), (5, .int .i64 (x.1 : Int))]) (fun x w' => CodI zs x.2.1 x.2.2 w x.1 w' ∧ w.heap.size ≤ x.2.1 ∧ w.heap.size ≤ x.2.2) (fun x => zs.length - x.1) ?_ ?_
 ·rintro ⟨k, g, b⟩ w1 ⟨⟨hk, hB, hU, hE⟩, hg, hb⟩
  dsimp only at hk hB hU hg hb ⊢
  have hgb : g ≠ b := Blk.ne_ hB hU (by decide)
  by_cases hlt : k < zs.length
  ·obtain ⟨b0, o0, z, rfl, hb0, hzk, hcell, hdrop⟩ := at_row hA hlt
   have hzz := hz z (List.mem_of_getElem? hzk)
   obtain ⟨q, rfl⟩ := Int.eq_ofNat_of_zero_le hzz.1
   have hcell1 := hE.cell hcell
   by_cases hq : q = 0
   ·subst hq
    refine wk ?_
    refine tgoto rfl ⟨_, (by show zs.length - (k + 1) < zs.length - k; omega), rfl, (k + 1, g, b), sub ⟨rfl, rfl, rfl, rfl⟩, ⟨⟨by dsimp only; omega, ?_, ?_, hE⟩, hg, hb⟩, rfl⟩
    ·dsimp only
     rw [tabA_congr (f' := fun l => firstB zs l + if l = 0 then 0 else (zs.take k).count (l : Int)) (m' := manyB zs) (fun l hl => ?_) (fun l hl => rfl)]
     ·exact hB
     ·by_cases h0 : l = 0
      ·simp [h0]
      ·rw [if_neg h0, if_neg h0, List.take_add_one, hzk]
       simp only [Option.toList_some, List.count_append, List.count_singleton]
       have : ¬ (0 : Int) = (l : Int) := by omega
       simp [this]
    ·have : codesTo zs (k + 1) = codesTo zs k := by
      unfold codesTo
      refine List.map_congr_left fun s hs => ?_
      by_cases h1 : s < k
      ·rw [if_pos h1, if_pos (by omega)]
      ·by_cases h2 : s = k
       ·subst h2; rw [if_pos (by omega), if_neg h1]; simp [codeB, hzk]
       ·rw [if_neg h1, if_neg (by omega)]
     rw [this]; exact hU
   ·have hfb := firstB_lt zs hl q (by omega)
    have hmq : manyB zs q = zs.count (q : Int) := by unfold manyB; rw [if_neg hq]
    have htc := take_count_lt hzk
    rw [← hmq] at htc
    have hcq : w1.cell? ⟨g, q, none⟩ = some (.int .u64 ((firstB zs q + (zs.take k).count (q : Int) : Nat) : Int)) := by rw [hB.cell, tabA_f _ _ _ (by omega)]; simp [hq]
    refine wk ?_
    refine xiq q q rfl rfl rfl rfl rfl (by omega) (by omega) ?_
    refine wk ?_
    refine xstb hU rfl rfl rfl rfl (by simp [codesTo]; omega) (fun w2 hU2 hF2 => ?_)
    have hB2 := hB.fr hF2 (by show ¬ g = b; exact hgb)
    have hcq2 : w2.cell? ⟨g, q, none⟩ = some (.int .u64 ((firstB zs q + (zs.take k).count (q : Int) : Nat) : Int)) := by rw [hB2.cell, tabA_f _ _ _ (by omega)]; simp [hq]
    refine wk ?_
    refine xiq q q rfl rfl rfl rfl rfl (by omega) (by omega) ?_
    refine wk ?_
    refine xiq q q rfl rfl rfl rfl rfl (by omega) (by omega) ?_
    refine xstb hB2 rfl rfl rfl rfl (by rw [size_tabA]; simp; omega) (fun w3 hB3 hF3 => ?_)
    refine wk ?_
    refine tgoto rfl ⟨_, (by show zs.length - (k + 1) < zs.length - k; omega), rfl, (k + 1, g, b), sub ⟨rfl, rfl, rfl, rfl⟩, ⟨⟨by dsimp only; omega, ?_, ?_, (hE.te hF2 fun j hj e => by omega).te hF3 fun j hj e => by omega⟩, hg, hb⟩, rfl⟩
    ·have e : ((firstB zs q + (zs.take k).count (q : Int) : Nat) : Int) + 1 = ((firstB zs q + (zs.take k).count (q : Int) + 1 : Nat) : Int) := by omega
     rw [e, tabA_set_f _ _ _ _ (by omega)] at hB3
     dsimp only
     rw [tabA_congr (f' := updF (fun l => firstB zs l + if l = 0 then 0 else (zs.take k).count (l : Int)) q (firstB zs q + (zs.take k).count (q : Int) + 1)) (m' := manyB zs) (fun l hl => ?_) (fun l hl => rfl)]
     ·exact hB3
     ·unfold updF
      by_cases h0 : l = 0
      ·subst h0; simp [Ne.symm hq]
      ·rw [if_neg h0, List.take_add_one, hzk]
       simp only [Option.toList_some, List.count_append, List.count_singleton]
       by_cases h1 : l = q
       ·subst h1; simp; omega
       ·have : ¬ (q : Int) = (l : Int) := by omega
        simp [h1, this, h0]
    ·dsimp only
     have : UB w3 b ((codesTo zs k).set k ((firstB zs q + (zs.take k).count (q : Int) : Nat) : Int)) := by
      unfold UB
      rw [List.map_set]
      have := Blk.fr hU2 hF3 (by show ¬ b = g; exact Ne.symm hgb)
      simpa using this
     have e : (codesTo zs k).set k ((firstB zs q + (zs.take k).count (q : Int) : Nat) : Int) = codesTo zs (k + 1) := by
      apply List.ext_getElem?
      intro s
      rw [List.getElem?_set]
      unfold codesTo
      by_cases hs : s < zs.length
      ·by_cases h1 : k = s
       ·subst h1
        simp only [List.length_map, List.length_range, hlt, if_true, List.getElem?_map, List.getElem?_range hlt, Option.map_some]
        rw [if_pos (by omega)]
        simp [codeB, hzk, show 0 < q by omega]
       ·rw [if_neg h1]
        simp only [List.getElem?_map, List.getElem?_range hs, Option.map_some]
        by_cases h2 : s < k
        ·rw [if_pos h2, if_pos (by omega)]
        ·rw [if_neg h2, if_neg (by omega)]
      ·rw [if_neg (by omega), List.getElem?_eq_none (by simp; omega), List.getElem?_eq_none (by simp; omega)]
     rw [e] at this
     exact this
  ·obtain rfl : k = zs.length := by omega
   refine wk ?_
   have e : codesTo zs zs.length = codesB zs := by
    unfold codesTo codesB
    exact List.map_congr_left fun s hs => by rw [if_pos (by simpa using hs)]
   rw [e] at hU
   exact tret1 rfl rfl ⟨b, rfl, hb, hU, hE⟩
 ·intro H
  refine wk ?_
  refine xcall rfl rfl (hmay_does w _ zs hrow) (fun r w1 h1 => ?_)
  obtain ⟨rfl, rfl⟩ := h1
  rw [hm]
  refine wk ?_
  refine xcall rfl rfl (hcount_does _ _ zs hrow hz hl) (fun r w2 h2 => ?_)
  obtain ⟨rfl, hE2⟩ := h2
  refine xalloc (z := .agg (tabA (fun _ => 0) (fun _ => 0))) (by kernel_rfl) (fun w3 hB3 hE3 hs3 => ?_)
  refine xsta hB3 rfl rfl (by rw [size_tabA]; rfl) (by show (tabA _ _).size = _; rw [size_tabA, size_tabA]) (tabA_one _ _) (fun w4 hB4 hF4 => ?_)
  refine wk ?_
  refine xmk sl_uints rfl rfl rfl (by omega) (by omega) (by omega) (fun w5 hB5 hE5 hs5 => ?_)
  rw [Int.toNat_natCast] at hB5 ⊢
  refine wk ?_
  refine tlabel ?_
  have hsz2 := hE2.size
  have hF24 : Ext w w4 := (hE2.te hE3 fun _ _ hh => hh).te hF4 fun j hj e => by omega
  have hsz4 := hF24.size
  refine tweak (H (0, w2.heap.size, w4.heap.size) w5 ⟨⟨by dsimp only; omega, ?_, ?_, hF24.te hE5 fun _ _ hh => hh⟩, hsz2, hsz4⟩) (sub ⟨rfl, rfl, rfl, rfl⟩)
  ·dsimp only
   have := hB4.ext hE5
   rw [tabA_congr (f' := firstB zs) (m' := manyB zs) (fun l hl => by simp) (fun l hl => rfl)]
   exact this
  ·dsimp only
   unfold UB
   have e : codesTo zs 0 = List.replicate zs.length 0 := by
    apply List.ext_getElem
    ·simp [codesTo]
    ·intro i h1 h2; simp [codesTo]
   rw [e, List.map_replicate]
   simpa using hB5
end
end Go.Proofs.YtbpmlbjapapoaaaGreatDoor.Eng
