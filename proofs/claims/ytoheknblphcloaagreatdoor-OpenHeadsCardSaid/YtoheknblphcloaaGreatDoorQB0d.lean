/-
  Parts of the proof: Eyk, Eyl, Eyh, Eyi, Row.
-/
import Derived.Below
import Derived.Carry
import Derived.ChangeSame
import Derived.ChangeSlices
import Derived.ProofKit
import Derived.Test.YtoheknblphcloaaGreatDoorRows
import Derived.Test.YtoheknblphcloaaGreatDoorQB0a
import Derived.Test.YtoheknblphcloaaGreatDoorQB0c
set_option maxRecDepth 100000
set_option maxHeartbeats 64000000
namespace Go.Proofs.YtoheknblphcloaaGreatDoor
open Go.RowKit
namespace Eng
namespace Rn
theorem look_put_ne {env : Env} {d : Option Tmp} {v : Value} {t : Nat} (h : d ≠ some t) : look (Eng.put env d v) t = look env t := by
 cases d with
 | none => rfl
 | some k =>
  show look ((k, v) :: env) t = _
  rw [look_cons, if_neg (fun e => h (by rw [e]))]
theorem xs_keep {hs : List Nat} {H : World → Prop} {full : Array Oper} {K : Env → World → Prop} : ∀ {l : List Oper} {env : Env} {w : World}, xs Tryz.prog isI isS hs H full K l env w → xs Tryz.prog isI isS hs H full (fun env' w' => K env' w' ∧ ∀ t, (∀ o ∈ l, o.dst ≠ some t) → look env' t = look env t) l env w
 | [], _, _, h => ⟨h, fun _ _ => rfl⟩
 | o :: l, env, w, ⟨g, hg, h1, h2⟩ => by
  have step : ∀ v w', xs Tryz.prog isI isS hs H full K l (Eng.put env o.dst v) w' → xs Tryz.prog isI isS hs H full (fun env' w' => K env' w' ∧ ∀ t, (∀ o' ∈ o :: l, o'.dst ≠ some t) → look env' t = look env t) l (Eng.put env o.dst v) w' := fun v w' h =>
   xs_monoH (fun env' w' ⟨hk, hl⟩ => ⟨hk, fun t ht => (hl t fun o' ho' => ht o' (List.mem_cons_of_mem _ ho')).trans (look_put_ne (ht o List.mem_cons_self))⟩) (xs_keep h)
  exact ⟨g, hg, fun hh => ⟨(h1 hh).1, acts_monoH (fun v w' hx => step v w' hx) (h1 hh).2⟩, fun hh => step _ _ (h2 hh)⟩
theorem ops_keep {d : Option Tmp} {op : Op} {ty : TypeId} {pos : String} {af : Array Edge} {env env2 : Env} (hx : ∀ x ∈ op.operands.toList, evo env2 x = evo env x) (h : opsOK env ⟨d, op, ty, pos, af, none⟩ = true) : opsOK env2 ⟨d, op, ty, pos, af, none⟩ = true := by
 unfold opsOK at h ⊢
 rw [List.all_eq_true] at h ⊢
 intro x hm
 rw [hx x hm]
 exact h x hm
def Made (ρ : Pl) (env : Env) (d : Tmp) (op : Op) (ty : TypeId) (pos : String) (af : Array Edge) (σ : Mem) (c : Kt) (res : Rs) : Prop :=
 ∃ (el : TypeId) (l : List SV) (vs : List Value) (cs : Array Value) (n z : Nat) (av : Nat → AV) (mv : Nat → Value), newK σ el l (fun id σ => c (av id) σ) = res ∧ SRs ρ l vs ∧ (∀ (o : Nat) v, vs[o]? = some v → cs[o]? = some v) ∧ n * z ≤ cs.size ∧ (∀ id b (ρ' : Pl), ρ'[id]? = some ⟨b, n, z⟩ → AR ρ' (av id) (mv b)) ∧ (∀ t n' ps, op = .buildSlice t n' ps → elemOf t = some (el, z) ∧ cs = vs.toArray ∧ vs.length = n * z ∧ (av = fun id => .v (.lx id z 0 n n)) ∧ mv = fun b => .slice (some ⟨b, 0, none⟩) n n) ∧
   ∀ (env2 : Env) (w : World), (∀ x ∈ op.operands.toList, evo env2 x = evo env x) → opsOK env2 ⟨some d, op, ty, pos, af, none⟩ = true ∧ (execOp (ev env2) ⟨some d, op, ty, pos, af, none⟩).run Tryz.prog w = .ok (.value (mv w.heap.size)) (w.alloc (.cells cs el))
theorem al_mk {ih : Cl} {e : En} {σ : Mem} {c : Kt} {res : Rs} {ρ : Pl} {env : Env} {d : Tmp} {ty : TypeId} {pos : String} {af : Array Edge} (hr : res ≠ .no) {t : TypeId} (h : (alW t (zA t)).f ih e σ c = res) : Made ρ env d (.alloc t) ty pos af σ c res := by
 unfold alW at h
 split at h
 ·rename_i z hz
  rw [cVs_eq] at h
  obtain ⟨i, v, hi, hv, hl⟩ := zA_inv (ρ := ρ) hz
  refine ⟨t, z, _, v.cells, v.cells.size, 1, _, fun b => .pointer (some ⟨b, 0, none⟩), h, hl, fun o u hu => by simpa using hu, by simp, fun id b ρ' hp => ⟨_, hp, rfl⟩, (fun _ _ _ hh => by cases hh), fun env2 w _ => ⟨by simp [opsOK, Op.operands], ?_⟩⟩
  simp [execOp, Instr.alloc, zeroValue, typeInfo, hi, hv, newVar, newRow]
 ·exact absurd h.symm hr
theorem rw_mk {m : Nat} {ih : Cl} {e : En} {σ : Mem} {c : Kt} {res : Rs} {ρ : Pl} {env : Env} {d : Tmp} {ty : TypeId} {pos : String} {af : Array Edge} (hr : res ≠ .no) (hE : ER m ρ e env) {t : TypeId} {n : Nat} {ps : List (Nat × Operand)} (hm : 1 ≤ n) (h : (rwW m n ps (elemOf t)).f ih e σ c = res) : Made ρ env d (.buildSlice t n ps.toArray) ty pos af σ c res := by
 unfold rwW at h
 split at h
 ·omega
 split at h
 ·rename_i el z hel
  obtain ⟨hu, hsz⟩ := elemOf_inv hel
  obtain ⟨⟨ie, hie, hz⟩, _⟩ := size_spec hsz
  split at h
  ·rename_i zs hzs
   split at h
   ·exact absurd h.symm hr
   ·rename_i hchk
    rw [cN_eq, cN_eq, cVs_eq] at h
    obtain ⟨k1, hchk⟩ := an_inv hchk
    obtain ⟨k2, hchk⟩ := an_inv hchk
    obtain ⟨k3, k4⟩ := an_inv hchk
    have k1 := Nat.eq_of_beq_eq_true k1
    have k2 := Nat.le_of_ble_eq_true k2
    have k3 := Nat.le_of_ble_eq_true k3
    have k4 : n * z ≤ 16777216 := Nat.le_of_ble_eq_true k4
    obtain ⟨i, v, hi, hv, hl⟩ := zA_inv (ρ := ρ) hzs
    rw [hie] at hi; obtain rfl := Option.some.inj hi
    have hrep := rep_rel hl n
    rw [k1] at hrep
    obtain ⟨pvs, l', vs', h1, h2, h3, hlen', g1⟩ := ptW_inv hr hE h hrep
    obtain ⟨he, ho⟩ := evq_spec h1
    have hpos : 0 < n * z := Nat.mul_pos (by omega) (by omega)
    have hlen' : vs'.length = n * z := by rw [hlen', Array.length_toList, size_madeCells]
    refine ⟨el, l', vs', vs'.toArray, n, z, fun id => .v (.lx id z 0 n n), fun b => .slice (some ⟨b, 0, none⟩) n n, g1, h3, fun o u hu => by simpa using hu, by simp [hlen'], fun id b ρ' hp => ⟨_, hp, Nat.le_refl _, by have := Nat.le_mul_of_pos_right n k3; unfold maxLen; omega, by simp⟩, (fun t' n' ps' hh => by injection hh with h1 _ _; subst h1; exact ⟨hel, rfl, hlen', rfl, rfl⟩), fun env2 w hx => ?_⟩
    have hx' : ∀ p ∈ ps, evo env2 p.2 = evo env p.2 := fun p hp => hx p.2 (by simp only [Op.operands]; simp; exact ⟨p.1, by simpa using hp⟩)
    have hev : (ps.map fun p => (p.1, ev env2 p.2)) = ps.map fun p => (p.1, ev env p.2) := List.map_congr_left fun p hp => by unfold ev; rw [hx' p hp]
    have hrun := run_buildSlice (P := Tryz.prog) w t el n ((ps.map fun p => (p.1, ev env2 p.2)).toArray) vs'.toArray ie v hu hie hv (by rw [hz]; omega) (by rw [hz]; omega) (by
     show Instr.fill _ _ (ps.map fun p => (p.1, ev env2 p.2)) = _
     rw [hev, he, hz]
     exact h2)
    refine ⟨ops_keep hx (by simp only [opsOK, Op.operands]; rw [List.all_eq_true]; intro x hx; simp at hx; obtain ⟨j, hj⟩ := hx; exact ho _ (by simpa using hj)), ?_⟩
    have e2 : (ps.toArray.map fun x => match x with | (i, x) => (i, ev env2 x)) = (ps.map fun p => (p.1, ev env2 p.2)).toArray := by simp
    simp only [execOp]
    rw [e2]
    simp [hrun]
  ·exact absurd h.symm hr
 ·exact absurd h.symm hr
theorem mk_inv {m : Nat} {ih : Cl} {e : En} {σ : Mem} {c : Kt} {res : Rs} {ρ : Pl} {env : Env} {d : Tmp} {ty : TypeId} {pos : String} {af : Array Edge} (hr : res ≠ .no) {op : Op} (hm : isMk op = true) (hE : ER m ρ e env) (h : (opW m op).f ih e σ c = res) : Made ρ env d op ty pos af σ c res := by
 cases op with
 | alloc t => exact al_mk hr h
 | buildSlice t n ps => exact rw_mk (ps := ps.toList) hr hE (Nat.le_of_ble_eq_true hm) h
 | _ => cases hm
theorem dryH {w0 : Fm} {m : Nat} {ih : Cl} {res : Rs} {k : Kr} (hr : res ≠ .no) (hih : CallS w0 ih) {hs : List Nat} {full : List Oper} : ∀ {l : List Oper} {e : En} {σ : Mem} {ρ : Pl} {env : Env} {w : World}, ER m ρ e env → MR w0 ρ σ w → (regH m hs full l).f ih e σ k = res → ∃ env' w' e1 σ1 ρ', k e1 σ1 = res ∧ Up ρ ρ' ∧ ER m ρ' e1 env' ∧ MR w0 ρ' σ1 w' ∧ ∀ t, (∀ o ∈ l, o.dst ≠ some t) → look env' t = look env t
 | [], e, σ, ρ, env, w, hE, hM, h => ⟨env, w, e, σ, ρ, h, Up.refl ρ, hE, hM, fun _ _ => rfl⟩
 | o :: l, e, σ, ρ, env, w, hE, hM, h => by
  have h' : (orH m hs full o).f ih e σ (fun e σ => (regH m hs full l).f ih e σ k) = res := h
  obtain ⟨env1, w1, ⟨e1, σ1, ρ1, h1, h2, h3, h4, _⟩, h5⟩ := xs_some (xs_keep (s_orH hr hih hE hM h'))
  obtain ⟨env2, w2, e2, σ2, ρ2, g1, g2, g3, g4, g5⟩ := dryH hr hih h3 h4 h1
  exact ⟨env2, w2, e2, σ2, ρ2, g1, h2.trans g2, g3, g4, fun t ht => (g5 t fun o' ho' => ht o' (List.mem_cons_of_mem _ ho')).trans (h5 t fun o' ho' => by rw [List.mem_singleton] at ho'; subst ho'; exact ht _ List.mem_cons_self)⟩
theorem alook_delL {d t : Nat} : ∀ {l : AEnv}, alook t (delL d l) = if d = t then none else alook t l
 | [] => by
  have e : alook t (delL d []) = none := rfl
  rw [e]; split <;> rfl
 | (k, x) :: l => by
  have e1 : delL d ((k, x) :: l) = Bool.rec (motive := fun _ => AEnv) ((k, x) :: delL d l) (delL d l) (Nat.beq k d) := rfl
  have ih := alook_delL (d := d) (t := t) (l := l)
  rw [e1]
  cases hk : Nat.beq k d with
  | true =>
   have hk := Nat.eq_of_beq_eq_true hk
   subst hk
   show alook t (delL k l) = _
   rw [ih]
   by_cases ht : k = t
   ·rw [if_pos ht, if_pos ht]
   ·rw [if_neg ht, if_neg ht]; simp [alook, ht]
  | false =>
   have hk : k ≠ d := fun e => by subst e; rw [Nat.beq_refl] at hk; cases hk
   show alook t ((k, x) :: delL d l) = _
   by_cases ht : k = t
   ·subst ht
    rw [if_neg (fun e => hk e.symm)]; simp [alook]
   ·simp only [alook, if_neg ht]; exact ih
theorem delL_idem {d : Nat} : ∀ {l : AEnv}, delL d (delL d l) = delL d l
 | [] => rfl
 | (k, x) :: l => by
  have e1 : delL d ((k, x) :: l) = Bool.rec (motive := fun _ => AEnv) ((k, x) :: delL d l) (delL d l) (Nat.beq k d) := rfl
  rw [e1]
  cases hk : Nat.beq k d with
  | true => exact delL_idem
  | false =>
   show Bool.rec (motive := fun _ => AEnv) ((k, x) :: delL d (delL d l)) (delL d (delL d l)) (Nat.beq k d) = _
   rw [hk, delL_idem]
theorem delL_comm {d d2 : Nat} : ∀ {l : AEnv}, delL d (delL d2 l) = delL d2 (delL d l)
 | [] => rfl
 | (k, x) :: l => by
  have e1 : ∀ (q : Nat) (r : AEnv), delL q ((k, x) :: r) = Bool.rec (motive := fun _ => AEnv) ((k, x) :: delL q r) (delL q r) (Nat.beq k q) := fun _ _ => rfl
  have ih := delL_comm (d := d) (d2 := d2) (l := l)
  rw [e1, e1]
  cases hk : Nat.beq k d2 with
  | true =>
   cases hk' : Nat.beq k d with
   | true => exact ih
   | false =>
    show delL d (delL d2 l) = delL d2 ((k, x) :: delL d l)
    rw [e1, hk]; exact ih
  | false =>
   show delL d ((k, x) :: delL d2 l) = _
   rw [e1]
   cases hk' : Nat.beq k d with
   | true => exact ih
   | false =>
    show (k, x) :: delL d (delL d2 l) = delL d2 ((k, x) :: delL d l)
    rw [e1, hk, ih]
theorem delE_two {d d2 : Nat} {e : En} : delE d (delE d2 (delE d (delE d2 e))) = delE d (delE d2 e) := by
 have h : ∀ l : AEnv, delL d (delL d2 (delL d (delL d2 l))) = delL d (delL d2 l) := fun l => by
  rw [delL_comm (d := d2) (d2 := d), delL_idem, delL_idem]
 unfold delE
 simp only [h]
theorem elk_del {m d t : Nat} {e : En} : elk m (delE d e) t = if d = t then none else elk m e t := by
 unfold elk delE
 cases kept m t <;> exact alook_delL
theorem ER.del {m : Nat} {ρ : Pl} {e : En} {env : Env} {d : Nat} (h : ER m ρ e env) : ER m ρ (delE d e) env := fun t a ha => by
 rw [elk_del] at ha
 split at ha
 ·cases ha
 ·exact h t a ha
theorem dryF {w0 : Fm} {m : Nat} {ih : Cl} {res : Rs} {k : Kr} (hr : res ≠ .no) (hih : CallS w0 ih) {hs : List Nat} {full : List Oper} {d d2 : Nat} : ∀ {l : List (Oper × Bool)} {e : En} {σ : Mem} {ρ : Pl} {env : Env} {w : World}, ER m ρ e env → MR w0 ρ σ w → (regF m hs full d d2 l).f ih e σ k = res → ∃ env' w' e1 σ1 ρ', k e1 σ1 = res ∧ Up ρ ρ' ∧ ER m ρ' e1 env' ∧ MR w0 ρ' σ1 w' ∧ ∀ t, (∀ o ∈ l.map Prod.fst, o.dst ≠ some t) → look env' t = look env t
 | [], e, σ, ρ, env, w, hE, hM, h => ⟨env, w, e, σ, ρ, h, Up.refl ρ, hE, hM, fun _ _ => rfl⟩
 | (o, b) :: l, e, σ, ρ, env, w, hE, hM, h => by
  have h' : (orH m hs full o).f ih (delE d (delE d2 e)) σ (fun e σ => (regF m hs full d d2 l).f ih e σ k) = res := h
  obtain ⟨env1, w1, ⟨e1, σ1, ρ1, h1, h2, h3, h4, _⟩, h5⟩ := xs_some (xs_keep (s_orH hr hih hE.del.del hM h'))
  obtain ⟨env2, w2, e2, σ2, ρ2, g1, g2, g3, g4, g5⟩ := dryF hr hih h3 h4 h1
  exact ⟨env2, w2, e2, σ2, ρ2, g1, h2.trans g2, g3, g4, fun t ht => (g5 t fun o' ho' => ht o' (by rw [List.map_cons]; exact List.mem_cons_of_mem _ ho')).trans (h5 t fun o' ho' => by rw [List.mem_singleton] at ho'; subst ho'; exact ht _ (by rw [List.map_cons]; exact List.mem_cons_self))⟩
theorem Mono.regF {w0 : Fm} {m : Nat} {ih : Cl} {res : Rs} {nh : List Nt} {nm : List Mem} {k : Kr} (hr : res ≠ .no) (hih : CallS w0 ih) {hs : List Nat} {full : List Oper} {d d2 : Nat} (hk : Mono w0 m res nh nm k) : ∀ l : List (Oper × Bool), Mono w0 m res nh nm (fun e σ => (regF m hs full d d2 l).f ih e σ k)
 | [] => hk
 | (o, _) :: l => fun e σ ρ env w hE hM h => Mono.op (o := o) hr hih (Mono.regF hr hih hk l) (delE d (delE d2 e)) σ ρ env w hE.del.del hM h
theorem s_regF {w0 w00 : Fm} {m : Nat} {ih : Cl} {res : Rs} {σ0 : Mem} {ρ0 : Pl} {ws : World} {nh : List Nt} {nm : List Mem} {k : Kr} (hr : res ≠ .no) (hih : CallS w0 ih) (hk : Mono w0 m res nh nm k) (hho : ∀ n ∈ nh, Hold σ0 nm n) (hM0 : MR w00 ρ0 σ0 ws) {hs0 : List Nat} {full : List Oper} {d d2 : Nat} : ∀ {l : List (Oper × Bool)} {e : En} {σ : Mem} {ρ : Pl} {env : Env} {w : World}, Up ρ0 ρ → ER m ρ e env → MR w0 ρ σ w → (regF m hs0 full d d2 l).f ih e σ k = res → xs Tryz.prog isI isS hs0 (HH ρ0 nh) full.toArray (fun env' w' => ∃ e1 σ1 ρ', k e1 σ1 = res ∧ Up ρ ρ' ∧ ER m ρ' e1 env' ∧ MR w0 ρ' σ1 w') (l.map Prod.fst) env w
 | [], e, σ, ρ, env, w, hu, hE, hM, h => ⟨e, σ, ρ, h, Up.refl ρ, hE, hM⟩
 | (o, b) :: l, e, σ, ρ, env, w, hu, hE, hM, h => by
  have h1 := s_regK hr hih (Mono.regF hr hih hk l) hho hM0 (hs0 := hs0) (full := full) (l := [o]) hu ((hE.del (d := d2)).del (d := d)) hM h
  rw [List.map_cons]
  refine xs_cons (xs_monoH (fun env' w' hh => ?_) h1)
  obtain ⟨e1, σ1, ρ1, k1, k2, k3, k4⟩ := hh
  exact xs_monoH (fun env'' w'' ⟨e2, σ2, ρ2, q1, q2, q3, q4⟩ => ⟨e2, σ2, ρ2, q1, k2.trans q2, q3, q4⟩) (s_regF hr hih hk hho hM0 (hu.trans k2) k3 k4 k1)
theorem HH.ext {ρ0 : Pl} {nh : List Nt} {w w' : World} (h : HH ρ0 nh w) (hE : Ext w w') : HH ρ0 nh w' := fun n hn p vs hp hv j u hj => hE.cell (h n hn p vs hp hv j u hj)
abbrev Fm.out {w0 : Fm} {ρ : Pl} {σ : Mem} {w w1 : World} (h : MR w0 ρ σ w) (hE : Ext w w1) : Fm := ⟨fun b => b ≠ w.heap.size ∧ w0.may b, w1, w0.ok.of (h.old.te hE) fun _ hb => hb.2⟩
theorem MR.keep {w0 : Fm} {ρ : Pl} {σ : Mem} {w w1 : World} (h : MR w0 ρ σ w) (hE : Ext w w1) : MR (Fm.out h hE) ρ σ w1 where
 len := h.len
 blk := (h.ext hE).blk
 old := Fr.refl _ _
 far := fun id o p hs hp => .inr ⟨Nat.ne_of_lt (h.below id o p hs hp), h.far id o p hs hp⟩
 pre := h.pre
 apart := h.apart
 mps := h.mps.to (Up.refl ρ) (fun _ _ hb => hb.ext hE) fun _ _ hb hm => .inr ⟨Nat.ne_of_lt hb.lt, hm⟩
theorem MR.back {w0 : Fm} {ρ ρ1 : Pl} {σ σ1 : Mem} {w w1 w' : World} (h : MR w0 ρ σ w) (hE : Ext w w1) (hlt : w.heap.size < w1.heap.size) (h1 : MR (Fm.out h hE) ρ1 σ1 w') : MR w0 ρ1 σ1 w' ∧ (∀ id o p, (cget σ1 id o).isSome = true → ρ1[id]? = some p → p.b ≠ w.heap.size) ∧ ∀ t cs, Bk w1 w.heap.size t cs → Bk w' w.heap.size t cs := by
 have hs := h.old.size
 refine ⟨⟨h1.len, h1.blk, (h.old.te hE).trans h1.old fun j hj hS => hS.2.resolve_left (by omega), fun id o p a b => ?_, h1.pre, h1.apart, h1.mps.to (Up.refl ρ1) (fun _ _ hb => hb) fun b l _ hm => ?_⟩, fun id o p a b => ?_, fun t cs hb => hb.fr h1.old fun hS => hS.1 rfl⟩
 ·rcases h1.far id o p a b with hh | hh
  ·have hh : w1.heap.size ≤ p.b := hh
   exact .inl (by omega)
  ·exact hh.2
 ·rcases hm with hh | hh
  ·have hh : w1.heap.size ≤ b := hh
   exact .inl (by omega)
  ·exact hh.2
 ·rcases h1.far id o p a b with hh | hh
  ·have hh : w1.heap.size ≤ p.b := hh
   omega
  ·exact hh.1
theorem mkH_inv {m : Nat} {ih : Cl} {res : Rs} (hr : res ≠ .no) {hs : List Nat} {full : List Oper} {c : Kr} {e : En} {σ : Mem} {d : Tmp} {op : Op} {ty : TypeId} {pos : String} {af : Array Edge} (hm : isMk op = true) (h : (orH m hs full ⟨some d, op, ty, pos, af, none⟩).f ih e σ c = res) : (opW m op).f ih e σ (fun v σ => (puW m (some d)).f e v fun e => c ⟨e.vs, e.ts, e.hs, σ :: e.ms⟩ σ) = res := by
 unfold orH at h
 split at h
 ·exact absurd h.symm hr
 ·cases op with
  | alloc t => exact h
  | buildSlice t n ps => exact h
  | _ => cases hm
theorem xs_app2 {hs : List Nat} {H : World → Prop} {full : Array Oper} {K : Env → World → Prop} : ∀ {l1 l2 : List Oper} {env : Env} {w : World}, xs Tryz.prog isI isS hs H full (fun env' w' => xs Tryz.prog isI isS hs H full K l2 env' w') l1 env w → xs Tryz.prog isI isS hs H full K (l1 ++ l2) env w
 | [], _, _, _, h => h
 | _ :: _, _, _, _, ⟨g, hg, h1, h2⟩ => ⟨g, hg, fun hh => ⟨(h1 hh).1, acts_monoH (fun _ _ hx => xs_app2 hx) (h1 hh).2⟩, fun hh => xs_app2 (h2 hh)⟩
theorem early {w0 w00 : Fm} {m : Nat} {ih : Cl} {res : Rs} {σ0 : Mem} {ρ0 : Pl} {ws : World} {nh : List Nt} {nm : List Mem} {k : Kr} (hr : res ≠ .no) (hih : ∀ F, CallS F ih) (hk : ∀ F, Mono F m res nh nm k) (hho : ∀ n ∈ nh, Hold σ0 nm n) (hM0 : MR w00 ρ0 σ0 ws) {hs0 : List Nat} {full post : List Oper} {preB : List (Oper × Bool)} {d d2 : Tmp} {op : Op} {ty : TypeId} {pos : String} {af : Array Edge} (hm : isMk op = true) (hcl : cls isI isS op = .w)
  (hd : ∀ o ∈ preB.map Prod.fst, o.dst ≠ some d) (hx : ∀ o ∈ preB.map Prod.fst, ∀ t, Operand.tmp t ∈ op.operands.toList → o.dst ≠ some t) (hself : Operand.tmp d ∉ op.operands.toList) {e : En} {σ : Mem} {ρ : Pl} {env : Env} {w : World} (hu : Up ρ0 ρ) (hE : ER m ρ e env) (hM : MR w0 ρ σ w) (hnd : elk m e d = none) (hH : HH ρ0 nh w)
  (h : (regF m hs0 full d d2 preB).f ih e σ (fun e σ => (orH m hs0 full ⟨some d, op, ty, pos, af, none⟩).f ih e σ fun e σ => (regH m hs0 full post).f ih e σ k) = res) :
  xs Tryz.prog isI isS hs0 (HH ρ0 nh) full.toArray (fun env' w' => ∃ e1 σ1 ρ', k e1 σ1 = res ∧ Up ρ ρ' ∧ ER m ρ' e1 env' ∧ MR w0 ρ' σ1 w') (⟨some d, op, ty, pos, af, none⟩ :: (preB.map Prod.fst ++ post)) env w := by
 have opnd : ∀ {env' : Env}, (∀ t, (∀ o ∈ preB.map Prod.fst, o.dst ≠ some t) → look env' t = look env t) → ∀ x ∈ op.operands.toList, evo env x = evo env' x := fun {env'} hl x hxm => by
  cases x with
  | tmp t => exact (hl t fun o ho => hx o ho t hxm).symm
  | _ => rfl
 obtain ⟨envd, wd, ed, σd, ρd, d1, _, d3, _, d5⟩ := dryF hr (hih w0) hE hM h
 obtain ⟨el, l, vs, cs, n, z, av, mv, _, _, _, _, _, _, b6⟩ := mk_inv (d := d) (ty := ty) (pos := pos) (af := af) hr hm d3 (mkH_inv hr hm d1)
 obtain ⟨r1, r2⟩ := b6 env w (opnd d5)
 have hE1 : Ext w (w.alloc (.cells cs el)) := Fr.alloc _ _ _
 have hH1 := HH.ext hH hE1
 refine xw r1 hcl r2 ?_ hH1
 have hM1 := hM.keep hE1
 have hE2 : ER m ρ e (Eng.put env (some d) (mv w.heap.size)) := fun t a ha => by
  obtain ⟨v, q1, q2⟩ := hE t a ha
  refine ⟨v, ?_, q2⟩
  rw [look_put_ne (fun hh => ?_)]
  ·exact q1
  ·injection hh with hh
   subst hh
   rw [hnd] at ha; cases ha
 refine xs_app2 ?_
 refine xs_monoH (fun env' w' hh => ?_) (xs_keep (s_regF hr (hih _) (Mono.op hr (hih _) (Mono.reg hr (hih _) (hk _) post)) hho hM0 hu hE2 hM1 h))
 obtain ⟨⟨e1, σ1, ρ1, c1, c2, c3, c4⟩, c5⟩ := hh
 obtain ⟨g1, g2, g3⟩ := hM.back hE1 (by simp) c4
 have hl : ∀ t, t ≠ d → (∀ o ∈ preB.map Prod.fst, o.dst ≠ some t) → look env' t = look env t := fun t hne ht => (c5 t ht).trans (look_put_ne fun hh => hne (by injection hh with hh; exact hh.symm))
 have hld : look env' d = some (mv w.heap.size) := (c5 d hd).trans (by simp [Eng.put, look_cons])
 obtain ⟨el', l', vs', cs', n', z', av', mv', a1, a2, a3, a4, a5, _, a6⟩ := mk_inv (d := d) (ty := ty) (pos := pos) (af := af) hr hm c3 (mkH_inv hr hm c1)
 obtain ⟨_, r3⟩ := a6 env w fun x hxm => by
  cases x with
  | tmp t => exact (hl t (fun hh => hself (by rw [← hh]; exact hxm)) fun o ho => hx o ho t hxm).symm
  | _ => rfl
 rw [r2] at r3
 injection r3 with hv hw
 injection hv with hv
 have hB : Bk w' w.heap.size el' cs' := g3 _ _ (by rw [hw]; exact Blk.bk (Blk.new _ _ _))
 obtain ⟨ob, σ2, q1, q2, q3, q4, q5, q6, q7⟩ := newK_inv hr a1
 have hM2 := g1.more (S := noneB) n' z' a4 q1 q2 (fun o ho => by rw [q4 o]; exact List.getElem?_eq_none (by omega)) (fun o x hx => by
  rw [q4 o] at hx
  obtain ⟨v, h3, h4⟩ := a2.get o x hx
  exact ⟨v, a3 o v h3, h4⟩) q5 q6 hB (Fr.refl _ _) (fun id o p s1 s2 => ⟨g2 id o p s1 s2, fun hh => hh⟩) (fun b hh => hh.elim) (.inl hM.old.size)
 obtain ⟨e2, t1, _, _, t4⟩ := puW_inv q7
 have hlast : (ρ1 ++ [(⟨w.heap.size, n', z'⟩ : At)])[σ1.n]? = some ⟨w.heap.size, n', z'⟩ := by rw [← g1.len]; simp
 have hE3 : ER m (ρ1 ++ [(⟨w.heap.size, n', z'⟩ : At)]) ⟨e2.vs, e2.ts, e2.hs, σ2 :: e2.ms⟩ env' := fun t a ha => by
  rcases t4 t a ha with ⟨hh, rfl⟩ | ⟨hh, ha⟩
  ·injection hh with hh
   subst hh
   exact ⟨_, hld, by rw [hv]; exact a5 _ _ _ hlast⟩
  ·obtain ⟨v, s1, s2⟩ := c3 t a ha
   exact ⟨v, s1, s2.up (Up.snoc _ _)⟩
 refine xs_monoH (fun env'' w'' hh => ?_) (s_regK hr (hih _) (hk _) hho hM0 ((hu.trans c2).trans (Up.snoc _ _)) hE3 hM2 t1)
 obtain ⟨e3, σ3, ρ3, v1, v2, v3, v4⟩ := hh
 exact ⟨e3, σ3, ρ3, v1, (c2.trans (Up.snoc _ _)).trans v2, v3, v4⟩
theorem opsAt_map {l : List Oper} : ∀ {is : List Nat} {os : List Oper}, opsAt l is = some os → is.map (l.toArray[·]?) = os.map some
 | [], os, h => by
  have h : some [] = some os := h
  obtain rfl := Option.some.inj h
  rfl
 | i :: is, os, h => by
  have h : (match l[i]?, opsAt l is with
   | some o, some r => some (o :: r)
   | _, _ => none) = some os := h
  split at h
  ·rename_i o r h1 h2
   obtain rfl := Option.some.inj h
   rw [List.map_cons, List.map_cons, opsAt_map h2, List.getElem?_toArray, h1]
  ·cases h
def xf (hs : List Nat) (H : World → Prop) (full : Array Oper) (K : Env → World → Prop) (f : Oper) (post : List Oper) : List (Oper × Bool) → Env → World → Prop
 | [], env, w => xs Tryz.prog isI isS hs H full K (f :: post) env w
 | (o, b) :: pre, env, w => (b = true → H w → xs Tryz.prog isI isS hs H full K (f :: (o :: pre.map Prod.fst ++ post)) env w) ∧ xs Tryz.prog isI isS hs H full (xf hs H full K f post pre) [o] env w
theorem xg_k {hs : List Nat} {H : World → Prop} {full : Array Oper} {N : Nat} {A : Array Nat} {K : Env → World → Prop} (hR : RegOK full N A) {is l : List Nat} {ops : List Oper} {env : Env} {w : World} (h1 : soloL isI isS hs full A l is [] = true) (h2 : is.map (full[·]?) = ops.map some) (h : xs Tryz.prog isI isS hs H full K ops env w) : xg Tryz.prog isI isS hs H full N K l env w :=
 xg_run hR h1 h2 (xs_monoH (fun _ _ hk => xg_end hk) h)
theorem xs_split {hs : List Nat} {H : World → Prop} {full : Array Oper} {K : Env → World → Prop} : ∀ {l1 l2 : List Oper} {env : Env} {w : World}, xs Tryz.prog isI isS hs H full K (l1 ++ l2) env w → xs Tryz.prog isI isS hs H full (fun env' w' => xs Tryz.prog isI isS hs H full K l2 env' w') l1 env w
 | [], _, _, _, h => h
 | _ :: _, _, _, _, ⟨g, hg, h1, h2⟩ => ⟨g, hg, fun hh => ⟨(h1 hh).1, acts_monoH (fun _ _ hx => xs_split hx) (h1 hh).2⟩, fun hh => xs_split (h2 hh)⟩
theorem free_run {hs : List Nat} {H : World → Prop} {full : Array Oper} {N : Nat} {A : Array Nat} {K : Env → World → Prop} (hR : RegOK full N A) {f : Nat} {fo : Oper} (hof : full[f]? = some fo) {post : List Nat} {opost : List Oper} (hp : post.map (full[·]?) = opost.map some) : ∀ {pre : List (Nat × Bool)} {opre : List (Oper × Bool)} {l : List Nat} {env : Env} {w : World}, freeB hs full A f post l pre = true → pre.map Prod.snd = opre.map Prod.snd → (pre.map Prod.fst).map (full[·]?) = (opre.map Prod.fst).map some → xf hs H full K fo opost opre env w → xg Tryz.prog isI isS hs H full N K l env w
 | [], [], l, env, w, h, _, _, hx => xg_k hR (show soloL isI isS hs full A l (f :: post) [] = true from h) (by rw [List.map_cons, List.map_cons, hof, hp]) hx
 | [], _ :: _, _, _, _, _, h, _, _ => by cases h
 | _ :: _, [], _, _, _, _, h, _, _ => by cases h
 | (i, b) :: pre, (o, b') :: opre, l, env, w, h, hb, hm, hx => by
  rw [List.map_cons, List.map_cons, List.cons.injEq] at hb
  obtain ⟨hb, hbs⟩ := hb
  have hb : b = b' := hb
  subst hb
  rw [List.map_cons, List.map_cons, List.map_cons, List.map_cons, List.cons.injEq] at hm
  obtain ⟨ho, hms⟩ := hm
  have ho : full[i]? = some o := ho
  obtain ⟨hx1, hx2⟩ := hx
  have one : freeB hs full A f post (l.erase i) pre = true → xs Tryz.prog isI isS hs H full (xg Tryz.prog isI isS hs H full N K (l.erase i)) [o] env w := fun hq => xs_monoH (fun _ _ hk => free_run hR hof hp hq hbs hms hk) hx2
  cases b with
  | false =>
   have h : ((soloB isI isS hs full A l i || l.filter (rdyB full l) == [i]) && freeB hs full A f post (l.erase i) pre) = true := h
   rw [Bool.and_eq_true, Bool.or_eq_true] at h
   rcases h.1 with h1 | h1
   ·exact xg_solo hR h1 ho (one h.2)
   ·have h1 : l.filter (rdyB full l) = [i] := by simpa using h1
    refine xg_all hR (List.length_pos_of_mem (List.mem_filter.1 (show i ∈ l.filter (rdyB full l) by rw [h1]; simp)).1) fun i' o' hi' ho' => ?_
    rw [h1, List.mem_singleton] at hi'
    subst hi'
    rw [ho] at ho'; obtain rfl := Option.some.inj ho'
    exact one h.2
  | true =>
   have h : ((l.filter (rdyB full l) == [i, f] || l.filter (rdyB full l) == [f, i]) && (soloL isI isS hs full A (l.erase f) (i :: pre.map Prod.fst ++ post) [] && freeB hs full A f post (l.erase i) pre)) = true := h
   rw [Bool.and_eq_true, Bool.and_eq_true, Bool.or_eq_true] at h
   obtain ⟨h1, h2, h3⟩ := h
   have hmem : ∀ i', i' ∈ l.filter (rdyB full l) → i' = i ∨ i' = f := fun i' hi' => by
    rcases h1 with h1 | h1
    ·have h1 : l.filter (rdyB full l) = [i, f] := by simpa using h1
     rw [h1] at hi'; simpa using hi'
    ·have h1 : l.filter (rdyB full l) = [f, i] := by simpa using h1
     rw [h1] at hi'
     have : i' = f ∨ i' = i := by simpa using hi'
     exact this.symm
   have hin : i ∈ l.filter (rdyB full l) := by
    rcases h1 with h1 | h1
    ·have h1 : l.filter (rdyB full l) = [i, f] := by simpa using h1
     rw [h1]; simp
    ·have h1 : l.filter (rdyB full l) = [f, i] := by simpa using h1
     rw [h1]; simp
   intro hn hc hw a ha
   refine xg_all hR (List.length_pos_of_mem (List.mem_filter.1 hin).1) (fun i' o' hi' ho' => ?_) hn hc hw a ha
   rcases hmem i' hi' with rfl | rfl
   ·rw [ho] at ho'; obtain rfl := Option.some.inj ho'
    exact one h3
   ·rw [hof] at ho'; obtain rfl := Option.some.inj ho'
    have hx3 := hx1 rfl hw
    refine xs_cons (K := xg Tryz.prog isI isS hs H full N K (l.erase i')) (rest := []) ?_
    refine xs_monoH (fun env' w' hk => ?_) (xs_split (l1 := [fo]) hx3)
    refine xg_k hR h2 (ops := (o :: opre.map Prod.fst) ++ opost) ?_ hk
    rw [List.map_append, List.map_append, hp, List.map_cons, List.map_cons, ho, hms]
theorem mk_cls {op : Op} (h : isMk op = true) : cls isI isS op = .w := by
 cases op <;> first | rfl | cases h
theorem readsT_no {op : Op} {t : Nat} (h : readsT op t = false) : Operand.tmp t ∉ op.operands.toList := fun hm => by
 unfold readsT at h
 rw [List.any_eq_false] at h
 exact h _ hm (Nat.beq_refl t)
theorem offF_spec {d : Nat} {op : Op} {o : Oper} (h : offF d op o = true) : o.dst ≠ some d ∧ ∀ t, Operand.tmp t ∈ op.operands.toList → o.dst ≠ some t := by
 unfold offF at h
 split at h
 ·rename_i t ht
  rw [Bool.not_eq_true', Bool.or_eq_false_iff] at h
  refine ⟨fun e => ?_, fun t' hm e => ?_⟩
  ·rw [ht] at e
   obtain rfl := Option.some.inj e
   rw [Nat.beq_refl] at h
   cases h.1
  ·rw [ht] at e
   obtain rfl := Option.some.inj e
   exact readsT_no h.2 hm
 ·rename_i ht
  exact ⟨fun e => (by rw [ht] at e; cases e), fun t _ e => (by rw [ht] at e; cases e)⟩
theorem run_xf {w0 w00 : Fm} {m : Nat} {ih : Cl} {res : Rs} {σ0 : Mem} {ρ0 : Pl} {ws : World} {nh : List Nt} {nm : List Mem} {k : Kr} (hr : res ≠ .no) (hih : ∀ F, CallS F ih) (hk : ∀ F, Mono F m res nh nm k) (hho : ∀ n ∈ nh, Hold σ0 nm n) (hM0 : MR w00 ρ0 σ0 ws) {hs0 : List Nat} {full post : List Oper} {d d2 : Tmp} {op : Op} {ty : TypeId} {pos : String} {af : Array Edge} (hm : isMk op = true) (hself : readsT op d = false) {K : Env → World → Prop}
  (hK : ∀ env' w' e1 σ1 ρ', k e1 σ1 = res → Up ρ0 ρ' → ER m ρ' e1 env' → MR w0 ρ' σ1 w' → K env' w') : ∀ {preB : List (Oper × Bool)} {e : En} {σ : Mem} {ρ : Pl} {env : Env} {w : World}, farF d op preB = true → Up ρ0 ρ → ER m ρ e env → MR w0 ρ σ w →
  (regF m hs0 full d d2 preB).f ih e σ (fun e σ => (orH m hs0 full ⟨some d, op, ty, pos, af, none⟩).f ih e σ fun e σ => (regH m hs0 full post).f ih e σ k) = res → xf hs0 (HH ρ0 nh) full.toArray K ⟨some d, op, ty, pos, af, none⟩ post preB env w
 | [], e, σ, ρ, env, w, hf, hu, hE, hM, h => by
  refine xs_monoH (fun env' w' hh => ?_) (s_regK hr (hih w0) (hk w0) hho hM0 (l := ⟨some d, op, ty, pos, af, none⟩ :: post) hu hE hM h)
  obtain ⟨e1, σ1, ρ1, k1, k2, k3, k4⟩ := hh
  exact hK _ _ e1 σ1 ρ1 k1 (hu.trans k2) k3 k4
 | (o, b) :: preB, e, σ, ρ, env, w, hf, hu, hE, hM, h => by
  have hfar : farF d op preB = true := by
   cases b with
   | true =>
    have hf : (offF d op o && preB.all (fun x => offF d op x.1) && farF d op preB) = true := hf
    rw [Bool.and_eq_true] at hf
    exact hf.2
   | false => exact hf
  refine ⟨fun hb hH => ?_, ?_⟩
  ·subst hb
   have hf : (offF d op o && preB.all (fun x => offF d op x.1) && farF d op preB) = true := hf
   rw [Bool.and_eq_true, Bool.and_eq_true] at hf
   have hoff : ∀ o' ∈ ((o, true) :: preB).map Prod.fst, offF d op o' = true := fun o' ho' => by
    rw [List.map_cons] at ho'
    rcases List.mem_cons.1 ho' with rfl | ho'
    ·exact hf.1.1
    ·obtain ⟨x, hx, rfl⟩ := List.mem_map.1 ho'
     exact List.all_eq_true.1 hf.1.2 x hx
   have h2 : (regF m hs0 full d d2 ((o, true) :: preB)).f ih (delE d (delE d2 e)) σ (fun e σ => (orH m hs0 full ⟨some d, op, ty, pos, af, none⟩).f ih e σ fun e σ => (regH m hs0 full post).f ih e σ k) = res := by
    show (orH m hs0 full o).f ih (delE d (delE d2 (delE d (delE d2 e)))) σ _ = res
    rw [delE_two]; exact h
   refine xs_monoH (fun env' w' hh => ?_) (early (preB := (o, true) :: preB) hr hih hk hho hM0 hm (mk_cls hm) (fun o' ho' => (offF_spec (hoff o' ho')).1) (fun o' ho' => (offF_spec (hoff o' ho')).2) (readsT_no hself) hu hE.del.del hM (by rw [elk_del, if_pos rfl]) hH h2)
   obtain ⟨e1, σ1, ρ1, k1, k2, k3, k4⟩ := hh
   exact hK _ _ e1 σ1 ρ1 k1 (hu.trans k2) k3 k4
  ·refine xs_monoH (fun env' w' hh => ?_) (s_regK hr (hih w0) (Mono.regF hr (hih w0) (Mono.op hr (hih w0) (Mono.reg hr (hih w0) (hk w0) post)) preB) hho hM0 (l := [o]) hu ((hE.del (d := d2)).del (d := d)) hM h)
   obtain ⟨e1, σ1, ρ1, k1, k2, k3, k4⟩ := hh
   exact run_xf hr hih hk hho hM0 hm hself hK hfar (hu.trans k2) k3 k4 k1
theorem wp_free {N : Nat} {id : Nat} {l : List Oper} {env : Env} {w : World} {a : Act} {K : Env → World → Prop} {Q : Exit → Act → World → Prop} (hs : List Nat) (H : World → Prop) (hd : dstOK N l.toArray = true) (hq : ancOK l.toArray (Region.before l.toArray) = true) (hw : H w.drew) (ha : Fits N env a)
  (hQ : ∀ a' env' w', Fits N env' a' → K env' w' → Q .normal a' w')
  (h : RegOK l.toArray N (Region.before l.toArray) → xg Tryz.prog isI isS hs H l.toArray N K (List.range l.toArray.size) env w.drew) : (Code.region id l.toArray true).wp Tryz.prog Q a w := by
 have hR := Eng.regOK hd hq
 have h' := h hR List.nodup_range (fun i o ho hi => absurd (List.mem_range.2 (Array.getElem?_eq_some_iff.1 ho).1) hi) hw a ha
 rw [List.length_range] at h'
 refine wp_region_any mixed ?_
 refine wpAny_of_sch (P := Tryz.prog) (isI := isI) (isS := isS) (hs := hs) (H := H) hR.a (K := fun a' w' => ∃ env', Fits N env' a' ∧ K env' w') (fun a' w' ⟨env', hf, ht⟩ => hQ a' env' w' hf ht) l.toArray.size _ (List.range l.toArray.size) a _ hw (by simp) (by simp) List.nodup_range (fun i => ?_) h'
 rw [List.mem_range]
 simp [Array.getD_eq_getD_getElem?, Array.getElem?_replicate]
 intro hi
 simp [hi]
end Rn
end Eng
end Go.Proofs.YtoheknblphcloaaGreatDoor
namespace Go.Proofs.YtoheknblphcloaaGreatDoor
open Go.RowKit
namespace Eng
namespace Rn
theorem bsT_inv {op : Op} {t : TypeId} (h : bsT op = some t) : ∃ n ps, op = .buildSlice t n ps ∧ isMk op = true := by
 unfold bsT at h
 split at h
 ·rename_i t' n ps
  split at h
  ·rename_i hn
   obtain rfl := Option.some.inj h
   exact ⟨n, ps, rfl, hn⟩
  ·cases h
 ·cases h
theorem isCv_inv {d : Nat} {t : TypeId} {op : Op} (h : isCv d t op = true) : ∃ u el, op = .convert t u (.tmp d) ∧ isS u = true ∧ isS t = false ∧ elemOf t = some (el, 1) ∧ kindOf el = some .u8 := by
 unfold isCv at h
 split at h
 ·rename_i s u x
  rw [Bool.and_eq_true, Bool.and_eq_true, Bool.and_eq_true, Bool.and_eq_true, Bool.not_eq_true'] at h
  obtain ⟨h1, h2, h3, h4, h5⟩ := h
  have h1 := Nat.eq_of_beq_eq_true h1
  have h2 := Nat.eq_of_beq_eq_true h2
  subst h1; subst h2
  split at h5
  ·rename_i el hel
   split at h5
   ·rename_i hk
    exact ⟨u, el, rfl, h3, h4, hel, hk⟩
   ·cases h5
  ·cases h5
 ·cases h
theorem farG_spec {d2 : Nat} : ∀ {l : List (Oper × Bool)}, farG d2 l = true → ∀ o ∈ l.map Prod.fst, o.dst ≠ some d2
 | [], _, o, ho => by cases ho
 | x :: l, h, o, ho => by
  have h : ((match x.1.dst with
   | some t => !Nat.beq t d2
   | none => true) && farG d2 l) = true := h
  rw [Bool.and_eq_true] at h
  rw [List.map_cons] at ho
  rcases List.mem_cons.1 ho with rfl | ho
  ·intro e
   have h1 := h.1
   rw [e] at h1
   simp at h1
  ·exact farG_spec h.2 o ho
def xf2 (hs : List Nat) (H : World → Prop) (full : Array Oper) (K : Env → World → Prop) (f g : Oper) (post : List Oper) : List (Oper × Bool) → Env → World → Prop
 | [], env, w => xs Tryz.prog isI isS hs H full K (f :: g :: post) env w
 | (o, b) :: pre, env, w => (b = true → H w → xs Tryz.prog isI isS hs H full (xf hs H full K g post ((o, b) :: pre)) [f] env w) ∧ xs Tryz.prog isI isS hs H full (xf2 hs H full K f g post pre) [o] env w
theorem freg_run {hs : List Nat} {H : World → Prop} {full : Array Oper} {N : Nat} {A : Array Nat} {K : Env → World → Prop} (hR : RegOK full N A) {f g : Nat} {fo go : Oper} (hof : full[f]? = some fo) (hog : full[g]? = some go) {post : List Nat} {opost : List Oper} (hp : post.map (full[·]?) = opost.map some) : ∀ {pre : List (Nat × Bool)} {opre : List (Oper × Bool)} {l : List Nat} {env : Env} {w : World}, freeG hs full A f g post l pre = true → pre.map Prod.snd = opre.map Prod.snd → (pre.map Prod.fst).map (full[·]?) = (opre.map Prod.fst).map some → xf2 hs H full K fo go opost opre env w → xg Tryz.prog isI isS hs H full N K l env w
 | [], [], l, env, w, h, _, _, hx => xg_k hR (show soloL isI isS hs full A l (f :: g :: post) [] = true from h) (by rw [List.map_cons, List.map_cons, List.map_cons, List.map_cons, hof, hog, hp]) hx
 | [], _ :: _, _, _, _, _, h, _, _ => by cases h
 | _ :: _, [], _, _, _, _, h, _, _ => by cases h
 | (i, b) :: pre, (o, b') :: opre, l, env, w, h, hb, hm, hx => by
  have hb0 := hb
  have hm0 := hm
  rw [List.map_cons, List.map_cons, List.cons.injEq] at hb
  obtain ⟨hb, hbs⟩ := hb
  have hb : b = b' := hb
  subst hb
  rw [List.map_cons, List.map_cons, List.map_cons, List.map_cons, List.cons.injEq] at hm
  obtain ⟨ho, hms⟩ := hm
  have ho : full[i]? = some o := ho
  obtain ⟨hx1, hx2⟩ := hx
  have one : freeG hs full A f g post (l.erase i) pre = true → xs Tryz.prog isI isS hs H full (xg Tryz.prog isI isS hs H full N K (l.erase i)) [o] env w := fun hq => xs_monoH (fun _ _ hk => freg_run hR hof hog hp hq hbs hms hk) hx2
  cases b with
  | false =>
   have h : ((soloB isI isS hs full A l i || l.filter (rdyB full l) == [i]) && freeG hs full A f g post (l.erase i) pre) = true := h
   rw [Bool.and_eq_true, Bool.or_eq_true] at h
   rcases h.1 with h1 | h1
   ·exact xg_solo hR h1 ho (one h.2)
   ·have h1 : l.filter (rdyB full l) = [i] := by simpa using h1
    refine xg_all hR (List.length_pos_of_mem (List.mem_filter.1 (show i ∈ l.filter (rdyB full l) by rw [h1]; simp)).1) fun i' o' hi' ho' => ?_
    rw [h1, List.mem_singleton] at hi'
    subst hi'
    rw [ho] at ho'; obtain rfl := Option.some.inj ho'
    exact one h.2
  | true =>
   have h : ((l.filter (rdyB full l) == [i, f] || l.filter (rdyB full l) == [f, i]) && (freeB hs full A g post (l.erase f) ((i, true) :: pre) && freeG hs full A f g post (l.erase i) pre)) = true := h
   rw [Bool.and_eq_true, Bool.and_eq_true, Bool.or_eq_true] at h
   obtain ⟨h1, h2, h3⟩ := h
   have hmem : ∀ i', i' ∈ l.filter (rdyB full l) → i' = i ∨ i' = f := fun i' hi' => by
    rcases h1 with h1 | h1
    ·have h1 : l.filter (rdyB full l) = [i, f] := by simpa using h1
     rw [h1] at hi'; simpa using hi'
    ·have h1 : l.filter (rdyB full l) = [f, i] := by simpa using h1
     rw [h1] at hi'
     have : i' = f ∨ i' = i := by simpa using hi'
     exact this.symm
   have hin : i ∈ l.filter (rdyB full l) := by
    rcases h1 with h1 | h1
    ·have h1 : l.filter (rdyB full l) = [i, f] := by simpa using h1
     rw [h1]; simp
    ·have h1 : l.filter (rdyB full l) = [f, i] := by simpa using h1
     rw [h1]; simp
   intro hn hc hw a ha
   refine xg_all hR (List.length_pos_of_mem (List.mem_filter.1 hin).1) (fun i' o' hi' ho' => ?_) hn hc hw a ha
   rcases hmem i' hi' with rfl | rfl
   ·rw [ho] at ho'; obtain rfl := Option.some.inj ho'
    exact one h3
   ·rw [hof] at ho'; obtain rfl := Option.some.inj ho'
    exact xs_monoH (fun _ _ hk => free_run hR hog hp h2 hb0 hm0 hk) (hx1 rfl hw)
def GV (t u el : TypeId) (cs : Array Value) (n : Nat) (r : List Nat) : Prop := (∀ c ∈ r, c < 256) ∧ r.length ≤ maxLen ∧ ∀ (b : Nat) (w : World), Bk w b el cs → (convert t u (.slice (some ⟨b, 0, none⟩) n n)).run Tryz.prog w = .ok (.string (su (uOf r))) w
theorem GV.one {t u el : TypeId} {cs : Array Value} {n : Nat} {r r' : List Nat} (h : GV t u el cs n r) (h' : GV t u el cs n r') {b : Nat} {w : World} (hB : Bk w b el cs) : su (uOf r) = su (uOf r') := by
 have h1 := h.2.2 b w hB
 rw [h'.2.2 b w hB] at h1
 injection h1 with h1
 injection h1 with h1
 exact h1.symm
theorem Bk.cellAt {w : World} {b : Nat} {el : TypeId} {cs : Array Value} (h : Bk w b el cs) {j : Nat} {v : Value} (hv : cs[j]? = some v) : w.cell? ⟨b, j, none⟩ = some v := (h.cell j).trans hv
theorem srK_lx {σ : Mem} {z id z' j n q : Nat} {k : Nat → List SV → Rs} : srK σ z (.v (.lx id z' j n q)) k = rdK σ id (Nat.mul j z') (Nat.mul n z) fun l => k n l := rfl
theorem g_inv {m : Nat} {ih : Cl} {res : Rs} (hr : res ≠ .no) {hs0 : List Nat} {full : List Oper} {c : Kr} {e : En} {σ : Mem} {ρ : Pl} {d d2 : Tmp} {t u el : TypeId} {ty : TypeId} {pos : String} {af : Array Edge} {id n : Nat} {ob : Ob} {l : List SV} {vs : List Value} (hS : isS u = true) (hSt : isS t = false) (hel : elemOf t = some (el, 1)) (hk8 : kindOf el = some .u8) (hmem : memb hs0 (some d2) = false)
  (hd : ∀ a, elk m e d = some a → a = .v (.lx id 1 0 n n)) (hob : oget σ id = some ob) (hl : ∀ o, tget ob.d o ob.m = l[o]?) (hv : SRs ρ l vs) (hlen : vs.length = n)
  (h : (orH m hs0 full ⟨some d2, .convert t u (.tmp d), ty, pos, af, none⟩).f ih e σ c = res) : ∃ r e', GV t u el vs.toArray n r ∧ c e' σ = res ∧ e'.hs = e.hs ∧ e'.ms = e.ms ∧ ∀ x a, elk m e' x = some a → (some d2 = some x ∧ a = .v (.s r)) ∨ (some d2 ≠ some x ∧ elk m e x = some a) := by
 have hcl : cls isI isS (.convert t u (.tmp d)) = .r := by simp [cls, isI_str hS, hS]
 have hku : kindOf u = none := by
  cases hk : kindOf u with
  | none => rfl
  | some k =>
   have h1 := isI_str hS
   unfold isI at h1
   rw [hk] at h1
   cases h1
 unfold orH at h
 split at h
 ·exact absurd h.symm hr
 ·dsimp only at h
  rw [hcl] at h
  dsimp only at h
  rw [hmem] at h
  have h : (cvW m t u (.tmp d)).f ih e σ (fun v σ' => (puW m (some d2)).f e v fun e => c e σ') = res := h
  clear hmem
  have hcv : cvW m t u (.tmp d) = ⟨fun _ e σ c => (gtW m (.tmp d)).f e fun v => srK σ 1 v fun _ l => byK l fun l => okK (Nat.ble l.length maxLen) (c (.v (.s l)) σ)⟩ := by
   unfold cvW
   simp only [hku, hS, hSt, hel, hk8]
  rw [hcv] at h
  obtain ⟨a, h1, h2⟩ := gtT_inv hr (show (gtT m d).f e _ = res from h)
  have ha := hd a h1
  subst ha
  rw [srK_lx] at h2
  obtain ⟨ob', l', g3, g4, g5, g6⟩ := rdK_inv hr h2
  have e1 : Nat.mul 0 1 = 0 := rfl
  have e2 : Nat.mul n 1 = n := Nat.mul_one n
  rw [e1, e2] at g5
  rw [e2] at g4
  have hll : l.length = n := by rw [← hlen, hv.len]
  have hl' : l' = l := by
   apply List.ext_getElem?
   intro i
   by_cases hi : i < n
   ·rw [← g5 i hi, Nat.zero_add]
    unfold cget
    rw [hob]
    exact hl i
   ·rw [List.getElem?_eq_none (by omega), List.getElem?_eq_none (by omega)]
  subst hl'
  obtain ⟨r, f1, f2, f3, f4⟩ := byK_inv hr g6 hv
  obtain ⟨hb, f5⟩ := okK_inv f4 hr
  obtain ⟨e', k1, k3, k4, k2⟩ := puW_inv f5
  refine ⟨r, e', ⟨f2, Nat.le_of_ble_eq_true hb, fun b w hB => ?_⟩, k1, k3, k4, k2⟩
  obtain ⟨hus, _⟩ := elemOf_inv hel
  have hrl : (uOf r).length = n := by
   have h0 : (uOf r).length = r.length := List.length_map _
   omega
  have := run_convert_bytes_back (P := Tryz.prog) w t u el ⟨b, 0, none⟩ n (uOf r) hus (kind_spec hk8) (str_spec hS) (fun i hi => by
   rw [Addr.add_lit, Nat.zero_add]
   refine hB.cellAt ?_
   rw [f3]
   simp [List.getElem?_eq_getElem hi])
  rw [hrl] at this
  exact this
theorem ER.delput {m : Nat} {ρ : Pl} {e : En} {env : Env} {d : Nat} {v : Value} (h : ER m ρ e env) : ER m ρ (delE d e) (Eng.put env (some d) v) := fun t a ha => by
 rw [elk_del] at ha
 split at ha
 ·cases ha
 ·rename_i hne
  obtain ⟨u, h1, h2⟩ := h t a ha
  exact ⟨u, by rw [look_put_ne (fun hh => hne (Option.some.inj hh))]; exact h1, h2⟩
theorem look_put_eq {env : Env} {d : Nat} {v : Value} : look (Eng.put env (some d) v) d = some v := by simp [Eng.put, look_cons]
theorem alloc_inj {w : World} {cs cs' : Array Value} {el el' : TypeId} (h : w.alloc (.cells cs el) = w.alloc (.cells cs' el')) : cs = cs' ∧ el = el' := by
 have h1 : Blk (w.alloc (.cells cs el)) w.heap.size el cs := Blk.new _ _ _
 have h2 : Blk (w.alloc (.cells cs' el')) w.heap.size el' cs' := Blk.new _ _ _
 rw [← h] at h2
 have h3 := Eq.trans h1.symm h2
 injection h3 with h3
 injection h3 with h4 h5
 exact ⟨h4, h5⟩
section
variable {w0 : Fm} {m : Nat} {ih : Cl} {res : Rs} (hr : res ≠ .no) {hs0 : List Nat} {full : List Oper} {d : Tmp} {t : TypeId} {nn : Nat} {ps : Array (Nat × Operand)} {ty : TypeId} {pos : String} {af : Array Edge} (hm : isMk (.buildSlice t nn ps) = true) {el0 : TypeId} (hel : elemOf t = some (el0, 1)) {ρ : Pl} {σ : Mem} {w : World} (hM : MR w0 ρ σ w) {el : TypeId} {cs : Array Value} {n : Nat} (hE1 : Ext w (w.alloc (.cells cs el))) {env0 : Env} (hrun : (execOp (ev env0) ⟨some d, .buildSlice t nn ps, ty, pos, af, none⟩).run Tryz.prog w = .ok (.value (.slice (some ⟨w.heap.size, 0, none⟩) n n)) (w.alloc (.cells cs el)))
include hr hm hel hM hE1 hrun
theorem lateF {ρ1 : Pl} {σ1 : Mem} {w' : World} {e1 : En} {env' : Env} (c3 : ER m ρ1 e1 env') (c4 : MR (Fm.out hM hE1) ρ1 σ1 w') (hld : look env' d = some (.slice (some ⟨w.heap.size, 0, none⟩) n n)) (hops : ∀ x ∈ (Op.buildSlice t nn ps).operands.toList, evo env0 x = evo env' x) {c : Kr} (c1 : (orH m hs0 full ⟨some d, .buildSlice t nn ps, ty, pos, af, none⟩).f ih e1 σ1 c = res) :
  ∃ l vs e3 σ2 ob, c e3 σ2 = res ∧ ER m (ρ1 ++ [(⟨w.heap.size, n, 1⟩ : At)]) e3 env' ∧ MR w0 (ρ1 ++ [(⟨w.heap.size, n, 1⟩ : At)]) σ2 w' ∧ (∀ a, elk m e3 d = some a → a = .v (.lx σ1.n 1 0 n n)) ∧ oget σ2 σ1.n = some ob ∧ (∀ o, tget ob.d o ob.m = l[o]?) ∧ SRs ρ1 l vs ∧ cs = vs.toArray ∧ vs.length = n ∧ el = el0 ∧ Bk w' w.heap.size el cs := by
 obtain ⟨g1, g2, g3⟩ := hM.back hE1 (by simp) c4
 obtain ⟨el', l', vs', cs', n', z', av', mv', a1, a2, a3, a4, a5, a7, a6⟩ := mk_inv (d := d) (ty := ty) (pos := pos) (af := af) hr hm c3 (mkH_inv hr hm c1)
 obtain ⟨k1, k2, k3, k4, k5⟩ := a7 t nn ps rfl
 rw [hel] at k1
 injection k1 with k1
 injection k1 with k1 k6
 subst k1; subst k6; subst k4; subst k5
 obtain ⟨_, r3⟩ := a6 env0 w hops
 rw [hrun] at r3
 injection r3 with hv hw
 injection hv with hv
 injection hv with _ hn _
 subst hn
 obtain ⟨hcs, hee⟩ := alloc_inj hw
 subst hcs; subst hee
 have hB : Bk w' w.heap.size el cs := g3 _ _ (Blk.bk (Blk.new _ _ _))
 obtain ⟨ob, σ2, q1, q2, q3, q4, q5, q6, q7⟩ := newK_inv hr a1
 have hM2 := g1.more (S := noneB) n 1 a4 q1 q2 (fun o ho => by rw [q4 o]; exact List.getElem?_eq_none (by omega)) (fun o x hx => by
  rw [q4 o] at hx
  obtain ⟨v, h3, h4⟩ := a2.get o x hx
  exact ⟨v, a3 o v h3, h4⟩) q5 q6 hB (Fr.refl _ _) (fun id o p s1 s2 => ⟨g2 id o p s1 s2, fun hh => hh⟩) (fun b hh => hh.elim) (.inl hM.old.size)
 obtain ⟨e2, t1, _, _, t4⟩ := puW_inv q7
 have hlast : (ρ1 ++ [(⟨w.heap.size, n, 1⟩ : At)])[σ1.n]? = some ⟨w.heap.size, n, 1⟩ := by rw [← g1.len]; simp
 refine ⟨l', vs', ⟨e2.vs, e2.ts, e2.hs, σ2 :: e2.ms⟩, σ2, ob, t1, fun x a ha => ?_, hM2, fun a ha => ?_, q5, q4, a2, k2, by rw [k3, Nat.mul_one], rfl, hB⟩
 ·rcases t4 x a ha with ⟨hh, rfl⟩ | ⟨hh, ha⟩
  ·injection hh with hh
   subst hh
   exact ⟨_, hld, a5 _ _ _ hlast⟩
  ·obtain ⟨v, s1, s2⟩ := c3 x a ha
   exact ⟨v, s1, s2.up (Up.snoc _ _)⟩
 ·rcases t4 d a ha with ⟨_, rfl⟩ | ⟨hh, _⟩
  ·rfl
  ·exact absurd rfl hh
variable (hih : ∀ F, CallS F ih) {w00 : Fm} {ρ0 : Pl} {σ0 : Mem} {ws : World} {nh : List Nt} {nm : List Mem} {k : Kr} (hk : ∀ F, Mono F m res nh nm k) (hho : ∀ n ∈ nh, Hold σ0 nm n) (hM0 : MR w00 ρ0 σ0 ws) {post : List Oper} {d2 : Tmp} {u : TypeId} {ty2 : TypeId} {pos2 : String} {af2 : Array Edge} (hS : isS u = true) (hSt : isS t = false) (hk8 : kindOf el0 = some .u8) (hmem : memb hs0 (some d2) = false) {K : Env → World → Prop}
 (hK : ∀ env' w' e1 σ1 ρ', k e1 σ1 = res → Up ρ0 ρ' → ER m ρ' e1 env' → MR w0 ρ' σ1 w' → K env' w')
include hih hk hho hM0 hS hSt hk8 hmem hK
theorem stC {preB : List (Oper × Bool)} (hoff : ∀ o ∈ preB.map Prod.fst, offF d (.buildSlice t nn ps) o = true) (hoff2 : ∀ o ∈ preB.map Prod.fst, o.dst ≠ some d2) {e : En} {σ1 : Mem} {ρ1 : Pl} {env : Env} {w' : World} {r : List Nat} (hu : Up ρ0 ρ1) (hE : ER m ρ1 e env) (c4 : MR (Fm.out hM hE1) ρ1 σ1 w') (hld : look env d = some (.slice (some ⟨w.heap.size, 0, none⟩) n n)) (hld2 : look env d2 = some (.string (su (uOf r)))) (hops : ∀ x ∈ (Op.buildSlice t nn ps).operands.toList, evo env0 x = evo env x) (hG : GV t u el cs n r)
  (h : (regF m hs0 full d d2 preB).f ih e σ1 (fun e σ => (orH m hs0 full ⟨some d, .buildSlice t nn ps, ty, pos, af, none⟩).f ih e σ fun e σ => (orH m hs0 full ⟨some d2, .convert t u (.tmp d), ty2, pos2, af2, none⟩).f ih e σ fun e σ => (regH m hs0 full post).f ih e σ k) = res) :
  xs Tryz.prog isI isS hs0 (HH ρ0 nh) full.toArray K (preB.map Prod.fst ++ post) env w' := by
 refine xs_app2 ?_
 refine xs_monoH (fun env' w'' hh => ?_) (xs_keep (s_regF hr (hih _) (Mono.op hr (hih _) (Mono.op hr (hih _) (Mono.reg hr (hih _) (hk _) post))) hho hM0 hu hE c4 h))
 obtain ⟨⟨e2, σ2, ρ2, b1, b2, b3, b4⟩, b5⟩ := hh
 have hl : ∀ x, (∀ o ∈ preB.map Prod.fst, o.dst ≠ some x) → look env' x = look env x := b5
 have hld' := (hl d fun o ho => (offF_spec (hoff o ho)).1).trans hld
 have hld2' := (hl d2 hoff2).trans hld2
 have hops' : ∀ x ∈ (Op.buildSlice t nn ps).operands.toList, evo env0 x = evo env' x := fun x hx => (hops x hx).trans (by
  cases x with
  | tmp q => exact (hl q fun o ho => (offF_spec (hoff o ho)).2 q hx).symm
  | _ => rfl)
 obtain ⟨l, vs, e3, σ3, ob, c1, c2, c3, c5, c6, c7, c8, c9, c10, c11, c12⟩ := lateF hr hm hel hM hE1 hrun b3 b4 hld' hops' b1
 obtain ⟨r', e4, q1, q2, q3, q4, q5⟩ := g_inv hr hS hSt hel hk8 hmem c5 c6 c7 c8 c10 c1
 subst c11; subst c9
 have hrr := q1.one hG c12
 have hE4 : ER m (ρ2 ++ [(⟨w.heap.size, n, 1⟩ : At)]) e4 env' := fun x a ha => by
  rcases q5 x a ha with ⟨hh, rfl⟩ | ⟨_, ha⟩
  ·injection hh with hh
   subst hh
   exact ⟨_, hld2', by rw [← hrr]; exact ⟨rfl, q1.1, q1.2.1⟩⟩
  ·exact c2 x a ha
 have hu2 : Up ρ0 (ρ2 ++ [(⟨w.heap.size, n, 1⟩ : At)]) := (hu.trans b2).trans (Up.snoc _ _)
 refine xs_monoH (fun env'' w3 hh => ?_) (s_regK hr (hih _) (hk _) hho hM0 hu2 hE4 c3 q2)
 obtain ⟨e5, σ5, ρ5, v1, v2, v3, v4⟩ := hh
 exact hK _ _ e5 σ5 ρ5 v1 (hu2.trans v2) v3 v4
theorem stB (hself2 : readsT (.buildSlice t nn ps) d2 = false) (hne : d ≠ d2) : ∀ {preB : List (Oper × Bool)} (_ : ∀ o ∈ preB.map Prod.fst, offF d (.buildSlice t nn ps) o = true) (_ : ∀ o ∈ preB.map Prod.fst, o.dst ≠ some d2) {e : En} {σ1 : Mem} {ρ1 : Pl} {env : Env} {w' : World} (_ : Up ρ0 ρ1) (_ : ER m ρ1 e env) (_ : MR (Fm.out hM hE1) ρ1 σ1 w') (_ : look env d = some (.slice (some ⟨w.heap.size, 0, none⟩) n n)) (_ : ∀ x ∈ (Op.buildSlice t nn ps).operands.toList, evo env0 x = evo env x)
  (_ : (regF m hs0 full d d2 preB).f ih e σ1 (fun e σ => (orH m hs0 full ⟨some d, .buildSlice t nn ps, ty, pos, af, none⟩).f ih e σ fun e σ => (orH m hs0 full ⟨some d2, .convert t u (.tmp d), ty2, pos2, af2, none⟩).f ih e σ fun e σ => (regH m hs0 full post).f ih e σ k) = res),
  xf hs0 (HH ρ0 nh) full.toArray K ⟨some d2, .convert t u (.tmp d), ty2, pos2, af2, none⟩ post preB env w'
 | [], hoff, hoff2, e, σ1, ρ1, env, w', hu, hE, c4, hld, hops, h => by
  obtain ⟨l, vs, e3, σ3, ob, c1, c2, c3, _⟩ := lateF hr hm hel hM hE1 hrun hE c4 hld hops (show (orH m hs0 full ⟨some d, .buildSlice t nn ps, ty, pos, af, none⟩).f ih e σ1 (fun e σ => (orH m hs0 full ⟨some d2, .convert t u (.tmp d), ty2, pos2, af2, none⟩).f ih e σ fun e σ => (regH m hs0 full post).f ih e σ k) = res from h)
  have hu2 : Up ρ0 (ρ1 ++ [(⟨w.heap.size, n, 1⟩ : At)]) := hu.trans (Up.snoc _ _)
  refine xs_monoH (fun env'' w3 hh => ?_) (s_regK hr (hih _) (hk _) hho hM0 (l := ⟨some d2, .convert t u (.tmp d), ty2, pos2, af2, none⟩ :: post) hu2 c2 c3 c1)
  obtain ⟨e5, σ5, ρ5, v1, v2, v3, v4⟩ := hh
  exact hK _ _ e5 σ5 ρ5 v1 (hu2.trans v2) v3 v4
 | (o, b) :: preB, hoff, hoff2, e, σ1, ρ1, env, w', hu, hE, c4, hld, hops, h => by
  refine ⟨fun _ _ => ?_, ?_⟩
  ·
   obtain ⟨envd, wd, ed, σd, ρd, d1, _, d3, d4, d5⟩ := dryF hr (hih _) hE c4 h
   have hops' : ∀ x ∈ (Op.buildSlice t nn ps).operands.toList, evo env0 x = evo envd x := fun x hx => (hops x hx).trans (by
    cases x with
    | tmp q => exact (d5 q fun o ho => (offF_spec (hoff o ho)).2 q hx).symm
    | _ => rfl)
   obtain ⟨l, vs, e3, σ3, ob, a1, _, _, a5, a6, a7, a8, a9, a10, a11, _⟩ := lateF hr hm hel hM hE1 hrun d3 d4 ((d5 d fun o ho => (offF_spec (hoff o ho)).1).trans hld) hops' d1
   obtain ⟨r, _, hG, _⟩ := g_inv hr hS hSt hel hk8 hmem a5 a6 a7 a8 a10 a1
   rw [← a11, ← a9] at hG
   obtain ⟨_, _, g3⟩ := hM.back hE1 (by simp) c4
   have hB : Bk w' w.heap.size el cs := g3 _ _ (Blk.bk (Blk.new _ _ _))
   have hcl : clsO isI isS hs0 ⟨some d2, .convert t u (.tmp d), ty2, pos2, af2, none⟩ = .r := by
    have : cls isI isS (.convert t u (.tmp d)) = .r := by simp [cls, isI_str hS, hS]
    simp [clsO, this, hmem]
   have hev : evo env (.tmp d) = some (.slice (some ⟨w.heap.size, 0, none⟩) n n) := hld
   refine x_gen rfl (by simp [opsOK, Op.operands, hev]) ?_
   rw [hcl]
   refine ⟨.string (su (uOf r)), by simp [execOp, ev_of hev, hG.2.2 _ _ hB], ?_⟩
   have h2 : (regF m hs0 full d d2 ((o, b) :: preB)).f ih (delE d (delE d2 e)) σ1 (fun e σ => (orH m hs0 full ⟨some d, .buildSlice t nn ps, ty, pos, af, none⟩).f ih e σ fun e σ => (orH m hs0 full ⟨some d2, .convert t u (.tmp d), ty2, pos2, af2, none⟩).f ih e σ fun e σ => (regH m hs0 full post).f ih e σ k) = res := by
    show (orH m hs0 full o).f ih (delE d (delE d2 (delE d (delE d2 e)))) σ1 _ = res
    rw [delE_two]; exact h
   refine stC hr hm hel hM hE1 hrun hih hk hho hM0 hS hSt hk8 hmem hK (preB := (o, b) :: preB) hoff hoff2 (e := delE d (delE d2 e)) hu hE.delput.del c4 ?_ look_put_eq (fun x hx => (hops x hx).trans ?_) hG h2
   ·exact (look_put_ne (fun hh => hne (Option.some.inj hh).symm)).trans hld
   ·cases x with
    | tmp q => exact (look_put_ne (fun hh => readsT_no hself2 (by rw [Option.some.inj hh]; exact hx))).symm
    | _ => rfl
  ·refine xs_monoH (fun env' w'' hh => ?_) (xs_keep (s_regK hr (hih _) (Mono.regF hr (hih _) (Mono.op hr (hih _) (Mono.op hr (hih _) (Mono.reg hr (hih _) (hk _) post))) preB) hho hM0 (l := [o]) hu ((hE.del (d := d2)).del (d := d)) c4 h))
   obtain ⟨⟨e2, σ2, ρ2, k1, k2, k3, k4⟩, k5⟩ := hh
   have ho : o ∈ ((o, b) :: preB).map Prod.fst := by rw [List.map_cons]; exact List.mem_cons_self
   have hl : ∀ x, o.dst ≠ some x → look env' x = look env x := fun x hx => k5 x fun o' ho' => by rw [List.mem_singleton] at ho'; subst ho'; exact hx
   exact stB hself2 hne (preB := preB) (fun o' ho' => hoff o' (by rw [List.map_cons]; exact List.mem_cons_of_mem _ ho')) (fun o' ho' => hoff2 o' (by rw [List.map_cons]; exact List.mem_cons_of_mem _ ho')) (hu.trans k2) k3 k4 ((hl d (offF_spec (hoff o ho)).1).trans hld) (fun x hx => (hops x hx).trans (by
    cases x with
    | tmp q => exact (hl q ((offF_spec (hoff o ho)).2 q hx)).symm
    | _ => rfl)) k1
end
theorem run_xf2 {w0 w00 : Fm} {m : Nat} {ih : Cl} {res : Rs} {σ0 : Mem} {ρ0 : Pl} {ws : World} {nh : List Nt} {nm : List Mem} {k : Kr} (hr : res ≠ .no) (hih : ∀ F, CallS F ih) (hk : ∀ F, Mono F m res nh nm k) (hho : ∀ n ∈ nh, Hold σ0 nm n) (hM0 : MR w00 ρ0 σ0 ws) {hs0 : List Nat} {full post : List Oper} {d d2 : Tmp} {t u el0 : TypeId} {nn : Nat} {ps : Array (Nat × Operand)} {ty ty2 : TypeId} {pos pos2 : String} {af af2 : Array Edge} (hm : isMk (.buildSlice t nn ps) = true) (hel : elemOf t = some (el0, 1)) (hS : isS u = true) (hSt : isS t = false) (hk8 : kindOf el0 = some .u8) (hmem : memb hs0 (some d2) = false) (hself : readsT (.buildSlice t nn ps) d = false) (hself2 : readsT (.buildSlice t nn ps) d2 = false) (hne : d ≠ d2) {K : Env → World → Prop}
  (hK : ∀ env' w' e1 σ1 ρ', k e1 σ1 = res → Up ρ0 ρ' → ER m ρ' e1 env' → MR w0 ρ' σ1 w' → K env' w') : ∀ {preB : List (Oper × Bool)} {e : En} {σ : Mem} {ρ : Pl} {env : Env} {w : World}, farF d (.buildSlice t nn ps) preB = true → (∀ o ∈ preB.map Prod.fst, o.dst ≠ some d2) → Up ρ0 ρ → ER m ρ e env → MR w0 ρ σ w →
  (regF m hs0 full d d2 preB).f ih e σ (fun e σ => (orH m hs0 full ⟨some d, .buildSlice t nn ps, ty, pos, af, none⟩).f ih e σ fun e σ => (orH m hs0 full ⟨some d2, .convert t u (.tmp d), ty2, pos2, af2, none⟩).f ih e σ fun e σ => (regH m hs0 full post).f ih e σ k) = res → xf2 hs0 (HH ρ0 nh) full.toArray K ⟨some d, .buildSlice t nn ps, ty, pos, af, none⟩ ⟨some d2, .convert t u (.tmp d), ty2, pos2, af2, none⟩ post preB env w
 | [], e, σ, ρ, env, w, hf, hf2, hu, hE, hM, h => by
  refine xs_monoH (fun env' w' hh => ?_) (s_regK hr (hih w0) (hk w0) hho hM0 (l := ⟨some d, .buildSlice t nn ps, ty, pos, af, none⟩ :: ⟨some d2, .convert t u (.tmp d), ty2, pos2, af2, none⟩ :: post) hu hE hM h)
  obtain ⟨e1, σ1, ρ1, k1, k2, k3, k4⟩ := hh
  exact hK _ _ e1 σ1 ρ1 k1 (hu.trans k2) k3 k4
 | (o, b) :: preB, e, σ, ρ, env, w, hf, hf2, hu, hE, hM, h => by
  have hfar : farF d (.buildSlice t nn ps) preB = true := by
   cases b with
   | true =>
    have hf : (offF d (.buildSlice t nn ps) o && preB.all (fun x => offF d (.buildSlice t nn ps) x.1) && farF d (.buildSlice t nn ps) preB) = true := hf
    rw [Bool.and_eq_true] at hf
    exact hf.2
   | false => exact hf
  refine ⟨fun hb hH => ?_, ?_⟩
  ·subst hb
   have hf : (offF d (.buildSlice t nn ps) o && preB.all (fun x => offF d (.buildSlice t nn ps) x.1) && farF d (.buildSlice t nn ps) preB) = true := hf
   rw [Bool.and_eq_true, Bool.and_eq_true] at hf
   have hoff : ∀ o' ∈ ((o, true) :: preB).map Prod.fst, offF d (.buildSlice t nn ps) o' = true := fun o' ho' => by
    rw [List.map_cons] at ho'
    rcases List.mem_cons.1 ho' with rfl | ho'
    ·exact hf.1.1
    ·obtain ⟨x, hx, rfl⟩ := List.mem_map.1 ho'
     exact List.all_eq_true.1 hf.1.2 x hx
   have h2 : (regF m hs0 full d d2 ((o, true) :: preB)).f ih (delE d (delE d2 e)) σ (fun e σ => (orH m hs0 full ⟨some d, .buildSlice t nn ps, ty, pos, af, none⟩).f ih e σ fun e σ => (orH m hs0 full ⟨some d2, .convert t u (.tmp d), ty2, pos2, af2, none⟩).f ih e σ fun e σ => (regH m hs0 full post).f ih e σ k) = res := by
    show (orH m hs0 full o).f ih (delE d (delE d2 (delE d (delE d2 e)))) σ _ = res
    rw [delE_two]; exact h
   obtain ⟨envd, wd, ed, σd, ρd, d1, _, d3, _, d5⟩ := dryF hr (hih w0) hE.del.del hM h2
   obtain ⟨el, l, vs, cs, n, z, av, mv, _, _, _, _, _, b7, b6⟩ := mk_inv (d := d) (ty := ty) (pos := pos) (af := af) hr hm d3 (mkH_inv hr hm d1)
   obtain ⟨_, _, _, _, k5⟩ := b7 t nn ps rfl
   subst k5
   obtain ⟨r1, r2⟩ := b6 env w (fun x hxm => by
    cases x with
    | tmp q => exact (d5 q fun o' ho' => (offF_spec (hoff o' ho')).2 q hxm).symm
    | _ => rfl)
   have hE1 : Ext w (w.alloc (.cells cs el)) := Fr.alloc _ _ _
   refine xw r1 rfl r2 ?_ (HH.ext hH hE1)
   exact stB hr hm hel hM hE1 r2 hih hk hho hM0 hS hSt hk8 hmem hK hself2 hne (preB := (o, true) :: preB) hoff hf2 hu ((hE.del (d := d2)).delput (d := d)) (hM.keep hE1) look_put_eq (fun x hx => by
    cases x with
    | tmp q => exact (look_put_ne (fun hh => readsT_no hself (by rw [Option.some.inj hh]; exact hx))).symm
    | _ => rfl) h2
  ·refine xs_monoH (fun env' w' hh => ?_) (s_regK hr (hih w0) (Mono.regF hr (hih w0) (Mono.op hr (hih w0) (Mono.op hr (hih w0) (Mono.reg hr (hih w0) (hk w0) post))) preB) hho hM0 (l := [o]) hu ((hE.del (d := d2)).del (d := d)) hM h)
   obtain ⟨e1, σ1, ρ1, k1, k2, k3, k4⟩ := hh
   exact run_xf2 hr hih hk hho hM0 hm hel hS hSt hk8 hmem hself hself2 hne hK hfar (fun o' ho' => hf2 o' (by rw [List.map_cons]; exact List.mem_cons_of_mem _ ho')) (hu.trans k2) k3 k4 k1
end Rn
end Eng
end Go.Proofs.YtoheknblphcloaaGreatDoor
namespace Go.Proofs.YtoheknblphcloaaGreatDoor
open Go.RowKit
namespace Eng
namespace Rn
def St (w0 : Fm) (N m : Nat) (ρ : Pl) (e : En) (σ : Mem) (a : Act) (w : World) : Prop := ∃ ρ' env, Up ρ ρ' ∧ ER m ρ' e env ∧ MR w0 ρ' σ w ∧ Fits N env a
theorem St.up {N m : Nat} {ρ ρ' : Pl} {e : En} {σ : Mem} {a : Act} {w0 : Fm} {w : World} (h : St w0 N m ρ' e σ a w) (hu : Up ρ ρ') : St w0 N m ρ e σ a w := by
 obtain ⟨r, env, h1, h2⟩ := h
 exact ⟨r, env, hu.trans h1, h2⟩
def exM : Ex → Exit → Prop
 | .nrm, .normal => True
 | .ext n, .exit k => n = k
 | .gto n, .goto k => n = k
 | .ret, .ret => True
 | _, _ => False
def Post (w0 : Fm) (N m : Nat) (ρ : Pl) (res : Rs) : Exit → Act → World → Prop := fun ex a w => ∃ x e σ, res = .mk x e σ ∧ exM x ex ∧ St w0 N m ρ e σ a w
theorem frOK_inv {hs : List Nat} {ops : Array Oper} {A : Array Nat} {f : Nat} {x : Fr0} (h : frOK hs ops A f = some x) : ∃ d op ty pos af pre post opre opost, ops[f]? = some ⟨some d, op, ty, pos, af, none⟩ ∧ isMk op = true ∧ readsT op d = false ∧ freeB hs ops A f post (List.range ops.size) pre = true ∧ opsAt ops.toList (pre.map Prod.fst) = some opre ∧ opsAt ops.toList post = some opost ∧ farF d op (opre.zip (pre.map Prod.snd)) = true ∧ x = ⟨hs, opre.zip (pre.map Prod.snd), d, d, ⟨some d, op, ty, pos, af, none⟩, opost⟩ := by
 unfold frOK at h
 split at h
 ·rename_i d op ty pos af hof
  split at h
  ·rename_i pre post hm hp
   rw [Bool.and_eq_true, Bool.not_eq_true'] at hm
   split at h
   ·rename_i opre opost h1 h2 h3
    split at h
    ·rename_i h4
     exact ⟨d, op, ty, pos, af, pre, post, opre, opost, hof, hm.1, hm.2, h1, h2, h3, h4, (Option.some.inj h).symm⟩
    ·cases h
   ·cases h
  ·cases h
 ·cases h
theorem frOG_inv {hs : List Nat} {ops : Array Oper} {A : Array Nat} {f : Nat} {x : Fr0} (h : frOG hs ops A f = some x) : ∃ d d2 op op2 t ty pos af ty2 pos2 af2 g pre post opre opost, ops[f]? = some ⟨some d, op, ty, pos, af, none⟩ ∧ bsT op = some t ∧ readsT op d = false ∧ ops[g]? = some ⟨some d2, op2, ty2, pos2, af2, none⟩ ∧ isCv d t op2 = true ∧ d ≠ d2 ∧ readsT op d2 = false ∧ memb x.hs (some d2) = false ∧ freeG x.hs ops A f g post (List.range ops.size) pre = true ∧ opsAt ops.toList (pre.map Prod.fst) = some opre ∧ opsAt ops.toList post = some opost ∧ farF d op (opre.zip (pre.map Prod.snd)) = true ∧ farG d2 (opre.zip (pre.map Prod.snd)) = true ∧ x = ⟨x.hs, opre.zip (pre.map Prod.snd), d, d2, ⟨some d, op, ty, pos, af, none⟩, ⟨some d2, op2, ty2, pos2, af2, none⟩ :: opost⟩ := by
 unfold frOG at h
 split at h
 ·rename_i d op ty pos af hof
  split at h
  ·rename_i t hbt hrd
   split at h
   ·rename_i g hg
    split at h
    ·rename_i d2 op2 ty2 pos2 af2 hog
     split at h
     ·rename_i pre g' post hm hp
      rw [Bool.and_eq_true, Bool.and_eq_true, Bool.not_eq_true', Bool.not_eq_true'] at hm
      split at h
      ·rename_i opre opost h1 h2 h3
       rw [Bool.and_eq_true, Bool.and_eq_true, Bool.not_eq_true'] at h1
       split at h
       ·rename_i h4
        rw [Bool.and_eq_true] at h4
        have h5 := (Option.some.inj h).symm
        subst h5
        exact ⟨d, d2, op, op2, t, ty, pos, af, ty2, pos2, af2, g, pre, post, opre, opost, hof, hbt, hrd, hog, hm.1.1, (fun e => by subst e; rw [Nat.beq_refl] at hm; cases hm.1.2), hm.2, h1.1.2, h1.2, h2, h3, h4.1, h4.2, rfl⟩
       ·cases h
      ·cases h
     ·cases h
    ·cases h
   ·cases h
  ·cases h
 ·cases h
theorem cutR_freg {ops : Array Oper} {x : Fr0} : ∀ {l : List Nat}, cutR ops l ≠ .freg x
 | [], h => by cases h
 | q :: l, h => by
  have h' : cN q (fun k => (match seqOK2 isI isS (ldK ops k) k ops (Region.before ops) with
   | true => Rk.held k
   | false => cutR ops l : Rk)) = Rk.freg x := h
  rw [cN_eq] at h'
  split at h'
  ·cases h'
  ·exact cutR_freg h'
theorem cutR_free {ops : Array Oper} {x : Fr0} : ∀ {l : List Nat}, cutR ops l ≠ .free x
 | [], h => by cases h
 | q :: l, h => by
  have h' : cN q (fun k => (match seqOK2 isI isS (ldK ops k) k ops (Region.before ops) with
   | true => Rk.held k
   | false => cutR ops l : Rk)) = Rk.free x := h
  rw [cN_eq] at h'
  split at h'
  ·cases h'
  ·exact cutR_free h'
theorem findSome_mem {α β : Type} {f : α → Option β} {b : β} : ∀ {l : List α}, l.findSome? f = some b → ∃ a, f a = some b
 | [], h => by cases h
 | a :: l, h => by
  rw [List.findSome?_cons] at h
  split at h
  ·rename_i b' hb
   exact ⟨a, by rw [hb]; exact h⟩
  ·exact findSome_mem h
theorem zip_fst {α β : Type} : ∀ {l : List α} {m : List β}, l.length = m.length → (l.zip m).map Prod.fst = l
 | [], _, _ => rfl
 | _ :: _, [], h => by cases h
 | a :: l, b :: m, h => by rw [List.zip_cons_cons, List.map_cons, zip_fst (by simpa using h)]
theorem zip_snd {α β : Type} : ∀ {l : List α} {m : List β}, l.length = m.length → (l.zip m).map Prod.snd = m
 | [], [], _ => rfl
 | [], _ :: _, h => by cases h
 | _ :: _, [], h => by cases h
 | a :: l, b :: m, h => by rw [List.zip_cons_cons, List.map_cons, zip_snd (by simpa using h)]
theorem pick_cut {z y : Rk} {q : Bool} {g f : Option Fr0} (hy : (match z with
 | .bad => match q with
  | true => match g with
   | some x => Rk.freg x
   | none => match f with
    | some x => Rk.free x
    | none => .bad
  | false => .bad
 | x => x) = y) (h1 : ∀ x, y ≠ .free x) (h2 : y ≠ .bad) (h3 : ∀ x, y ≠ .freg x) : z = y := by
 cases z with
 | bad =>
  cases q with
  | true =>
   cases g with
   | some x => exact absurd hy.symm (h3 x)
   | none =>
    cases f with
    | some x => exact absurd hy.symm (h1 x)
    | none => exact absurd hy.symm h2
  | false => exact absurd hy.symm h2
 | text => exact hy
 | held k => exact hy
 | free x => exact hy
 | freg x => exact hy
section
variable {w0 : Fm} {N m : Nat} {ih : Cl} {res : Rs} (hr : res ≠ .no)
include hr
theorem sqK_inv {g : En → Mem → Rs} {r : Rs} (h : sqK g r = res) : ∃ x e σ, r = .mk x e σ ∧ ((x = .nrm ∧ g e σ = res) ∨ (x ≠ .nrm ∧ res = .mk x e σ)) := by
 cases r with
 | no => exact absurd h.symm hr
 | mk x e σ =>
  refine ⟨x, e, σ, rfl, ?_⟩
  cases x with
  | nrm => exact .inl ⟨rfl, h⟩
  | ext n => exact .inr ⟨fun hh => (by cases hh), h.symm⟩
  | gto n => exact .inr ⟨fun hh => (by cases hh), h.symm⟩
  | ret => exact .inr ⟨fun hh => (by cases hh), h.symm⟩
  | val v => exact absurd h.symm hr
omit hr in
theorem en_nil {ρ : Pl} {e : En} {env : Env} (hE : ER m ρ e env) : ER m ρ ⟨e.vs, [], [], []⟩ env := fun t x hx => by
 refine hE t x ?_
 unfold elk at hx ⊢
 cases hk : kept m t with
 | true => rw [hk] at hx; exact hx
 | false =>
  rw [hk] at hx
  have hx : alook t [] = some x := hx
  cases hx
theorem reg_run (hih : CallS w0 ih) {id : Nat} {ops : Array Oper} {drawn : Bool} {ρ : Pl} {e : En} {σ : Mem} {a : Act} {w : World} (hok : regOK N drawn ops = .text) (h : (regW m ops.toList ops.toList).f ih ⟨e.vs, [], [], []⟩ σ (fun e σ => .mk .nrm e σ) = res) (hS : St w0 N m ρ e σ a w) : (Code.region id ops drawn).wp Tryz.prog (Post w0 N m ρ res) a w := by
 obtain ⟨ρ1, env, hu, hE, hM, hf⟩ := hS
 have hE' := en_nil hE
 have hQ : ∀ a' w', (∃ env', Fits N env' a' ∧ Then w0 m ρ1 [] [] (fun e σ => .mk .nrm e σ) res env' w') → Post w0 N m ρ res .normal a' w' := fun a' w' hh => by
  obtain ⟨env', h1, e', σ', ρ', h2, _, _, h3, h4, h5⟩ := hh
  exact ⟨.nrm, e', σ', h2.symm, trivial, ρ', env', hu.trans h3, h4, h5, h1⟩
 unfold regOK at hok
 split at hok
 ·cases hok
 ·rename_i hd
  obtain ⟨hs, hd⟩ := dstOK_spec hd
  split at hok
  ·refine wp_region_ss' (isI := isI) (isS := isS) (hs := []) (H := Eng.noH) trivial hQ ?_
   have hx := s_reg hr hih (full := ops.toList) hE' hM h
   have := ss_of_xs (N := N) (full := ops) hs hd ops.toList 0 env a w (by simp) trivial hf (by simpa using hx)
   simpa [List.range_eq_range'] using this
  ·split at hok
   ·rename_i hsq
    refine wp_region_ss (isI := isI) (isS := isS) (hs := []) (H := Eng.noH) mixed trivial hsq hQ ?_
    have hx := s_reg hr hih (full := ops.toList) hE' (hM.ext (Fr.drew _ w)) h
    have := ss_of_xs (N := N) (full := ops) hs hd ops.toList 0 env a w.drew (by simp) trivial hf (by simpa using hx)
    simpa [List.range_eq_range'] using this
   ·exact absurd (pick_cut hok (fun _ hh => by cases hh) (fun hh => by cases hh) (fun _ hh => by cases hh)) cutR_text
theorem reg_runH (hih : CallS w0 ih) {id : Nat} {l : List Oper} {drawn : Bool} {ρ : Pl} {e : En} {σ : Mem} {a : Act} {w : World} {k : Nat} (hok : regOK N drawn l.toArray = .held k) (h : (regH m (ldK l.toArray k) l (l.take k)).f ih ⟨e.vs, [], [], []⟩ σ (finH m ih l (l.drop k) σ) = res) (hS : St w0 N m ρ e σ a w) : (Code.region id l.toArray drawn).wp Tryz.prog (Post w0 N m ρ res) a w := by
 obtain ⟨ρ1, env, hu, hE, hM, hf⟩ := hS
 have hE' := en_nil hE
 have hM' := hM.ext (Fr.drew _ w)
 obtain ⟨ef, σf, hres, _, _, hho⟩ := mono_H hr hih hE' hM' h
 unfold regOK at hok
 split at hok
 ·cases hok
 ·rename_i hd
  split at hok
  ·cases hok
  ·split at hok
   ·cases hok
   ·have hsq := cutR_inv (pick_cut hok (fun _ hh => by cases hh) (fun hh => by cases hh) (fun _ hh => by cases hh))
    refine wp_cut (K := Then w0 m ρ1 ef.hs ef.ms fin0 res) k (ldK l.toArray k) (HH ρ1 ef.hs) hd hsq (hold_at hM' (Up.refl ρ1) List.mem_cons_self hho) hf (fun a' env' w' h1 hh => ?_) ?_
    ·obtain ⟨e', σ', ρ', h2, _, _, h3, h4, h5⟩ := hh
     exact ⟨.nrm, e', σ', h2.symm, trivial, ρ', env', hu.trans h3, h4, h5, h1⟩
    ·refine xs_monoH (fun env' w' hh => ?_) (s_regH hr hih hres hho hM' (full := l) (l2 := l.drop k) (l := l.take k) (Up.refl ρ1) hE' hM' h)
     obtain ⟨e1, σ1, ρ', k1, k2, k3, k4⟩ := hh
     have hx := s_reg hr hih (full := l) k3 k4 k1
     obtain ⟨_, _, e2, σ2, _, q1, q2, q3, _⟩ := xs_someL hx
     have q1 : Rs.mk .nrm e2 σ2 = res := q1
     rw [hres] at q1
     injection q1 with _ q4 _
     refine xs_mono (fun env'' w'' hh => ?_) hx
     obtain ⟨e3, σ3, ρ3, r1, r2, r3, r4, r5, r6⟩ := hh
     exact ⟨e3, σ3, ρ3, r1, by rw [r2, ← q2, q4], by rw [r3, ← q3, q4], k2.trans r4, r5, r6⟩
theorem reg_runF (hih : ∀ F, CallS F ih) {id : Nat} {l : List Oper} {drawn : Bool} {ρ : Pl} {e : En} {σ : Mem} {a : Act} {w : World} {x : Fr0} (hok : regOK N drawn l.toArray = .free x) (h : (regF m x.hs l x.d x.d2 x.pre).f ih ⟨e.vs, [], [], []⟩ σ (fun e' σ' => (orH m x.hs l x.f).f ih e' σ' fun e' σ' => (regH m x.hs l x.post).f ih e' σ' (finH m ih l [] σ)) = res) (hS : St w0 N m ρ e σ a w) : (Code.region id l.toArray drawn).wp Tryz.prog (Post w0 N m ρ res) a w := by
 obtain ⟨ρ1, env, hu, hE, hM, hf⟩ := hS
 have hE' := en_nil hE
 have hM' := hM.ext (Fr.drew _ w)
 obtain ⟨_, _, ea, σa, ρa, a1, _, a3, a4, _⟩ := dryF hr (hih w0) hE' hM' h
 obtain ⟨_, _, eb, σb, ρb, b1, _, b3, b4, _⟩ := dryH (l := [x.f]) hr (hih w0) a3 a4 a1
 obtain ⟨_, _, ef, σf, ρf, c1, _, c3, c4, _⟩ := dryH hr (hih w0) b3 b4 b1
 obtain ⟨c5, hho⟩ := ckA_inv hr (show ckA σ ef.ms ef.hs ((regW m l []).f ih ef σf fin0) = res from c1)
 have hres : res = .mk .nrm ef σf := c5.symm
 unfold regOK at hok
 split at hok
 ·cases hok
 ·rename_i hd
  split at hok
  ·cases hok
  ·split at hok
   ·cases hok
   ·split at hok
    ·split at hok
     ·rename_i hanc
      split at hok
      ·cases hok
      split at hok
      ·rename_i x' hfs
       injection hok with hok
       subst hok
       obtain ⟨f, hfr⟩ := findSome_mem hfs
       obtain ⟨d, op, ty, pos, af, pre, post, opre, opost, h1, h2, h3, h4, h5, h6, h7, h8⟩ := frOK_inv hfr
       subst h8
       have hlen : opre.length = (pre.map Prod.snd).length := by
        have := congrArg List.length (opsAt_map h5)
        simpa using this.symm
       refine wp_free (K := fun env' w' => ∃ e' σ' ρ', res = .mk .nrm e' σ' ∧ Up ρ1 ρ' ∧ ER m ρ' e' env' ∧ MR w0 ρ' σ' w') (ldK l.toArray l.toArray.size) (HH ρ1 ef.hs) hd hanc (hold_at hM' (Up.refl ρ1) List.mem_cons_self hho) hf (fun a' env' w' q1 hh => ?_) (fun hR => ?_)
       ·obtain ⟨e', σ', ρ', g1, g2, g3, g4⟩ := hh
        exact ⟨.nrm, e', σ', g1, trivial, ρ', env', hu.trans g2, g3, g4, q1⟩
       ·refine free_run hR h1 (opsAt_map h6) h4 (opre := opre.zip (pre.map Prod.snd)) (zip_snd hlen).symm (by rw [zip_fst hlen]; exact opsAt_map h5) ?_
        refine run_xf hr hih (fun F => Mono.fin hr (hih F) hres) hho hM' h2 h3 (fun env' w' e1 σ1 ρ' g1 g2 g3 g4 => ?_) h7 (Up.refl ρ1) hE' hM' h
        obtain ⟨g5, _⟩ := ckA_inv hr (show ckA σ e1.ms e1.hs ((regW m l []).f ih e1 σ1 fin0) = res from g1)
        exact ⟨e1, σ1, ρ', g5.symm, g2, g3, g4⟩
      ·cases hok
     ·cases hok
    ·exact absurd hok cutR_free
theorem reg_runG (hih : ∀ F, CallS F ih) {id : Nat} {l : List Oper} {drawn : Bool} {ρ : Pl} {e : En} {σ : Mem} {a : Act} {w : World} {x : Fr0} (hok : regOK N drawn l.toArray = .freg x) (h : (regF m x.hs l x.d x.d2 x.pre).f ih ⟨e.vs, [], [], []⟩ σ (fun e' σ' => (orH m x.hs l x.f).f ih e' σ' fun e' σ' => (regH m x.hs l x.post).f ih e' σ' (finH m ih l [] σ)) = res) (hS : St w0 N m ρ e σ a w) : (Code.region id l.toArray drawn).wp Tryz.prog (Post w0 N m ρ res) a w := by
 obtain ⟨ρ1, env, hu, hE, hM, hf⟩ := hS
 have hE' := en_nil hE
 have hM' := hM.ext (Fr.drew _ w)
 obtain ⟨_, _, ea, σa, ρa, a1, _, a3, a4, _⟩ := dryF hr (hih w0) hE' hM' h
 obtain ⟨_, _, eb, σb, ρb, b1, _, b3, b4, _⟩ := dryH (l := [x.f]) hr (hih w0) a3 a4 a1
 obtain ⟨_, _, ef, σf, ρf, c1, _, c3, c4, _⟩ := dryH hr (hih w0) b3 b4 b1
 obtain ⟨c5, hho⟩ := ckA_inv hr (show ckA σ ef.ms ef.hs ((regW m l []).f ih ef σf fin0) = res from c1)
 have hres : res = .mk .nrm ef σf := c5.symm
 unfold regOK at hok
 split at hok
 ·cases hok
 ·rename_i hd
  split at hok
  ·cases hok
  ·split at hok
   ·cases hok
   ·split at hok
    ·split at hok
     ·rename_i hanc
      split at hok
      ·rename_i x' hfs
       injection hok with hok
       subst hok
       obtain ⟨f, hfr⟩ := findSome_mem hfs
       obtain ⟨d, d2, op, op2, t, ty, pos, af, ty2, pos2, af2, g, pre, post, opre, opost, h1, h2, h3, y1, y2, y3, y4, y5, h4, h5, h6, h7, h8, h9⟩ := frOG_inv hfr
       obtain ⟨nn, ps, rfl, hm⟩ := bsT_inv h2
       obtain ⟨u, el, rfl, z1, z2, z3, z4⟩ := isCv_inv y2
       obtain ⟨xhs, xpre, xd, xd2, xf, xpost⟩ := x'
       injection h9 with _ h10 h11 h12 h13 h14
       subst h10; subst h11; subst h12; subst h13; subst h14
       have hlen : opre.length = (pre.map Prod.snd).length := by
        have := congrArg List.length (opsAt_map h5)
        simpa using this.symm
       refine wp_free (K := fun env' w' => ∃ e' σ' ρ', res = .mk .nrm e' σ' ∧ Up ρ1 ρ' ∧ ER m ρ' e' env' ∧ MR w0 ρ' σ' w') xhs (HH ρ1 ef.hs) hd hanc (hold_at hM' (Up.refl ρ1) List.mem_cons_self hho) hf (fun a' env' w' q1 hh => ?_) (fun hR => ?_)
       ·obtain ⟨e', σ', ρ', g1, g2, g3, g4⟩ := hh
        exact ⟨.nrm, e', σ', g1, trivial, ρ', env', hu.trans g2, g3, g4, q1⟩
       ·refine freg_run hR h1 y1 (opsAt_map h6) h4 (opre := opre.zip (pre.map Prod.snd)) (zip_snd hlen).symm (by rw [zip_fst hlen]; exact opsAt_map h5) ?_
        refine run_xf2 hr hih (fun F => Mono.fin hr (hih F) hres) hho hM' hm z3 z1 z2 z4 y5 h3 y4 y3 (fun env' w' e1 σ1 ρ' g1 g2 g3 g4 => ?_) h7 (farG_spec h8) (Up.refl ρ1) hE' hM' h
        obtain ⟨g5, _⟩ := ckA_inv hr (show ckA σ e1.ms e1.hs ((regW m l []).f ih e1 σ1 fin0) = res from g1)
        exact ⟨e1, σ1, ρ', g5.symm, g2, g3, g4⟩
      ·split at hok
       ·cases hok
       ·cases hok
     ·cases hok
    ·exact absurd hok cutR_freg
end
theorem exM_other {x : Ex} {ex : Exit} (h : exM x ex) (hx : x ≠ .nrm) (Q : Exit → Act → World → Prop) (K : Act → World → Prop) (a : Act) (w : World) (hq : Q ex a w) : Exit.then K Q ex a w := by
 cases ex with
 | normal => cases x <;> first | exact absurd rfl hx | cases h
 | _ => exact hq
theorem cod_run {w0 : Fm} {N m : Nat} {ih : Cl} (hih : ∀ F, CallS F ih) : ∀ (d : Nat) (c : Code) (n : Nat) (e : En) (σ : Mem) (res : Rs) (ρ : Pl) (a : Act) (w : World), res ≠ .no → (codW N m d c).f ih n e σ = res → St w0 N m ρ e σ a w → c.wp Tryz.prog (Post w0 N m ρ res) a w
 | 0, c, n, e, σ, res, ρ, a, w, hr, h, hS => absurd h.symm hr
 | d + 1, c, n, e, σ, res, ρ, a, w, hr, h, hS => by
  have IH := cod_run (w0 := w0) (N := N) (m := m) hih d
  cases c with
  | skip => exact wp_skip ⟨.nrm, e, σ, h.symm, trivial, hS⟩
  | label l => exact wp_label ⟨.nrm, e, σ, h.symm, trivial, hS⟩
  | exit id => exact wp_exit ⟨.ext id, e, σ, h.symm, rfl, hS⟩
  | goto l => exact wp_goto ⟨.gto l, e, σ, h.symm, rfl, hS⟩
  | ret => exact wp_ret ⟨.ret, e, σ, h.symm, trivial, hS⟩
  | region id ops drawn =>
   have h' : (match regOK N drawn ops with
    | .text => (⟨fun ih _ e σ => (regW m ops.toList ops.toList).f ih ⟨e.vs, [], [], []⟩ σ fun e σ => .mk .nrm e σ⟩ : Wc)
    | .held k => ⟨fun ih _ e σ => (regH m (ldK ops k) ops.toList (ops.toList.take k)).f ih ⟨e.vs, [], [], []⟩ σ fun e' σ' => ckA σ e'.ms e'.hs ((regW m ops.toList (ops.toList.drop k)).f ih e' σ' fun e σ => .mk .nrm e σ)⟩
    | .free x => ⟨fun ih _ e σ => (regF m x.hs ops.toList x.d x.d2 x.pre).f ih ⟨e.vs, [], [], []⟩ σ fun e' σ' => (orH m x.hs ops.toList x.f).f ih e' σ' fun e' σ' => (regH m x.hs ops.toList x.post).f ih e' σ' fun e' σ' => ckA σ e'.ms e'.hs (.mk .nrm e' σ')⟩
    | .freg x => ⟨fun ih _ e σ => (regF m x.hs ops.toList x.d x.d2 x.pre).f ih ⟨e.vs, [], [], []⟩ σ fun e' σ' => (orH m x.hs ops.toList x.f).f ih e' σ' fun e' σ' => (regH m x.hs ops.toList x.post).f ih e' σ' fun e' σ' => ckA σ e'.ms e'.hs (.mk .nrm e' σ')⟩
    | .bad => noC).f ih n e σ = res := h
   split at h'
   ·rename_i hok
    exact reg_run hr (hih w0) hok h' hS
   ·rename_i hok
    exact reg_runH (l := ops.toList) hr (hih w0) hok h' hS
   ·rename_i hok
    exact reg_runF (l := ops.toList) hr hih hok h' hS
   ·rename_i hok
    exact reg_runG (l := ops.toList) hr hih hok h' hS
   ·exact absurd h'.symm hr
  | seq x y =>
   have h' : sqK ((codW N m d y).f ih n) ((codW N m d x).f ih n e σ) = res := h
   obtain ⟨x1, e1, σ1, h1, h2⟩ := sqK_inv hr h'
   refine wp_seq (wp_mono (IH x n e σ _ ρ a w (by rw [h1]; exact fun hh => by cases hh) rfl hS) ?_)
   rintro ex a' w' ⟨x2, e2, σ2, k1, k2, k3⟩
   rw [h1] at k1
   injection k1 with q1 q2 q3
   subst q1; subst q2; subst q3
   rcases h2 with ⟨rfl, h2⟩ | ⟨hx, h2⟩
   ·cases ex with
    | normal => exact IH y n e1 σ1 res ρ a' w' hr h2 k3
    | _ => cases k2
   ·exact exM_other k2 hx _ _ _ _ ⟨x1, e1, σ1, h2, k2, k3⟩
  | cond q x y =>
   have h' : (gtW m q).f e (fun q => onB q ((codW N m d x).f ih n e σ) ((codW N m d y).f ih n e σ)) = res := h
   have hS' := hS
   obtain ⟨ρ1, env, hu, hE, hM, hf⟩ := hS'
   obtain ⟨b, v, h1, h2, h3⟩ := gtW_inv hr hE h'
   rcases onB_inv hr h3 with ⟨rfl, h4⟩ | ⟨rfl, h4⟩
   ·have h2 : v = .bool true := h2
    subst h2
    exact wp_cond_true (hf.eval h1) (IH x n e σ res ρ a w hr h4 hS)
   ·have h2 : v = .bool false := h2
    subst h2
    exact wp_cond_false (hf.eval h1) (IH y n e σ res ρ a w hr h4 hS)
  | block id b =>
   have h' : blK id ((codW N m d b).f ih n e σ) = res := h
   generalize hr0 : (codW N m d b).f ih n e σ = r0 at h'
   have hr0n : r0 ≠ .no := fun hh => by rw [hh] at h'; exact hr h'.symm
   refine wp_block (wp_mono (IH b n e σ r0 ρ a w hr0n hr0 hS) ?_)
   rintro ex a' w' ⟨x2, e2, σ2, k1, k2, k3⟩
   subst k1
   cases x2 with
   | nrm =>
    cases ex with
    | normal => exact ⟨.nrm, e2, σ2, h'.symm, trivial, k3⟩
    | _ => cases k2
   | ext j =>
    cases ex with
    | exit k =>
     have k2 : j = k := k2
     subst k2
     have h'' : ifK (Nat.beq j id) (.mk .nrm e2 σ2) (.mk (.ext j) e2 σ2) = res := h'
     rw [ifK_eq] at h''
     show (if j = id then _ else _)
     split at h''
     ·rename_i hj
      rw [if_pos (Nat.eq_of_beq_eq_true hj)]
      exact ⟨.nrm, e2, σ2, h''.symm, trivial, k3⟩
     ·rename_i hj
      rw [if_neg (fun hh => hj (by rw [hh]; exact Nat.beq_refl id))]
      exact ⟨.ext j, e2, σ2, h''.symm, rfl, k3⟩
    | _ => cases k2
   | gto j =>
    cases ex with
    | goto k => exact ⟨.gto j, e2, σ2, h'.symm, k2, k3⟩
    | _ => cases k2
   | ret =>
    cases ex with
    | ret => exact ⟨.ret, e2, σ2, h'.symm, trivial, k3⟩
    | _ => cases k2
   | val v => cases k2
  | loop b =>
   have h' : lpK ((codW N m d b).f ih n) n e σ = res := h
   refine wp_loop_ghost (fun k a w => ∃ e σ, lpK ((codW N m d b).f ih n) k e σ = res ∧ St w0 N m ρ e σ a w) n ⟨e, σ, h', hS⟩ ?_
   rintro k a1 w1 ⟨e1, σ1, h1, hS1⟩
   cases k with
   | zero => exact absurd h1.symm hr
   | succ k =>
    have h1' : sqK (lpK ((codW N m d b).f ih n) k) ((codW N m d b).f ih n e1 σ1) = res := h1
    obtain ⟨x2, e2, σ2, h2, h3⟩ := sqK_inv hr h1'
    refine wp_mono (IH b n e1 σ1 _ ρ a1 w1 (by rw [h2]; exact fun hh => by cases hh) rfl hS1) ?_
    rintro ex a' w' ⟨x3, e3, σ3, k1, k2, k3⟩
    rw [h2] at k1
    injection k1 with q1 q2 q3
    subst q1; subst q2; subst q3
    rcases h3 with ⟨rfl, h3⟩ | ⟨hx, h3⟩
    ·cases ex with
     | normal => exact ⟨k, Nat.lt_succ_self k, e2, σ2, h3, k3⟩
     | _ => cases k2
    ·exact exM_other k2 hx _ _ _ _ ⟨x2, e2, σ2, h3, k2, k3⟩
  | scope b =>
   have h' : scpK (fun l => (lbW (codW N m d) b l).f ih n) n ((codW N m d b).f ih n e σ) = res := h
   have fin : ∀ (k : Nat) (x2 : Ex) (e2 : En) (σ2 : Mem), scpK (fun l => (lbW (codW N m d) b l).f ih n) k (.mk x2 e2 σ2) = res → (∃ l k', x2 = .gto l ∧ k = k' + 1 ∧ scpK (fun l => (lbW (codW N m d) b l).f ih n) k' ((lbW (codW N m d) b l).f ih n e2 σ2) = res) ∨ (res = .mk x2 e2 σ2 ∧ ∀ l, x2 ≠ .gto l) := fun k x2 e2 σ2 hh => by
    cases k with
    | zero => exact absurd hh.symm hr
    | succ k =>
     cases x2 with
     | gto l => exact .inl ⟨l, k, rfl, rfl, hh⟩
     | nrm => exact .inr ⟨hh.symm, fun l hl => by cases hl⟩
     | ext j => exact .inr ⟨hh.symm, fun l hl => by cases hl⟩
     | ret => exact .inr ⟨hh.symm, fun l hl => by cases hl⟩
     | val v => exact absurd hh.symm hr
   have hno : ∀ k, scpK (fun l => (lbW (codW N m d) b l).f ih n) k .no ≠ res := fun k hh => by
    cases k <;> exact hr hh.symm
   have hlb : ∀ l k e2 σ2, scpK (fun l => (lbW (codW N m d) b l).f ih n) k ((lbW (codW N m d) b l).f ih n e2 σ2) = res → ∃ rest, findLabel b l = some rest ∧ (lbW (codW N m d) b l).f ih n e2 σ2 = (codW N m d rest).f ih n e2 σ2 ∧ (codW N m d rest).f ih n e2 σ2 ≠ .no := fun l k e2 σ2 hh => by
    cases hf : findLabel b l with
    | none =>
     have : (lbW (codW N m d) b l).f ih n e2 σ2 = .no := by
      unfold lbW
      rw [hf]
     rw [this] at hh
     exact absurd hh (hno k)
    | some rest =>
     have he : (lbW (codW N m d) b l).f ih n e2 σ2 = (codW N m d rest).f ih n e2 σ2 := by
      unfold lbW
      rw [hf]
     refine ⟨rest, rfl, he, fun h0 => ?_⟩
     rw [he, h0] at hh
     exact hno k hh
   refine wp_scope_labels (fun l k a w => ∃ e2 σ2, scpK (fun l => (lbW (codW N m d) b l).f ih n) k ((lbW (codW N m d) b l).f ih n e2 σ2) = res ∧ St w0 N m ρ e2 σ2 a w) ?_ ?_ ?_
   ·rintro l k a1 w1 ⟨e2, σ2, h1, _⟩
    obtain ⟨rest, hf, _⟩ := hlb l k e2 σ2 h1
    exact ⟨rest, hf⟩
   ·have hr0n : (codW N m d b).f ih n e σ ≠ .no := fun hh => by rw [hh] at h'; exact hno n h'
    refine wp_mono (IH b n e σ _ ρ a w hr0n rfl hS) ?_
    rintro ex a' w' ⟨x2, e2, σ2, k1, k2, k3⟩
    rw [k1] at h'
    rcases fin n x2 e2 σ2 h' with ⟨l, k', rfl, _, h2⟩ | ⟨h2, h3⟩
    ·cases ex with
     | goto j =>
      have k2 : l = j := k2
      subst k2
      exact ⟨k', e2, σ2, h2, k3⟩
     | _ => cases k2
    ·cases ex with
     | goto j => cases x2 <;> first | exact absurd rfl (h3 _) | cases k2
     | _ => exact ⟨x2, e2, σ2, h2, k2, k3⟩
   ·rintro k l rest a1 w1 hf ⟨e1, σ1, h1, hS1⟩
    obtain ⟨rest', hf', he, hn0⟩ := hlb l k e1 σ1 h1
    rw [hf] at hf'
    obtain rfl := Option.some.inj hf'
    rw [he] at h1
    refine wp_mono (IH rest n e1 σ1 _ ρ a1 w1 hn0 rfl hS1) ?_
    rintro ex a' w' ⟨x2, e2, σ2, k1, k2, k3⟩
    rw [k1] at h1
    rcases fin k x2 e2 σ2 h1 with ⟨l', k', rfl, hk, h2⟩ | ⟨h2, h3⟩
    ·cases ex with
     | goto j =>
      have k2 : l' = j := k2
      subst k2
      exact ⟨k', by omega, e2, σ2, h2, k3⟩
     | _ => cases k2
    ·cases ex with
     | goto j => cases x2 <;> first | exact absurd rfl (h3 _) | cases k2
     | _ => exact ⟨x2, e2, σ2, h2, k2, k3⟩
  | _ => exact absurd h.symm hr
end Rn
end Eng
end Go.Proofs.YtoheknblphcloaaGreatDoor
namespace Go.Proofs.YtoheknblphcloaaGreatDoor
open Go.RowKit
namespace Eng
namespace Rn
theorem look_arg : ∀ (l : List Value) (n t : Nat) (v : Value), n ≤ t → l[t - n]? = some v → look (argEnv n l) t = some v
 | [], n, t, v, _, h => by cases h
 | x :: l, n, t, v, hn, h => by
  show look ((n, x) :: argEnv (n + 1) l) t = some v
  rw [look_cons]
  by_cases ht : n = t
  ·subst ht
   rw [if_pos rfl]
   rw [Nat.sub_self] at h
   exact h
  ·rw [if_neg ht]
   refine look_arg l (n + 1) t v (by omega) ?_
   rw [show t - n = t - (n + 1) + 1 by omega] at h
   exact h
theorem ARs.get {ρ : Pl} {l : List AV} {vs : List Value} (h : ARs ρ l vs) : ∀ (i : Nat) x, l[i]? = some x → ∃ v, vs[i]? = some v ∧ AR ρ x v := by
 induction h with
 | nil => intro i x hx; cases hx
 | cons h1 _ ih =>
  intro i x hx
  cases i with
  | zero => injection hx with hx; subst hx; exact ⟨_, rfl, h1⟩
  | succ i => exact ih i x hx
theorem ARs.len {ρ : Pl} {l : List AV} {vs : List Value} (h : ARs ρ l vs) : vs.length = l.length := by
 induction h with
 | nil => rfl
 | cons _ _ ih => simp [ih]
noncomputable def paL (m : Nat) (l : List AV) (k : Nat) (c : AEnv → Rs) : Rs := List.rec (motive := fun _ => Nat → (AEnv → Rs) → Rs) (fun _ c => c []) (fun x _ ih k c => fN (Nat.add k 1) fun k' => ih k' fun r => ifK (kept m k) (c ((k, x) :: r)) (c r)) l k c
theorem paL_inv {m : Nat} {res : Rs} : ∀ {l : List AV} {k : Nat} {c : AEnv → Rs}, paL m l k c = res → ∃ env, c env = res ∧ ∀ t a, alook t env = some a → k ≤ t ∧ l[t - k]? = some a
 | [], k, c, h => ⟨[], h, fun t a ha => by cases ha⟩
 | x :: l, k, c, h => by
  have h' : fN (Nat.add k 1) (fun k' => paL m l k' fun r => ifK (kept m k) (c ((k, x) :: r)) (c r)) = res := h
  rw [fN_eq] at h'
  obtain ⟨env, h1, h2⟩ := paL_inv h'
  rw [ifK_eq] at h1
  have hold : ∀ t a, alook t env = some a → k ≤ t ∧ (x :: l)[t - k]? = some a := fun t a ha => by
   obtain ⟨g1, g2⟩ := h2 t a ha
   have g1 : k + 1 ≤ t := g1
   have g2 : l[t - (k + 1)]? = some a := g2
   refine ⟨by omega, ?_⟩
   rw [show t - k = t - (k + 1) + 1 by omega]
   exact g2
  split at h1
  ·refine ⟨_, h1, fun t a ha => ?_⟩
   simp only [alook] at ha
   split at ha
   ·rename_i hkt
    subst hkt
    obtain rfl := Option.some.inj ha
    exact ⟨Nat.le_refl _, by simp⟩
   ·exact hold t a ha
  ·exact ⟨env, h1, hold⟩
theorem ld_one {t : TypeId} {p : Addr} {v : Value} {w : World} (ht : one t = true) (hc : w.cell? p = some v) : (loadVar t p).run Tryz.prog w = .ok v w := by
 simp [loadVar, isAgg_one ht, load, Sem.run, hc]
section
variable {w0 : Fm} {m : Nat} {ih : Cl} {e : En} {σ : Mem} {res : Rs} {ρ : Pl} {env : Env} {w : World} (hr : res ≠ .no)
include hr
theorem reW_inv {N : Nat} {a : Act} (hE : ER m ρ e env) (hM : MR w0 ρ σ w) (hf : Fits N env a) {r : ResultVar} {k : AV → Rs} (h : (reW m r).f e σ k = res) : ∃ x v, AR ρ x v ∧ k x = res ∧ ((match r with
  | .tmp t => pure (a.tmps.getD t undef)
  | .cell p t => do loadVar t (← asAddr (a.tmps.getD p undef)) : Sem Value)).run Tryz.prog w = .ok v w := by
 cases r with
 | tmp t =>
  obtain ⟨x, h1, h2⟩ := gtT_inv hr (show (gtT m t).f e k = res from h)
  obtain ⟨v, h3, h4⟩ := hE t x h1
  refine ⟨x, v, h4, h2, ?_⟩
  have := hf.2.2 t v h3
  simp [Array.getD_eq_getD_getElem?, this]
 | cell p t =>
  have hp : ∀ id o, ∀ pv, look env p = some pv → SR ρ (.p id o) pv → ∃ q, ρ[id]? = some q ∧ (asAddr (a.tmps.getD p undef)).run Tryz.prog w = .ok ⟨q.b, o, none⟩ w := fun id o pv h1 h2 => by
   obtain ⟨q, h3, rfl⟩ := h2
   refine ⟨q, h3, ?_⟩
   have := hf.2.2 p _ h1
   simp [Array.getD_eq_getD_getElem?, this, asAddr]
  unfold reW at h
  simp only at h
  split at h
  ·rename_i ho
   obtain ⟨x, h1, h2⟩ := gtT_inv hr h
   obtain ⟨pv, h3, h4⟩ := hE p x h1
   obtain ⟨id, o, e0, h5⟩ := onP_inv hr h2
   obtain ⟨ob, h6, h7⟩ := obK_inv hr h5
   obtain ⟨y, h8, h9⟩ := getK_inv hr h7
   subst e0
   obtain ⟨q, h10, h11⟩ := hp id o pv h3 h4
   obtain ⟨v, h12, h13, _⟩ := hM.cell (cget_iff.2 ⟨ob, h6, h8⟩) h10
   refine ⟨.v y, v, h13.2, h9, ?_⟩
   show ((asAddr (a.tmps.getD p undef)) >>= fun q => loadVar t q).run Tryz.prog w = _
   rw [Sem.run_bind, h11, Result.andThen_ok]
   exact ld_one ho h12
  ·split at h
   ·rename_i n hn
    rw [cN_eq] at h
    obtain ⟨x, h1, h2⟩ := gtT_inv hr h
    obtain ⟨pv, h3, h4⟩ := hE p x h1
    obtain ⟨id, o, e0, h5⟩ := onP_inv hr h2
    obtain ⟨ob, l, h6, h7, h8, h9⟩ := rdK_inv hr h5
    subst e0
    obtain ⟨q, h10, h11⟩ := hp id o pv h3 h4
    obtain ⟨vs, h12, h13⟩ := hM.cells h10 (l := l) (o := o) (fun i hi => h8 i (by omega))
    refine ⟨.g l, .agg vs.toArray, ⟨vs, h12, rfl⟩, h9, ?_⟩
    have := ld_agg (w := w) (t := t) (b := q.b) (o := o) (cs := vs) (by rw [h12.len, h7]; exact hn) (fun j u hu => (h13 j u hu).1)
    show ((asAddr (a.tmps.getD p undef)) >>= fun q => loadVar t q).run Tryz.prog w = _
    rw [Sem.run_bind, h11, Result.andThen_ok]
    exact this
   ·exact absurd h.symm hr
def resF (tmps : Array Value) : ResultVar → Sem Value := fun
 | .tmp t => pure (tmps.getD t undef)
 | .cell p t => do loadVar t (← asAddr (tmps.getD p undef))
theorem resW_inv {N : Nat} {a : Act} (hE : ER m ρ e env) (hM : MR w0 ρ σ w) (hf : Fits N env a) : ∀ {l : List ResultVar} {k : List AV → Rs}, (resW m l).f e σ k = res → ∃ al vs, ARs ρ al vs ∧ k al = res ∧ (l.mapM (resF a.tmps)).run Tryz.prog w = .ok vs w
 | [], k, h => ⟨[], [], .nil, h, by simp⟩
 | r :: l, k, h => by
  obtain ⟨x, v, h1, h2, h3⟩ := reW_inv hr hE hM hf (show (reW m r).f e σ (fun v => (resW m l).f e σ fun l => k (v :: l)) = res from h)
  obtain ⟨al, vs, h4, h5, h6⟩ := resW_inv hE hM hf h2
  refine ⟨x :: al, v :: vs, .cons h1 h4, h5, ?_⟩
  have h3' : (resF a.tmps r).run Tryz.prog w = .ok v w := by
   cases r <;> exact h3
  simp [List.mapM_cons, h3', h6]
theorem tuK_inv : ∀ {l : List AV} {vs : List Value} {k : List TV → Rs}, tuK l k = res → ARs ρ l vs → ∃ tl, TRs ρ tl vs ∧ k tl = res
 | [], vs, k, h, ha => by
  cases ha
  exact ⟨[], .nil, h⟩
 | x :: l, vs, k, h, ha => by
  cases ha with
  | cons h1 h2 =>
   rcases onV_inv hr (show onV x (fun x => tuK l fun l => k (.v x :: l)) (fun g => tuK l fun l => k (.g g :: l)) = res from h) with ⟨y, rfl, h3⟩ | ⟨g, rfl, h3⟩
   ·obtain ⟨tl, h4, h5⟩ := tuK_inv h3 h2
    exact ⟨.v y :: tl, .cons h1 h4, h5⟩
   ·obtain ⟨tl, h4, h5⟩ := tuK_inv h3 h2
    exact ⟨.g g :: tl, .cons h1 h4, h5⟩
theorem toK_inv {l : List AV} {vs : List Value} (h : toK e σ l = res) (ha : ARs ρ l vs) : ∃ v, res = .mk (.val v) e σ ∧ AR ρ v (if h : vs.toArray.size = 1 then vs.toArray[0] else .tuple vs.toArray) := by
 cases ha with
 | nil => exact ⟨.t [], h.symm, [], .nil, rfl⟩
 | cons h1 h2 =>
  rename_i x v l vs
  cases h2 with
  | nil => exact ⟨x, h.symm, h1⟩
  | cons h3 h4 =>
   rename_i y v' l vs
   obtain ⟨tl, h5, h6⟩ := tuK_inv hr (show tuK (x :: y :: l) (fun l => .mk (.val (.t l)) e σ) = res from h) (.cons h1 (.cons h3 h4))
   exact ⟨.t tl, h6.symm, _, h5, by simp⟩
theorem reK_inv {ws : Wrs} {r : Rs} (h : reK ws r = res) : ∃ x e σ, r = .mk x e σ ∧ (x = .nrm ∨ x = .ret) ∧ ws.f e σ (fun l => toK e σ l) = res := by
 cases r with
 | no => exact absurd h.symm hr
 | mk x e σ =>
  cases x with
  | nrm => exact ⟨_, _, _, rfl, .inl rfl, h⟩
  | ret => exact ⟨_, _, _, rfl, .inr rfl, h⟩
  | _ => exact absurd h.symm hr
end
theorem nthF_mem : ∀ {l : List (Nat × Fe)} {f : Nat} {x : Fe}, nthF l f = some x → (f, x) ∈ l
 | [], f, x, h => by cases h
 | y :: l, f, x, h => by
  have h' : (match Nat.beq y.1 f with
   | true => some y.2
   | false => nthF l f) = some x := h
  split at h'
  ·rename_i hb
   obtain rfl := Option.some.inj h'
   have := Nat.eq_of_beq_eq_true hb
   subst this
   exact List.mem_cons_self
  ·exact List.mem_cons_of_mem _ (nthF_mem h')
def OrcS (f : Nat) (o : List AV → Mem → Rs) : Prop := ∀ (w0 : Fm) al σ v e' σ' (ρ : Pl) vs w, o al σ = .mk (.val v) e' σ' → ARs ρ al vs → MR w0 ρ σ w → Does Tryz.prog f vs.toArray w (fun val w' => ∃ ρ', Up ρ ρ' ∧ AR ρ' v val ∧ MR w0 ρ' σ' w')
def FeOK (f : Nat) : Fe → Prop
 | .code fn _ => Tryz.prog.funcs[f]? = some fn
 | .orc o => OrcS f o
def TabOK (tab : List (Nat × Fe)) : Prop := ∀ x ∈ tab, FeOK x.1 x.2
theorem run_sound {tab : List (Nat × Fe)} (ht : TabOK tab) : ∀ n (w0 : Fm), CallS w0 (run tab n)
 | 0, w0 => fun f al σ v e' σ' ρ vs w h _ _ => by cases h
 | n + 1, w0 => fun f al σ v e' σ' ρ vs w h ha hM => by
  have IH := run_sound ht n
  have hr : (Rs.mk (.val v) e' σ') ≠ .no := fun hh => by cases hh
  have h' : (fnW (nthF tab f)).f (run tab n) al σ = .mk (.val v) e' σ' := h
  unfold fnW at h'
  split at h'
  ·rename_i fn m hnth
   have hf : Tryz.prog.funcs[f]? = some fn := ht _ (nthF_mem hnth)
   split at h'
   ·rename_i c hc
    obtain ⟨hlen, h1⟩ := okK_inv h' hr
    have hlen := Nat.le_of_ble_eq_true hlen
    have h1' : paL m al 0 (fun l => reK (resW m fn.results.toList) ((codW fn.ntmps m 1000 c).f (run tab n) lF ⟨l, [], [], []⟩ σ)) = .mk (.val v) e' σ' := h1
    obtain ⟨l, h2, h3⟩ := paL_inv h1'
    obtain ⟨x, e1, σ1, h4, h5, h6⟩ := reK_inv hr h2
    have hE : ER m ρ ⟨l, [], [], []⟩ (argEnv 0 vs) := fun t a hta => by
     unfold elk at hta
     cases hk : kept m t with
     | true =>
      rw [hk] at hta
      obtain ⟨_, g2⟩ := h3 t a hta
      obtain ⟨u1, g3, g4⟩ := ha.get _ a g2
      exact ⟨u1, look_arg vs 0 t u1 (Nat.zero_le _) g3, g4⟩
     | false =>
      rw [hk] at hta
      have hta : alook t [] = some a := hta
      cases hta
    have hfit : Fits fn.ntmps (argEnv 0 vs) { tmps := vs.toArray ++ Array.replicate (fn.ntmps - vs.toArray.size) undef, defers := [] } :=
     fits_args (by simpa [ha.len] using hlen) fun t v hl => by simpa using (look_argEnv vs 0 t v hl).2
    refine calls_of_wp hf hc (wp_mono (cod_run (N := fn.ntmps) (m := m) IH 1000 c lF ⟨l, [], [], []⟩ σ _ ρ _ w (by rw [h4]; exact fun hh => by cases hh) rfl ⟨ρ, _, Up.refl ρ, hE, hM, hfit⟩) ?_)
    rintro ex a' w' ⟨x2, e2, σ2, k1, k2, ρ', env', k3, k4, k5, k6⟩
    rw [h4] at k1
    injection k1 with q1 q2 q3
    subst q1; subst q2; subst q3
    obtain ⟨al', vs', r1, r2, r3⟩ := resW_inv hr k4 k5 k6 h6
    obtain ⟨v', r4, r5⟩ := toK_inv hr r2 r1
    injection r4 with q1 q2 q3
    injection q1 with q1
    subst q1; subst q2; subst q3
    have hres : (results fn a'.tmps).run Tryz.prog w' = .ok (if h : vs'.toArray.size = 1 then vs'.toArray[0] else .tuple vs'.toArray) w' := by
     have e1 : results fn a'.tmps = (do
      let vs ← fn.results.mapM (resF a'.tmps)
      pure (if h : vs.size = 1 then vs[0] else .tuple vs)) := rfl
     rw [e1, Array.mapM_eq_mapM_toList]
     simp [r3]
    have fin : a'.defers = [] ∧ ∃ vv, (results fn a'.tmps).run Tryz.prog w' = .ok vv w' ∧ Ret (fun val w' => ∃ ρ', Up ρ ρ' ∧ AR ρ' v val ∧ MR w0 ρ' σ' w') (.returned vv) w' := ⟨k6.1, _, hres, _, rfl, ρ', k3, r5, k5⟩
    rcases h5 with rfl | rfl
    ·cases ex with
     | normal => exact fin
     | _ => cases k2
    ·cases ex with
     | ret => exact fin
     | _ => cases k2
   ·cases h'
  ·rename_i o hnth
   have ho : OrcS f o := ht _ (nthF_mem hnth)
   exact ho w0 al σ v e' σ' ρ vs w h' ha hM
  ·cases h'
theorem told_run {tab : List (Nat × Fe)} (ht : TabOK tab) {n f : Nat} (h : ok (run tab n f [] ⟨0, .nil, []⟩) = true) (w : World) (hT : TabI noneB w) : Does Tryz.prog f #[] w (fun v w' => v = .bool true ∧ Ext w w') := by
 generalize hres : run tab n f [] ⟨0, .nil, []⟩ = r at h
 cases r with
 | no => cases h
 | mk x e σ =>
  cases x with
  | val v =>
   cases v with
   | v v =>
    cases v with
    | b q =>
     have h : q = true := h
     subst h
     have hM : MR ⟨noneB, w, hT⟩ [] ⟨0, .nil, []⟩ w := {
      len := rfl
      blk := fun id ob h1 _ => by
       have : oget ⟨0, .nil, []⟩ id = none := tget_nil _ _
       rw [this] at h1; cases h1
      old := Fr.refl _ _
      far := fun id o p _ hp => by cases hp
      pre := fun id ob h1 => by
       have : oget ⟨0, .nil, []⟩ id = none := tget_nil _ _
       rw [this] at h1; cases h1
      apart := fun id id' o o' p p' _ _ _ hp => by cases hp
      mps := Mps.nil _ _ _ }
     have := run_sound ht n ⟨noneB, w, hT⟩ f [] ⟨0, .nil, []⟩ _ e σ [] [] w hres .nil hM
     refine Does.mono this fun v w' hh => ?_
     obtain ⟨ρ', _, h2, h3⟩ := hh
     exact ⟨h2, h3.old⟩
    | _ => cases h
   | _ => cases h
  | _ => cases h
end Rn
end Eng
end Go.Proofs.YtoheknblphcloaaGreatDoor
namespace Go.Proofs.YtoheknblphcloaaGreatDoor.Eng
open Go.RowKit
section
open Go.ChangeShapes Go.WideShapes Go.ChangeAt Go.RowKit
theorem own_ : ownKnob Tryz.prog.godebug = none := by kernel_rfl
theorem laid_ : laidOutB Tryz.prog = true := by kernel_rfl
section
variable {H : Type} {enc : TypeId × Value → H}
theorem trodAll_ext {P : Program} (hlo : laidOutB P = true) {W W' : World} (hb : Below W.heap.size W W') : ∀ {ts : List TypeId} {vs : List Value} {ds : List (DataW H)} {ps : List MemPlace}, (ts.all fun t => P.readableRec t && decide (t < P.types.size)) = true →
  DataW.TrodAll enc P W 0 (fun _ => true) true ts vs ds ps → (∀ x ∈ ps, x.block < W.heap.size) → ∀ sp : Nat → Bool, (∀ p ∈ ps, sp p.block = true) → DataW.TrodAll enc P W' 0 sp true ts vs ds ps
 | [], [], [], _, _, h, _, _, _ => h
 | [], _ :: _, _, _, _, h, _, _, _ => h.elim
 | [], [], _ :: _, _, _, h, _, _, _ => h.elim
 | _ :: _, [], _, _, _, h, _, _, _ => h.elim
 | _ :: _, _ :: _, [], _, _, h, _, _, _ => h.elim
 | t :: ts, v :: vs, d :: ds, ps, hr, h, hlt, sp, hsp => by
  obtain ⟨p, q, h1, h2, rfl⟩ := h
  simp only [List.all_cons, Bool.and_eq_true, decide_eq_true_eq] at hr
  exact ⟨p, q, WideElems.Trod_stays hlo hr.1.1 hr.1.2 h1 (fun x hx => hb.same (hlt x (by simp [hx]))) (fun x hx => hsp x (by simp [hx])),
   trodAll_ext hlo hb hr.2 h2 (fun x hx => hlt x (by simp [hx])) sp (fun x hx => hsp x (by simp [hx])), rfl⟩
theorem post_law {f : Func} {s : ChangeSpec} {apart fresh handsOn again : Bool} {W W' : World} {args : Array Value} {ds gs : List (DataW H)} {before : List MemPlace}
  (hvs : s.vars = []) (hfn : s.fn H (ds ++ gs) = { results := [.lit (.bool true)], args := ds }) (hr : f.resultTypes = #[4]) (hrd : (f.params.toList.all fun t => Tryz.prog.readableRec t && decide (t < Tryz.prog.types.size)) = true)
  (hW : DataW.Whole enc Tryz.prog f.params.toList s.vars apart W args.toList ds gs before) (hE : Ext W W') : s.post enc Tryz.prog f apart fresh handsOn again W args (.bool true) W' := by
 have hb := hE.below
 have hlt : ∀ p ∈ before, p.block < W.heap.size := fun p hp => hW.lt p hp
 have hold : ∀ p ∈ before, (fun b => decide (b < W.heap.size)) p.block = true := fun p hp => by simpa using hlt p hp
 have hW' := hW
 obtain ⟨pa, pv, hA, hV, hps, hz, hn⟩ := hW
 rw [hvs] at hV
 have hvars : gs = [] ∧ pv = [] := by
  cases gs with
  | nil => exact ⟨rfl, hV⟩
  | cons g gs => exact hV.elim
 obtain ⟨rfl, rfl⟩ := hvars
 rw [List.append_nil] at hps
 subst hps
 have hargs : ∀ sp : Nat → Bool, (∀ p ∈ before, sp p.block = true) → DataW.TrodAll enc Tryz.prog W' 0 sp true f.params.toList args.toList (s.fn H (ds ++ [])).args before := fun sp hsp => by
  rw [hfn]; exact trodAll_ext laid_ hb hrd hA hlt sp hsp
 have hres : ∀ (b : Nat) (sp : Nat → Bool) (hd : Bool), DataW.TrodAll enc Tryz.prog W' b sp hd f.resultTypes.toList ((Value.bool true).resultList f.resultTypes.size) (s.fn H (ds ++ [])).results [] := fun b sp hd => by
  rw [hfn, hr]; exact trodAll_mk1 (shut_bool Tryz.underlying4 _)
 have hvr : ∀ sp : Nat → Bool, DataW.TrodVars enc Tryz.prog W' sp s.vars (s.fn H (ds ++ [])).vars [] := fun sp => by
  rw [hfn, hvs]; rfl
 have hok : ∀ (j : Nat) (t : TypeId) (r : Value), f.resultTypes[j]? = some t → ((Value.bool true).resultList f.resultTypes.size)[j]? = some r → Value.okWide Tryz.prog W' .any 0 t r := ok_one hr rfl (okWide_bool_mk Tryz.underlying4 _)
 refine ⟨ds, [], before, [], before, [], hW', hres _ _ _, hargs _ hold, hvr _, World.keptBut_mono (fun p hp => ⟨hp, .inr (.inl hp)⟩) (hb.frame (· ∈ before)), fun _ => ?_⟩
 refine ⟨hok, _, _, ([] ++ before) ++ [], ⟨[] ++ before, [], trodAll_append (hargs _ (fun _ _ => rfl)) (hres _ _ _), hvr _, rfl, ?_, ?_⟩, ?_⟩
 ·intro b off hp
  have hin : MemPlace.cell b off ∈ before := by simpa using hp
  rw [hb.frozen (hlt _ hin)]
  exact hz b off hin
 ·intro ha
  have := hn ha
  simpa using this
 ·intro p hp _
  simpa using hp
end
end
end Go.Proofs.YtoheknblphcloaaGreatDoor.Eng
