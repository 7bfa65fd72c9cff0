/-
  Regions in which an operation that makes a block stands in no order with others.
-/
import Derived.Test.YtalnkjpgnkfedaaGreatDoorEyj
import Derived.Test.YtalnkjpgnkfedaaGreatDoorEngQ
namespace Go.Proofs.YtalnkjpgnkfedaaGreatDoor
open Go.RowKit
namespace Eng
namespace Rn
theorem look_put_ne {env : Env} {d : Option Tmp} {v : Value} {t : Nat} (h : d ≠ some t) : look (Eng.put env d v) t = look env t := by
  cases d with
  | none => rfl
  | some k =>
    show look ((k, v) :: env) t = _
    rw [look_cons, if_neg (fun e => h (by rw [e]))]
/-- Only the slots of the operations are put. -/
theorem xs_keep {hs : List Nat} {H : World → Prop} {full : Array Oper} {K : Env → World → Prop} : ∀ {l : List Oper} {env : Env} {w : World}, xs Tryz.prog isI isS hs H full K l env w → xs Tryz.prog isI isS hs H full (fun env' w' => K env' w' ∧ ∀ t, (∀ o ∈ l, o.dst ≠ some t) → look env' t = look env t) l env w
  | [], _, _, h => ⟨h, fun _ _ => rfl⟩
  | o :: l, env, w, ⟨g, hg, h1, h2⟩ => by
    have step : ∀ v w', xs Tryz.prog isI isS hs H full K l (Eng.put env o.dst v) w' → xs Tryz.prog isI isS hs H full (fun env' w' => K env' w' ∧ ∀ t, (∀ o' ∈ o :: l, o'.dst ≠ some t) → look env' t = look env t) l (Eng.put env o.dst v) w' := fun v w' h =>
      xs_monoH (fun env' w' ⟨hk, hl⟩ => ⟨hk, fun t ht => (hl t fun o' ho' => ht o' (List.mem_cons_of_mem _ ho')).trans (look_put_ne (ht o List.mem_cons_self))⟩) (xs_keep h)
    exact ⟨g, hg, fun hh => ⟨(h1 hh).1, acts_monoH (fun v w' hx => step v w' hx) (h1 hh).2⟩, fun hh => step _ _ (h2 hh)⟩
theorem ops_keep {d : Option Tmp} {op : Op} {ty : TypeId} {pos : String} {af : Array Edge} {env env2 : Env} (hx : ∀ x ∈ op.operands.toList, evo env2 x = evo env x) (h : opsOK env ⟨d, op, ty, pos, af, none⟩ = true) : opsOK env2 ⟨d, op, ty, pos, af, none⟩ = true := by
  unfold opsOK at h ⊢
  rw [List.all_eq_true] at h ⊢
  intro x hm
  rw [hx x hm]
  exact h x hm
/-- What such an operation makes. -/
def Made (ρ : Pl) (env : Env) (d : Tmp) (op : Op) (ty : TypeId) (pos : String) (af : Array Edge) (σ : Mem) (c : Kt) (res : Rs) : Prop :=
  ∃ (el : TypeId) (l : List SV) (vs : List Value) (cs : Array Value) (n z : Nat) (av : Nat → AV) (mv : Nat → Value), newK σ el l (fun id σ => c (av id) σ) = res ∧ SRs ρ l vs ∧ (∀ (o : Nat) v, vs[o]? = some v → cs[o]? = some v) ∧ n * z ≤ cs.size ∧ (∀ id b (ρ' : Pl), ρ'[id]? = some ⟨b, n, z⟩ → AR ρ' (av id) (mv b)) ∧ (∀ t n' ps, op = .buildSlice t n' ps → elemOf t = some (el, z) ∧ cs = vs.toArray ∧ vs.length = n * z ∧ (av = fun id => .v (.lx id z 0 n n)) ∧ mv = fun b => .slice (some ⟨b, 0, none⟩) n n) ∧
      ∀ (env2 : Env) (w : World), (∀ x ∈ op.operands.toList, evo env2 x = evo env x) → opsOK env2 ⟨some d, op, ty, pos, af, none⟩ = true ∧ (execOp (ev env2) ⟨some d, op, ty, pos, af, none⟩).run Tryz.prog w = .ok (.value (mv w.heap.size)) (w.alloc (.cells cs el))
theorem al_mk {ih : Cl} {e : En} {σ : Mem} {c : Kt} {res : Rs} {ρ : Pl} {env : Env} {d : Tmp} {ty : TypeId} {pos : String} {af : Array Edge} (hr : res ≠ .no) {t : TypeId} (h : (alW t (zA t)).f ih e σ c = res) : Made ρ env d (.alloc t) ty pos af σ c res := by
  unfold alW at h
  split at h
  · rename_i z hz
    rw [cVs_eq] at h
    obtain ⟨i, v, hi, hv, hl⟩ := zA_inv (ρ := ρ) hz
    refine ⟨t, z, _, v.cells, v.cells.size, 1, _, fun b => .pointer (some ⟨b, 0, none⟩), h, hl, fun o u hu => by simpa using hu, by simp, fun id b ρ' hp => ⟨_, hp, rfl⟩, (fun _ _ _ hh => by cases hh), fun env2 w _ => ⟨by simp [opsOK, Op.operands], ?_⟩⟩
    simp [execOp, Instr.alloc, zeroValue, typeInfo, hi, hv, newVar, newRow]
  · exact absurd h.symm hr
theorem rw_mk {m : Nat} {ih : Cl} {e : En} {σ : Mem} {c : Kt} {res : Rs} {ρ : Pl} {env : Env} {d : Tmp} {ty : TypeId} {pos : String} {af : Array Edge} (hr : res ≠ .no) (hE : ER m ρ e env) {t : TypeId} {n : Nat} {ps : List (Nat × Operand)} (hm : 1 ≤ n) (h : (rwW m n ps (elemOf t)).f ih e σ c = res) : Made ρ env d (.buildSlice t n ps.toArray) ty pos af σ c res := by
  unfold rwW at h
  split at h
  · omega
  split at h
  · rename_i el z hel
    obtain ⟨hu, hsz⟩ := elemOf_inv hel
    obtain ⟨⟨ie, hie, hz⟩, _⟩ := size_spec hsz
    split at h
    · rename_i zs hzs
      split at h
      · exact absurd h.symm hr
      · rename_i hchk
        rw [cN_eq, cN_eq, cVs_eq] at h
        obtain ⟨k1, hchk⟩ := an_inv hchk
        obtain ⟨k2, hchk⟩ := an_inv hchk
        obtain ⟨k3, k4⟩ := an_inv hchk
        have k1 := Nat.eq_of_beq_eq_true k1
        have k2 := Nat.le_of_ble_eq_true k2
        have k3 := Nat.le_of_ble_eq_true k3
        have k4 : n * z ≤ 16777216 := Nat.le_of_ble_eq_true k4
        obtain ⟨i, v, hi, hv, hl⟩ := zA_inv (ρ := ρ) hzs
        rw [hie] at hi; obtain rfl := Option.some.inj hi
        have hrep := rep_rel hl n
        rw [k1] at hrep
        obtain ⟨pvs, l', vs', h1, h2, h3, hlen', g1⟩ := ptW_inv hr hE h hrep
        obtain ⟨he, ho⟩ := evq_spec h1
        have hpos : 0 < n * z := Nat.mul_pos (by omega) (by omega)
        have hlen' : vs'.length = n * z := by rw [hlen', Array.length_toList, size_madeCells]
        refine ⟨el, l', vs', vs'.toArray, n, z, fun id => .v (.lx id z 0 n n), fun b => .slice (some ⟨b, 0, none⟩) n n, g1, h3, fun o u hu => by simpa using hu, by simp [hlen'], fun id b ρ' hp => ⟨_, hp, Nat.le_refl _, by have := Nat.le_mul_of_pos_right n k3; unfold maxLen; omega, by simp⟩, (fun t' n' ps' hh => by injection hh with h1 _ _; subst h1; exact ⟨hel, rfl, hlen', rfl, rfl⟩), fun env2 w hx => ?_⟩
        have hx' : ∀ p ∈ ps, evo env2 p.2 = evo env p.2 := fun p hp => hx p.2 (by simp only [Op.operands]; simp; exact ⟨p.1, by simpa using hp⟩)
        have hev : (ps.map fun p => (p.1, ev env2 p.2)) = ps.map fun p => (p.1, ev env p.2) := List.map_congr_left fun p hp => by unfold ev; rw [hx' p hp]
        have hrun := run_buildSlice (P := Tryz.prog) w t el n ((ps.map fun p => (p.1, ev env2 p.2)).toArray) vs'.toArray ie v hu hie hv (by rw [hz]; omega) (by rw [hz]; omega) (by
          show Instr.fill _ _ (ps.map fun p => (p.1, ev env2 p.2)) = _
          rw [hev, he, hz]
          exact h2)
        refine ⟨ops_keep hx (by simp only [opsOK, Op.operands]; rw [List.all_eq_true]; intro x hx; simp at hx; obtain ⟨j, hj⟩ := hx; exact ho _ (by simpa using hj)), ?_⟩
        have e2 : (ps.toArray.map fun x => match x with | (i, x) => (i, ev env2 x)) = (ps.map fun p => (p.1, ev env2 p.2)).toArray := by simp
        simp only [execOp]
        rw [e2]
        simp [hrun]
    · exact absurd h.symm hr
  · exact absurd h.symm hr
set_option maxRecDepth 20000 in
theorem mk_inv {m : Nat} {ih : Cl} {e : En} {σ : Mem} {c : Kt} {res : Rs} {ρ : Pl} {env : Env} {d : Tmp} {ty : TypeId} {pos : String} {af : Array Edge} (hr : res ≠ .no) {op : Op} (hm : isMk op = true) (hE : ER m ρ e env) (h : (opW m op).f ih e σ c = res) : Made ρ env d op ty pos af σ c res := by
  cases op with
  | alloc t => exact al_mk hr h
  | buildSlice t n ps => exact rw_mk (ps := ps.toList) hr hE (Nat.le_of_ble_eq_true hm) h
  | _ => cases hm
/-- The operations run on some world: what their end knows. -/
theorem dryH {w0 : Fm} {m : Nat} {ih : Cl} {res : Rs} {k : Kr} (hr : res ≠ .no) (hih : CallS w0 ih) {hs : List Nat} {full : List Oper} : ∀ {l : List Oper} {e : En} {σ : Mem} {ρ : Pl} {env : Env} {w : World}, ER m ρ e env → MR w0 ρ σ w → (regH m hs full l).f ih e σ k = res → ∃ env' w' e1 σ1 ρ', k e1 σ1 = res ∧ Up ρ ρ' ∧ ER m ρ' e1 env' ∧ MR w0 ρ' σ1 w' ∧ ∀ t, (∀ o ∈ l, o.dst ≠ some t) → look env' t = look env t
  | [], e, σ, ρ, env, w, hE, hM, h => ⟨env, w, e, σ, ρ, h, Up.refl ρ, hE, hM, fun _ _ => rfl⟩
  | o :: l, e, σ, ρ, env, w, hE, hM, h => by
    have h' : (orH m hs full o).f ih e σ (fun e σ => (regH m hs full l).f ih e σ k) = res := h
    obtain ⟨env1, w1, ⟨e1, σ1, ρ1, h1, h2, h3, h4, _⟩, h5⟩ := xs_some (xs_keep (s_orH hr hih hE hM h'))
    obtain ⟨env2, w2, e2, σ2, ρ2, g1, g2, g3, g4, g5⟩ := dryH hr hih h3 h4 h1
    exact ⟨env2, w2, e2, σ2, ρ2, g1, h2.trans g2, g3, g4, fun t ht => (g5 t fun o' ho' => ht o' (List.mem_cons_of_mem _ ho')).trans (h5 t fun o' ho' => by rw [List.mem_singleton] at ho'; subst ho'; exact ht _ List.mem_cons_self)⟩
theorem alook_delL {d t : Nat} : ∀ {l : AEnv}, alook t (delL d l) = if d = t then none else alook t l
  | [] => by
    have e : alook t (delL d []) = none := rfl
    rw [e]; split <;> rfl
  | (k, x) :: l => by
    have e1 : delL d ((k, x) :: l) = Bool.rec (motive := fun _ => AEnv) ((k, x) :: delL d l) (delL d l) (Nat.beq k d) := rfl
    have ih := alook_delL (d := d) (t := t) (l := l)
    rw [e1]
    cases hk : Nat.beq k d with
    | true =>
      have hk := Nat.eq_of_beq_eq_true hk
      subst hk
      show alook t (delL k l) = _
      rw [ih]
      by_cases ht : k = t
      · rw [if_pos ht, if_pos ht]
      · rw [if_neg ht, if_neg ht]; simp [alook, ht]
    | false =>
      have hk : k ≠ d := fun e => by subst e; rw [Nat.beq_refl] at hk; cases hk
      show alook t ((k, x) :: delL d l) = _
      by_cases ht : k = t
      · subst ht
        rw [if_neg (fun e => hk e.symm)]; simp [alook]
      · simp only [alook, if_neg ht]; exact ih
theorem delL_idem {d : Nat} : ∀ {l : AEnv}, delL d (delL d l) = delL d l
  | [] => rfl
  | (k, x) :: l => by
    have e1 : delL d ((k, x) :: l) = Bool.rec (motive := fun _ => AEnv) ((k, x) :: delL d l) (delL d l) (Nat.beq k d) := rfl
    rw [e1]
    cases hk : Nat.beq k d with
    | true => exact delL_idem
    | false =>
      show Bool.rec (motive := fun _ => AEnv) ((k, x) :: delL d (delL d l)) (delL d (delL d l)) (Nat.beq k d) = _
      rw [hk, delL_idem]
theorem delE_idem {d : Nat} {e : En} : delE d (delE d e) = delE d e := by
  unfold delE
  simp only [delL_idem]
theorem delL_comm {d d2 : Nat} : ∀ {l : AEnv}, delL d (delL d2 l) = delL d2 (delL d l)
  | [] => rfl
  | (k, x) :: l => by
    have e1 : ∀ (q : Nat) (r : AEnv), delL q ((k, x) :: r) = Bool.rec (motive := fun _ => AEnv) ((k, x) :: delL q r) (delL q r) (Nat.beq k q) := fun _ _ => rfl
    have ih := delL_comm (d := d) (d2 := d2) (l := l)
    rw [e1, e1]
    cases hk : Nat.beq k d2 with
    | true =>
      cases hk' : Nat.beq k d with
      | true => exact ih
      | false =>
        show delL d (delL d2 l) = delL d2 ((k, x) :: delL d l)
        rw [e1, hk]; exact ih
    | false =>
      show delL d ((k, x) :: delL d2 l) = _
      rw [e1]
      cases hk' : Nat.beq k d with
      | true => exact ih
      | false =>
        show (k, x) :: delL d (delL d2 l) = delL d2 ((k, x) :: delL d l)
        rw [e1, hk, ih]
/-- Both slots taken out once more. -/
theorem delE_two {d d2 : Nat} {e : En} : delE d (delE d2 (delE d (delE d2 e))) = delE d (delE d2 e) := by
  have h : ∀ l : AEnv, delL d (delL d2 (delL d (delL d2 l))) = delL d (delL d2 l) := fun l => by
    rw [delL_comm (d := d2) (d2 := d), delL_idem, delL_idem]
  unfold delE
  simp only [h]
theorem elk_del {m d t : Nat} {e : En} : elk m (delE d e) t = if d = t then none else elk m e t := by
  unfold elk delE
  cases kept m t <;> exact alook_delL
theorem ER.del {m : Nat} {ρ : Pl} {e : En} {env : Env} {d : Nat} (h : ER m ρ e env) : ER m ρ (delE d e) env := fun t a ha => by
  rw [elk_del] at ha
  split at ha
  · cases ha
  · exact h t a ha
/-- With a slot taken out each time. -/
theorem dryF {w0 : Fm} {m : Nat} {ih : Cl} {res : Rs} {k : Kr} (hr : res ≠ .no) (hih : CallS w0 ih) {hs : List Nat} {full : List Oper} {d d2 : Nat} : ∀ {l : List (Oper × Bool)} {e : En} {σ : Mem} {ρ : Pl} {env : Env} {w : World}, ER m ρ e env → MR w0 ρ σ w → (regF m hs full d d2 l).f ih e σ k = res → ∃ env' w' e1 σ1 ρ', k e1 σ1 = res ∧ Up ρ ρ' ∧ ER m ρ' e1 env' ∧ MR w0 ρ' σ1 w' ∧ ∀ t, (∀ o ∈ l.map Prod.fst, o.dst ≠ some t) → look env' t = look env t
  | [], e, σ, ρ, env, w, hE, hM, h => ⟨env, w, e, σ, ρ, h, Up.refl ρ, hE, hM, fun _ _ => rfl⟩
  | (o, b) :: l, e, σ, ρ, env, w, hE, hM, h => by
    have h' : (orH m hs full o).f ih (delE d (delE d2 e)) σ (fun e σ => (regF m hs full d d2 l).f ih e σ k) = res := h
    obtain ⟨env1, w1, ⟨e1, σ1, ρ1, h1, h2, h3, h4, _⟩, h5⟩ := xs_some (xs_keep (s_orH hr hih hE.del.del hM h'))
    obtain ⟨env2, w2, e2, σ2, ρ2, g1, g2, g3, g4, g5⟩ := dryF hr hih h3 h4 h1
    exact ⟨env2, w2, e2, σ2, ρ2, g1, h2.trans g2, g3, g4, fun t ht => (g5 t fun o' ho' => ht o' (by rw [List.map_cons]; exact List.mem_cons_of_mem _ ho')).trans (h5 t fun o' ho' => by rw [List.mem_singleton] at ho'; subst ho'; exact ht _ (by rw [List.map_cons]; exact List.mem_cons_self))⟩
theorem Mono.regF {w0 : Fm} {m : Nat} {ih : Cl} {res : Rs} {nh : List Nt} {nm : List Mem} {k : Kr} (hr : res ≠ .no) (hih : CallS w0 ih) {hs : List Nat} {full : List Oper} {d d2 : Nat} (hk : Mono w0 m res nh nm k) : ∀ l : List (Oper × Bool), Mono w0 m res nh nm (fun e σ => (regF m hs full d d2 l).f ih e σ k)
  | [] => hk
  | (o, _) :: l => fun e σ ρ env w hE hM h => Mono.op (o := o) hr hih (Mono.regF hr hih hk l) (delE d (delE d2 e)) σ ρ env w hE.del.del hM h
theorem s_regF {w0 w00 : Fm} {m : Nat} {ih : Cl} {res : Rs} {σ0 : Mem} {ρ0 : Pl} {ws : World} {nh : List Nt} {nm : List Mem} {k : Kr} (hr : res ≠ .no) (hih : CallS w0 ih) (hk : Mono w0 m res nh nm k) (hho : ∀ n ∈ nh, Hold σ0 nm n) (hM0 : MR w00 ρ0 σ0 ws) {hs0 : List Nat} {full : List Oper} {d d2 : Nat} : ∀ {l : List (Oper × Bool)} {e : En} {σ : Mem} {ρ : Pl} {env : Env} {w : World}, Up ρ0 ρ → ER m ρ e env → MR w0 ρ σ w → (regF m hs0 full d d2 l).f ih e σ k = res → xs Tryz.prog isI isS hs0 (HH ρ0 nh) full.toArray (fun env' w' => ∃ e1 σ1 ρ', k e1 σ1 = res ∧ Up ρ ρ' ∧ ER m ρ' e1 env' ∧ MR w0 ρ' σ1 w') (l.map Prod.fst) env w
  | [], e, σ, ρ, env, w, hu, hE, hM, h => ⟨e, σ, ρ, h, Up.refl ρ, hE, hM⟩
  | (o, b) :: l, e, σ, ρ, env, w, hu, hE, hM, h => by
    have h1 := s_regK hr hih (Mono.regF hr hih hk l) hho hM0 (hs0 := hs0) (full := full) (l := [o]) hu ((hE.del (d := d2)).del (d := d)) hM h
    rw [List.map_cons]
    refine xs_cons (xs_monoH (fun env' w' hh => ?_) h1)
    obtain ⟨e1, σ1, ρ1, k1, k2, k3, k4⟩ := hh
    exact xs_monoH (fun env'' w'' ⟨e2, σ2, ρ2, q1, q2, q3, q4⟩ => ⟨e2, σ2, ρ2, q1, k2.trans q2, q3, q4⟩) (s_regF hr hih hk hho hM0 (hu.trans k2) k3 k4 k1)
theorem HH.ext {ρ0 : Pl} {nh : List Nt} {w w' : World} (h : HH ρ0 nh w) (hE : Ext w w') : HH ρ0 nh w' := fun n hn p vs hp hv j u hj => hE.cell (h n hn p vs hp hv j u hj)
/-- A new block out of reach. -/
abbrev Fm.out {w0 : Fm} {ρ : Pl} {σ : Mem} {w w1 : World} (h : MR w0 ρ σ w) (hE : Ext w w1) : Fm := ⟨fun b => b ≠ w.heap.size ∧ w0.may b, w1, w0.ok.of (h.old.te hE) fun _ hb => hb.2⟩
theorem MR.keep {w0 : Fm} {ρ : Pl} {σ : Mem} {w w1 : World} (h : MR w0 ρ σ w) (hE : Ext w w1) : MR (Fm.out h hE) ρ σ w1 where
  len := h.len
  blk := (h.ext hE).blk
  old := Fr.refl _ _
  far := fun id o p hs hp => .inr ⟨Nat.ne_of_lt (h.below id o p hs hp), h.far id o p hs hp⟩
  pre := h.pre
  apart := h.apart
  mps := h.mps.to (Up.refl ρ) (fun _ _ hb => hb.ext hE) fun _ _ hb hm => .inr ⟨Nat.ne_of_lt hb.lt, hm⟩
theorem MR.back {w0 : Fm} {ρ ρ1 : Pl} {σ σ1 : Mem} {w w1 w' : World} (h : MR w0 ρ σ w) (hE : Ext w w1) (hlt : w.heap.size < w1.heap.size) (h1 : MR (Fm.out h hE) ρ1 σ1 w') : MR w0 ρ1 σ1 w' ∧ (∀ id o p, (cget σ1 id o).isSome = true → ρ1[id]? = some p → p.b ≠ w.heap.size) ∧ ∀ t cs, Bk w1 w.heap.size t cs → Bk w' w.heap.size t cs := by
  have hs := h.old.size
  refine ⟨⟨h1.len, h1.blk, (h.old.te hE).trans h1.old fun j hj hS => hS.2.resolve_left (by omega), fun id o p a b => ?_, h1.pre, h1.apart, h1.mps.to (Up.refl ρ1) (fun _ _ hb => hb) fun b l _ hm => ?_⟩, fun id o p a b => ?_, fun t cs hb => hb.fr h1.old fun hS => hS.1 rfl⟩
  · rcases h1.far id o p a b with hh | hh
    · have hh : w1.heap.size ≤ p.b := hh
      exact .inl (by omega)
    · exact hh.2
  · rcases hm with hh | hh
    · have hh : w1.heap.size ≤ b := hh
      exact .inl (by omega)
    · exact hh.2
  · rcases h1.far id o p a b with hh | hh
    · have hh : w1.heap.size ≤ p.b := hh
      omega
    · exact hh.1
set_option maxRecDepth 20000 in
theorem mkH_inv {m : Nat} {ih : Cl} {res : Rs} (hr : res ≠ .no) {hs : List Nat} {full : List Oper} {c : Kr} {e : En} {σ : Mem} {d : Tmp} {op : Op} {ty : TypeId} {pos : String} {af : Array Edge} (hm : isMk op = true) (h : (orH m hs full ⟨some d, op, ty, pos, af, none⟩).f ih e σ c = res) : (opW m op).f ih e σ (fun v σ => (puW m (some d)).f e v fun e => c ⟨e.vs, e.ts, e.hs, σ :: e.ms⟩ σ) = res := by
  unfold orH at h
  split at h
  · exact absurd h.symm hr
  · cases op with
    | alloc t => exact h
    | buildSlice t n ps => exact h
    | _ => cases hm
theorem xs_app2 {hs : List Nat} {H : World → Prop} {full : Array Oper} {K : Env → World → Prop} : ∀ {l1 l2 : List Oper} {env : Env} {w : World}, xs Tryz.prog isI isS hs H full (fun env' w' => xs Tryz.prog isI isS hs H full K l2 env' w') l1 env w → xs Tryz.prog isI isS hs H full K (l1 ++ l2) env w
  | [], _, _, _, h => h
  | _ :: _, _, _, _, ⟨g, hg, h1, h2⟩ => ⟨g, hg, fun hh => ⟨(h1 hh).1, acts_monoH (fun _ _ hx => xs_app2 hx) (h1 hh).2⟩, fun hh => xs_app2 (h2 hh)⟩
/-- Such an operation run ahead of others: at its own place in the list it is told with the block that is there already. -/
theorem early {w0 w00 : Fm} {m : Nat} {ih : Cl} {res : Rs} {σ0 : Mem} {ρ0 : Pl} {ws : World} {nh : List Nt} {nm : List Mem} {k : Kr} (hr : res ≠ .no) (hih : ∀ F, CallS F ih) (hk : ∀ F, Mono F m res nh nm k) (hho : ∀ n ∈ nh, Hold σ0 nm n) (hM0 : MR w00 ρ0 σ0 ws) {hs0 : List Nat} {full post : List Oper} {preB : List (Oper × Bool)} {d d2 : Tmp} {op : Op} {ty : TypeId} {pos : String} {af : Array Edge} (hm : isMk op = true) (hcl : cls isI isS op = .w)
    (hd : ∀ o ∈ preB.map Prod.fst, o.dst ≠ some d) (hx : ∀ o ∈ preB.map Prod.fst, ∀ t, Operand.tmp t ∈ op.operands.toList → o.dst ≠ some t) (hself : Operand.tmp d ∉ op.operands.toList) {e : En} {σ : Mem} {ρ : Pl} {env : Env} {w : World} (hu : Up ρ0 ρ) (hE : ER m ρ e env) (hM : MR w0 ρ σ w) (hnd : elk m e d = none) (hH : HH ρ0 nh w)
    (h : (regF m hs0 full d d2 preB).f ih e σ (fun e σ => (orH m hs0 full ⟨some d, op, ty, pos, af, none⟩).f ih e σ fun e σ => (regH m hs0 full post).f ih e σ k) = res) :
    xs Tryz.prog isI isS hs0 (HH ρ0 nh) full.toArray (fun env' w' => ∃ e1 σ1 ρ', k e1 σ1 = res ∧ Up ρ ρ' ∧ ER m ρ' e1 env' ∧ MR w0 ρ' σ1 w') (⟨some d, op, ty, pos, af, none⟩ :: (preB.map Prod.fst ++ post)) env w := by
  have opnd : ∀ {env' : Env}, (∀ t, (∀ o ∈ preB.map Prod.fst, o.dst ≠ some t) → look env' t = look env t) → ∀ x ∈ op.operands.toList, evo env x = evo env' x := fun {env'} hl x hxm => by
    cases x with
    | tmp t => exact (hl t fun o ho => hx o ho t hxm).symm
    | _ => rfl
  -- what is made
  obtain ⟨envd, wd, ed, σd, ρd, d1, _, d3, _, d5⟩ := dryF hr (hih w0) hE hM h
  obtain ⟨el, l, vs, cs, n, z, av, mv, _, _, _, _, _, _, b6⟩ := mk_inv (d := d) (ty := ty) (pos := pos) (af := af) hr hm d3 (mkH_inv hr hm d1)
  obtain ⟨r1, r2⟩ := b6 env w (opnd d5)
  have hE1 : Ext w (w.alloc (.cells cs el)) := Fr.alloc _ _ _
  have hH1 := HH.ext hH hE1
  refine xw r1 hcl r2 ?_ hH1
  have hM1 := hM.keep hE1
  have hE2 : ER m ρ e (Eng.put env (some d) (mv w.heap.size)) := fun t a ha => by
    obtain ⟨v, q1, q2⟩ := hE t a ha
    refine ⟨v, ?_, q2⟩
    rw [look_put_ne (fun hh => ?_)]
    · exact q1
    · injection hh with hh
      subst hh
      rw [hnd] at ha; cases ha
  refine xs_app2 ?_
  refine xs_monoH (fun env' w' hh => ?_) (xs_keep (s_regF hr (hih _) (Mono.op hr (hih _) (Mono.reg hr (hih _) (hk _) post)) hho hM0 hu hE2 hM1 h))
  obtain ⟨⟨e1, σ1, ρ1, c1, c2, c3, c4⟩, c5⟩ := hh
  obtain ⟨g1, g2, g3⟩ := hM.back hE1 (by simp) c4
  have hl : ∀ t, t ≠ d → (∀ o ∈ preB.map Prod.fst, o.dst ≠ some t) → look env' t = look env t := fun t hne ht => (c5 t ht).trans (look_put_ne fun hh => hne (by injection hh with hh; exact hh.symm))
  have hld : look env' d = some (mv w.heap.size) := (c5 d hd).trans (by simp [Eng.put, look_cons])
  obtain ⟨el', l', vs', cs', n', z', av', mv', a1, a2, a3, a4, a5, _, a6⟩ := mk_inv (d := d) (ty := ty) (pos := pos) (af := af) hr hm c3 (mkH_inv hr hm c1)
  obtain ⟨_, r3⟩ := a6 env w fun x hxm => by
    cases x with
    | tmp t => exact (hl t (fun hh => hself (by rw [← hh]; exact hxm)) fun o ho => hx o ho t hxm).symm
    | _ => rfl
  rw [r2] at r3
  injection r3 with hv hw
  injection hv with hv
  have hB : Bk w' w.heap.size el' cs' := g3 _ _ (by rw [hw]; exact Blk.bk (Blk.new _ _ _))
  obtain ⟨ob, σ2, q1, q2, q3, q4, q5, q6, q7⟩ := newK_inv hr a1
  have hM2 := g1.more (S := noneB) n' z' a4 q1 q2 (fun o ho => by rw [q4 o]; exact List.getElem?_eq_none (by omega)) (fun o x hx => by
    rw [q4 o] at hx
    obtain ⟨v, h3, h4⟩ := a2.get o x hx
    exact ⟨v, a3 o v h3, h4⟩) q5 q6 hB (Fr.refl _ _) (fun id o p s1 s2 => ⟨g2 id o p s1 s2, fun hh => hh⟩) (fun b hh => hh.elim) (.inl hM.old.size)
  obtain ⟨e2, t1, _, _, t4⟩ := puW_inv q7
  have hlast : (ρ1 ++ [(⟨w.heap.size, n', z'⟩ : At)])[σ1.n]? = some ⟨w.heap.size, n', z'⟩ := by rw [← g1.len]; simp
  have hE3 : ER m (ρ1 ++ [(⟨w.heap.size, n', z'⟩ : At)]) ⟨e2.vs, e2.ts, e2.hs, σ2 :: e2.ms⟩ env' := fun t a ha => by
    rcases t4 t a ha with ⟨hh, rfl⟩ | ⟨hh, ha⟩
    · injection hh with hh
      subst hh
      exact ⟨_, hld, by rw [hv]; exact a5 _ _ _ hlast⟩
    · obtain ⟨v, s1, s2⟩ := c3 t a ha
      exact ⟨v, s1, s2.up (Up.snoc _ _)⟩
  refine xs_monoH (fun env'' w'' hh => ?_) (s_regK hr (hih _) (hk _) hho hM0 ((hu.trans c2).trans (Up.snoc _ _)) hE3 hM2 t1)
  obtain ⟨e3, σ3, ρ3, v1, v2, v3, v4⟩ := hh
  exact ⟨e3, σ3, ρ3, v1, (c2.trans (Up.snoc _ _)).trans v2, v3, v4⟩
theorem opsAt_map {l : List Oper} : ∀ {is : List Nat} {os : List Oper}, opsAt l is = some os → is.map (l.toArray[·]?) = os.map some
  | [], os, h => by
    have h : some [] = some os := h
    obtain rfl := Option.some.inj h
    rfl
  | i :: is, os, h => by
    have h : (match l[i]?, opsAt l is with
      | some o, some r => some (o :: r)
      | _, _ => none) = some os := h
    split at h
    · rename_i o r h1 h2
      obtain rfl := Option.some.inj h
      rw [List.map_cons, List.map_cons, opsAt_map h2, List.getElem?_toArray, h1]
    · cases h
/-- What is to be shown for such an order. -/
def xf (hs : List Nat) (H : World → Prop) (full : Array Oper) (K : Env → World → Prop) (f : Oper) (post : List Oper) : List (Oper × Bool) → Env → World → Prop
  | [], env, w => xs Tryz.prog isI isS hs H full K (f :: post) env w
  | (o, b) :: pre, env, w => (b = true → H w → xs Tryz.prog isI isS hs H full K (f :: (o :: pre.map Prod.fst ++ post)) env w) ∧ xs Tryz.prog isI isS hs H full (xf hs H full K f post pre) [o] env w
theorem xg_k {hs : List Nat} {H : World → Prop} {full : Array Oper} {N : Nat} {A : Array Nat} {K : Env → World → Prop} (hR : RegOK full N A) {is l : List Nat} {ops : List Oper} {env : Env} {w : World} (h1 : soloL isI isS hs full A l is [] = true) (h2 : is.map (full[·]?) = ops.map some) (h : xs Tryz.prog isI isS hs H full K ops env w) : xg Tryz.prog isI isS hs H full N K l env w :=
  xg_run hR h1 h2 (xs_monoH (fun _ _ hk => xg_end hk) h)
theorem xs_split {hs : List Nat} {H : World → Prop} {full : Array Oper} {K : Env → World → Prop} : ∀ {l1 l2 : List Oper} {env : Env} {w : World}, xs Tryz.prog isI isS hs H full K (l1 ++ l2) env w → xs Tryz.prog isI isS hs H full (fun env' w' => xs Tryz.prog isI isS hs H full K l2 env' w') l1 env w
  | [], _, _, _, h => h
  | _ :: _, _, _, _, ⟨g, hg, h1, h2⟩ => ⟨g, hg, fun hh => ⟨(h1 hh).1, acts_monoH (fun _ _ hx => xs_split hx) (h1 hh).2⟩, fun hh => xs_split (h2 hh)⟩
theorem free_run {hs : List Nat} {H : World → Prop} {full : Array Oper} {N : Nat} {A : Array Nat} {K : Env → World → Prop} (hR : RegOK full N A) {f : Nat} {fo : Oper} (hof : full[f]? = some fo) {post : List Nat} {opost : List Oper} (hp : post.map (full[·]?) = opost.map some) : ∀ {pre : List (Nat × Bool)} {opre : List (Oper × Bool)} {l : List Nat} {env : Env} {w : World}, freeB hs full A f post l pre = true → pre.map Prod.snd = opre.map Prod.snd → (pre.map Prod.fst).map (full[·]?) = (opre.map Prod.fst).map some → xf hs H full K fo opost opre env w → xg Tryz.prog isI isS hs H full N K l env w
  | [], [], l, env, w, h, _, _, hx => xg_k hR (show soloL isI isS hs full A l (f :: post) [] = true from h) (by rw [List.map_cons, List.map_cons, hof, hp]) hx
  | [], _ :: _, _, _, _, _, h, _, _ => by cases h
  | _ :: _, [], _, _, _, _, h, _, _ => by cases h
  | (i, b) :: pre, (o, b') :: opre, l, env, w, h, hb, hm, hx => by
    rw [List.map_cons, List.map_cons, List.cons.injEq] at hb
    obtain ⟨hb, hbs⟩ := hb
    have hb : b = b' := hb
    subst hb
    rw [List.map_cons, List.map_cons, List.map_cons, List.map_cons, List.cons.injEq] at hm
    obtain ⟨ho, hms⟩ := hm
    have ho : full[i]? = some o := ho
    obtain ⟨hx1, hx2⟩ := hx
    have one : freeB hs full A f post (l.erase i) pre = true → xs Tryz.prog isI isS hs H full (xg Tryz.prog isI isS hs H full N K (l.erase i)) [o] env w := fun hq => xs_monoH (fun _ _ hk => free_run hR hof hp hq hbs hms hk) hx2
    cases b with
    | false =>
      have h : ((soloB isI isS hs full A l i || l.filter (rdyB full l) == [i]) && freeB hs full A f post (l.erase i) pre) = true := h
      rw [Bool.and_eq_true, Bool.or_eq_true] at h
      rcases h.1 with h1 | h1
      · exact xg_solo hR h1 ho (one h.2)
      · have h1 : l.filter (rdyB full l) = [i] := by simpa using h1
        refine xg_all hR (List.length_pos_of_mem (List.mem_filter.1 (show i ∈ l.filter (rdyB full l) by rw [h1]; simp)).1) fun i' o' hi' ho' => ?_
        rw [h1, List.mem_singleton] at hi'
        subst hi'
        rw [ho] at ho'; obtain rfl := Option.some.inj ho'
        exact one h.2
    | true =>
      have h : ((l.filter (rdyB full l) == [i, f] || l.filter (rdyB full l) == [f, i]) && (soloL isI isS hs full A (l.erase f) (i :: pre.map Prod.fst ++ post) [] && freeB hs full A f post (l.erase i) pre)) = true := h
      rw [Bool.and_eq_true, Bool.and_eq_true, Bool.or_eq_true] at h
      obtain ⟨h1, h2, h3⟩ := h
      have hmem : ∀ i', i' ∈ l.filter (rdyB full l) → i' = i ∨ i' = f := fun i' hi' => by
        rcases h1 with h1 | h1
        · have h1 : l.filter (rdyB full l) = [i, f] := by simpa using h1
          rw [h1] at hi'; simpa using hi'
        · have h1 : l.filter (rdyB full l) = [f, i] := by simpa using h1
          rw [h1] at hi'
          have : i' = f ∨ i' = i := by simpa using hi'
          exact this.symm
      have hin : i ∈ l.filter (rdyB full l) := by
        rcases h1 with h1 | h1
        · have h1 : l.filter (rdyB full l) = [i, f] := by simpa using h1
          rw [h1]; simp
        · have h1 : l.filter (rdyB full l) = [f, i] := by simpa using h1
          rw [h1]; simp
      intro hn hc hw a ha
      refine xg_all hR (List.length_pos_of_mem (List.mem_filter.1 hin).1) (fun i' o' hi' ho' => ?_) hn hc hw a ha
      rcases hmem i' hi' with rfl | rfl
      · rw [ho] at ho'; obtain rfl := Option.some.inj ho'
        exact one h3
      · rw [hof] at ho'; obtain rfl := Option.some.inj ho'
        have hx3 := hx1 rfl hw
        refine xs_cons (K := xg Tryz.prog isI isS hs H full N K (l.erase i')) (rest := []) ?_
        refine xs_monoH (fun env' w' hk => ?_) (xs_split (l1 := [fo]) hx3)
        refine xg_k hR h2 (ops := (o :: opre.map Prod.fst) ++ opost) ?_ hk
        rw [List.map_append, List.map_append, hp, List.map_cons, List.map_cons, ho, hms]
theorem mk_cls {op : Op} (h : isMk op = true) : cls isI isS op = .w := by
  cases op <;> first | rfl | cases h
theorem readsT_no {op : Op} {t : Nat} (h : readsT op t = false) : Operand.tmp t ∉ op.operands.toList := fun hm => by
  unfold readsT at h
  rw [List.any_eq_false] at h
  exact h _ hm (Nat.beq_refl t)
theorem offF_spec {d : Nat} {op : Op} {o : Oper} (h : offF d op o = true) : o.dst ≠ some d ∧ ∀ t, Operand.tmp t ∈ op.operands.toList → o.dst ≠ some t := by
  unfold offF at h
  split at h
  · rename_i t ht
    rw [Bool.not_eq_true', Bool.or_eq_false_iff] at h
    refine ⟨fun e => ?_, fun t' hm e => ?_⟩
    · rw [ht] at e
      obtain rfl := Option.some.inj e
      rw [Nat.beq_refl] at h
      cases h.1
    · rw [ht] at e
      obtain rfl := Option.some.inj e
      exact readsT_no h.2 hm
  · rename_i ht
    exact ⟨fun e => (by rw [ht] at e; cases e), fun t _ e => (by rw [ht] at e; cases e)⟩
/-- The executor's run is all that such an order asks. -/
theorem run_xf {w0 w00 : Fm} {m : Nat} {ih : Cl} {res : Rs} {σ0 : Mem} {ρ0 : Pl} {ws : World} {nh : List Nt} {nm : List Mem} {k : Kr} (hr : res ≠ .no) (hih : ∀ F, CallS F ih) (hk : ∀ F, Mono F m res nh nm k) (hho : ∀ n ∈ nh, Hold σ0 nm n) (hM0 : MR w00 ρ0 σ0 ws) {hs0 : List Nat} {full post : List Oper} {d d2 : Tmp} {op : Op} {ty : TypeId} {pos : String} {af : Array Edge} (hm : isMk op = true) (hself : readsT op d = false) {K : Env → World → Prop}
    (hK : ∀ env' w' e1 σ1 ρ', k e1 σ1 = res → Up ρ0 ρ' → ER m ρ' e1 env' → MR w0 ρ' σ1 w' → K env' w') : ∀ {preB : List (Oper × Bool)} {e : En} {σ : Mem} {ρ : Pl} {env : Env} {w : World}, farF d op preB = true → Up ρ0 ρ → ER m ρ e env → MR w0 ρ σ w →
    (regF m hs0 full d d2 preB).f ih e σ (fun e σ => (orH m hs0 full ⟨some d, op, ty, pos, af, none⟩).f ih e σ fun e σ => (regH m hs0 full post).f ih e σ k) = res → xf hs0 (HH ρ0 nh) full.toArray K ⟨some d, op, ty, pos, af, none⟩ post preB env w
  | [], e, σ, ρ, env, w, hf, hu, hE, hM, h => by
    refine xs_monoH (fun env' w' hh => ?_) (s_regK hr (hih w0) (hk w0) hho hM0 (l := ⟨some d, op, ty, pos, af, none⟩ :: post) hu hE hM h)
    obtain ⟨e1, σ1, ρ1, k1, k2, k3, k4⟩ := hh
    exact hK _ _ e1 σ1 ρ1 k1 (hu.trans k2) k3 k4
  | (o, b) :: preB, e, σ, ρ, env, w, hf, hu, hE, hM, h => by
    have hfar : farF d op preB = true := by
      cases b with
      | true =>
        have hf : (offF d op o && preB.all (fun x => offF d op x.1) && farF d op preB) = true := hf
        rw [Bool.and_eq_true] at hf
        exact hf.2
      | false => exact hf
    refine ⟨fun hb hH => ?_, ?_⟩
    · subst hb
      have hf : (offF d op o && preB.all (fun x => offF d op x.1) && farF d op preB) = true := hf
      rw [Bool.and_eq_true, Bool.and_eq_true] at hf
      have hoff : ∀ o' ∈ ((o, true) :: preB).map Prod.fst, offF d op o' = true := fun o' ho' => by
        rw [List.map_cons] at ho'
        rcases List.mem_cons.1 ho' with rfl | ho'
        · exact hf.1.1
        · obtain ⟨x, hx, rfl⟩ := List.mem_map.1 ho'
          exact List.all_eq_true.1 hf.1.2 x hx
      have h2 : (regF m hs0 full d d2 ((o, true) :: preB)).f ih (delE d (delE d2 e)) σ (fun e σ => (orH m hs0 full ⟨some d, op, ty, pos, af, none⟩).f ih e σ fun e σ => (regH m hs0 full post).f ih e σ k) = res := by
        show (orH m hs0 full o).f ih (delE d (delE d2 (delE d (delE d2 e)))) σ _ = res
        rw [delE_two]; exact h
      refine xs_monoH (fun env' w' hh => ?_) (early (preB := (o, true) :: preB) hr hih hk hho hM0 hm (mk_cls hm) (fun o' ho' => (offF_spec (hoff o' ho')).1) (fun o' ho' => (offF_spec (hoff o' ho')).2) (readsT_no hself) hu hE.del.del hM (by rw [elk_del, if_pos rfl]) hH h2)
      obtain ⟨e1, σ1, ρ1, k1, k2, k3, k4⟩ := hh
      exact hK _ _ e1 σ1 ρ1 k1 (hu.trans k2) k3 k4
    · refine xs_monoH (fun env' w' hh => ?_) (s_regK hr (hih w0) (Mono.regF hr (hih w0) (Mono.op hr (hih w0) (Mono.reg hr (hih w0) (hk w0) post)) preB) hho hM0 (l := [o]) hu ((hE.del (d := d2)).del (d := d)) hM h)
      obtain ⟨e1, σ1, ρ1, k1, k2, k3, k4⟩ := hh
      exact run_xf hr hih hk hho hM0 hm hself hK hfar (hu.trans k2) k3 k4 k1
/-- A region that draws, by the orders of what is left. -/
theorem wp_free {N : Nat} {id : Nat} {l : List Oper} {env : Env} {w : World} {a : Act} {K : Env → World → Prop} {Q : Exit → Act → World → Prop} (hs : List Nat) (H : World → Prop) (hd : dstOK N l.toArray = true) (hq : ancOK l.toArray (Region.before l.toArray) = true) (hw : H w.drew) (ha : Fits N env a)
    (hQ : ∀ a' env' w', Fits N env' a' → K env' w' → Q .normal a' w')
    (h : RegOK l.toArray N (Region.before l.toArray) → xg Tryz.prog isI isS hs H l.toArray N K (List.range l.toArray.size) env w.drew) : (Code.region id l.toArray true).wp Tryz.prog Q a w := by
  have hR := Eng.regOK hd hq
  have h' := h hR List.nodup_range (fun i o ho hi => absurd (List.mem_range.2 (Array.getElem?_eq_some_iff.1 ho).1) hi) hw a ha
  rw [List.length_range] at h'
  refine wp_region_any mixed ?_
  refine wpAny_of_sch (P := Tryz.prog) (isI := isI) (isS := isS) (hs := hs) (H := H) hR.a (K := fun a' w' => ∃ env', Fits N env' a' ∧ K env' w') (fun a' w' ⟨env', hf, ht⟩ => hQ a' env' w' hf ht) l.toArray.size _ (List.range l.toArray.size) a _ hw (by simp) (by simp) List.nodup_range (fun i => ?_) h'
  rw [List.mem_range]
  simp [Array.getD_eq_getD_getElem?, Array.getElem?_replicate]
  intro hi
  simp [hi]
end Rn
end Eng
end Go.Proofs.YtalnkjpgnkfedaaGreatDoor
