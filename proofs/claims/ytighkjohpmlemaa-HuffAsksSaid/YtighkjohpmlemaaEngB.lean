/-
  A walk over named temporaries: the state is a list of slots with their values, the code to come a list of items. Rules for sequences, tests, blocks, loops, labels, regions, calls and returns.
-/
import Derived.Test.YtighkjohpmlemaaEngA
import Derived.Deep.LoopGhost
namespace Go.Proofs.Ytighkjohpmlemaa
open Go.RowKit

namespace Eng

abbrev Env := List (Nat × Value)

def look : Env → Nat → Option Value
  | [], _ => none
  | (k, v) :: r, t => match Nat.beq k t with
    | true => some v
    | false => look r t

def evo (env : Env) : Operand → Option Value
  | .tmp t => look env t
  | .const v => some v
  | .global g => some (.pointer (some ⟨g, 0, none⟩))
  | .func f => some (.func (.func f) #[] #[])

def ev (env : Env) (x : Operand) : Value := (evo env x).getD undef

def Fits (N : Nat) (env : Env) (a : Act) : Prop := a.defers = [] ∧ a.tmps.size = N ∧ ∀ t v, look env t = some v → a.tmps[t]? = some v

def put (env : Env) : Option Tmp → Value → Env
  | some d, v => (d, v) :: env
  | none, _ => env

theorem look_cons (k : Nat) (v : Value) (r : Env) (t : Nat) : look ((k, v) :: r) t = if k = t then some v else look r t := by
  simp only [look]
  by_cases h : k = t
  · subst h; simp
  · rw [if_neg h]
    have : Nat.beq k t = false := by
      cases hb : Nat.beq k t with
      | false => rfl
      | true => exact absurd (Nat.eq_of_beq_eq_true hb) h
    rw [this]

theorem Fits.eval {N : Nat} {env : Env} {a : Act} (h : Fits N env a) {x : Operand} {v : Value} (hx : evo env x = some v) : a.eval x = v := by
  cases x with
  | tmp t => simp only [Act.eval]; rw [Array.getD_eq_getD_getElem?, h.2.2 t v hx]; rfl
  | const u => injection hx
  | global g => injection hx
  | func f => injection hx

theorem Fits.put {N : Nat} {env : Env} {a : Act} (h : Fits N env a) (d : Option Tmp) (hd : ∀ t, d = some t → t < N) (v : Value) : Fits N (put env d v) (a.put d v) := by
  obtain ⟨h1, h2, h3⟩ := h
  cases d with
  | none => exact ⟨h1, h2, h3⟩
  | some d =>
    refine ⟨h1, by simpa [Act.put] using h2, fun t u hu => ?_⟩
    simp only [Eng.put, look_cons] at hu
    simp only [Act.put]
    split at hu
    · rename_i e; subst e; injection hu with hu; subst hu
      rw [Array.getElem?_setIfInBounds_self_of_lt (by rw [h2]; exact hd _ rfl)]
    · rename_i e
      rw [Array.getElem?_setIfInBounds_ne e]; exact h3 t u hu

def opsOK (env : Env) (o : Oper) : Bool := o.op.operands.toList.all fun x => (evo env x).isSome

theorem exec_eq {N : Nat} {env : Env} {a : Act} (h : Fits N env a) {o : Oper} (hs : ∀ cs b, o.op ≠ .select cs b) (ho : opsOK env o = true) : execOp (ev env) o = execOp a.eval o :=
  execOp_congr o hs fun x hx => by
    have := List.all_eq_true.1 ho x (by simpa using hx)
    obtain ⟨v, hv⟩ := Option.isSome_iff_exists.1 this
    rw [h.eval hv]
    simp [ev, hv]

/-- What the guard of an operation says. -/
def gv (full : Array Oper) (env : Env) (g : Option (Nat × Bool)) : Option Bool :=
  match g with
  | none => some true
  | some (j, want) => match (full[j]?).bind (·.dst) with
    | none => some false
    | some d => match look env d with
      | some (.bool true) => some want
      | some (.bool false) => some (!want)
      | some _ => some false
      | none => none

theorem gv_wanted {N : Nat} {full : Array Oper} {env : Env} {a : Act} (h : Fits N env a) {o : Oper} {b : Bool} (hg : gv full env o.guard = some b) : Region.wanted o (yielded full a.tmps) = b := by
  unfold gv at hg
  unfold Region.wanted
  cases hgd : o.guard with
  | none => rw [hgd] at hg; injection hg
  | some jw =>
    obtain ⟨j, want⟩ := jw
    rw [hgd] at hg
    dsimp only at hg ⊢
    unfold yielded
    cases hd : (full[j]?).bind (·.dst) with
    | none => rw [hd] at hg; injection hg
    | some d =>
      rw [hd] at hg
      dsimp only at hg
      cases hl : look env d with
      | none => rw [hl] at hg; cases hg
      | some v =>
        rw [hl] at hg
        simp only [Option.bind_some, h.2.2 d v hl]
        cases v with
        | bool c => cases c <;> injection hg with hg <;> subst hg <;> cases want <;> rfl
        | _ => injection hg

variable {P : Program} {isI isS : TypeId → Bool} {hs : List Nat} {H : World → Prop}

/-- Operations one behind the other, over named temporaries. -/
def xs (P : Program) (isI isS : TypeId → Bool) (hs : List Nat) (H : World → Prop) (full : Array Oper) (K : Env → World → Prop) : List Oper → Env → World → Prop
  | [], env, w => K env w
  | o :: rest, env, w => ∃ g, gv full env o.guard = some g ∧
      (g = true → opsOK env o = true ∧ acts P H (clsO isI isS hs o) (execOp (ev env) o) w (fun v w' => xs P isI isS hs H full K rest (put env o.dst v) w')) ∧
      (g = false → xs P isI isS hs H full K rest (put env o.dst undef) w)

theorem ss_of_xs {N : Nat} {full : Array Oper} {K : Env → World → Prop} (hsel : Region.noSelect full = true) (hd : ∀ (i : Nat) (o : Oper), full[i]? = some o → ∀ t, o.dst = some t → t < N) :
    ∀ (l : List Oper) (k : Nat) (env : Env) (a : Act) (w : World), (∀ j, l[j]? = full[k + j]?) → H w → Fits N env a → xs P isI isS hs H full K l env w →
      ss P isI isS hs H full (fun a' w' => ∃ env', Fits N env' a' ∧ K env' w') (List.range' k l.length) a w
  | [], k, env, a, w, _, _, hf, h => ⟨env, hf, h⟩
  | o :: l, k, env, a, w, hl, hw, hf, h => by
    have h0 : full[k]? = some o := by simpa using (hl 0).symm
    have hl' : ∀ j, l[j]? = full[k + 1 + j]? := fun j => by have := hl (j + 1); simpa [Nat.add_assoc, Nat.add_comm 1 j] using this
    obtain ⟨g, hg, ht, hff⟩ := h
    simp only [List.length_cons, List.range'_succ, ss, h0]
    unfold s1
    rw [gv_wanted hf hg]
    cases g with
    | true =>
      obtain ⟨ho, ha⟩ := ht rfl
      rw [if_pos rfl, ← exec_eq hf (fun cs b => Region.noSelect_spec hsel k o cs b h0) ho]
      exact acts_mono hw (fun v w' hw' hx => ss_of_xs hsel hd l (k + 1) _ _ w' hl' hw' (hf.put o.dst (hd k o h0) v) hx) ha
    | false =>
      rw [if_neg (by decide)]
      exact ss_of_xs hsel hd l (k + 1) _ _ w hl' hw (hf.put o.dst (hd k o h0) undef) (hff rfl)

/-- What is still to do. -/
inductive It where
  | code (c : Code)
  | blk (id : Nat)
  | fin (J : Env → World → Prop)
  | scp (J : Nat → Env → World → Prop)

def sem (P : Program) (N : Nat) (Q : Exit → Act → World → Prop) : List It → Exit → Act → World → Prop
  | [] => Q
  | .code c :: k => Exit.then (fun a w => c.wp P (sem P N Q k) a w) (sem P N Q k)
  | .blk id :: k => Exit.inBlock id (sem P N Q k)
  | .fin J :: k => Exit.then (fun a w => ∃ env, Fits N env a ∧ J env w) (sem P N Q k)
  | .scp J :: k => fun e a w => match e with
    | .goto l => ∃ env, Fits N env a ∧ J l env w
    | e => sem P N Q k e a w

def Ret (R : Value → World → Prop) : Ending → World → Prop := fun e w => ∃ v, e = .returned v ∧ R v w

/-- The function f returns, and R holds of its result and the world. -/
def Does (P : Program) (f : FuncId) (args : Array Value) (w : World) (R : Value → World → Prop) : Prop := Calls P f args w (Ret R)

theorem Does.mono {f : FuncId} {args : Array Value} {w : World} {R R' : Value → World → Prop} (h : Does P f args w R) (hr : ∀ v w', R v w' → R' v w') : Does P f args w R' :=
  Calls.mono h fun _ _ ⟨v, he, k⟩ => ⟨v, he, hr _ _ k⟩

def T (P : Program) (fn : Func) (R : Value → World → Prop) (k : List It) (env : Env) (w : World) : Prop :=
  ∀ a, Fits fn.ntmps env a → sem P fn.ntmps (bodyPost P fn (Ret R)) k .normal a w

variable {fn : Func} {R : Value → World → Prop} {k : List It} {env : Env} {w : World}

theorem tseq {x y : Code} (h : T P fn R (.code x :: .code y :: k) env w) : T P fn R (.code (.seq x y) :: k) env w := fun a ha => wp_seq (h a ha)
theorem tskip (h : T P fn R k env w) : T P fn R (.code .skip :: k) env w := fun a ha => wp_skip (h a ha)
theorem tlabel {l : Nat} (h : T P fn R k env w) : T P fn R (.code (.label l) :: k) env w := fun a ha => wp_label (h a ha)
theorem tblock {id : Nat} {c : Code} (h : T P fn R (.code c :: .blk id :: k) env w) : T P fn R (.code (.block id c) :: k) env w := fun a ha => wp_block (h a ha)
theorem tblk {id : Nat} (h : T P fn R k env w) : T P fn R (.blk id :: k) env w := fun a ha => h a ha
theorem tfin {J : Env → World → Prop} (h : J env w) : T P fn R (.fin J :: k) env w := fun _ ha => ⟨env, ha, h⟩
theorem tct {c : Operand} {x y : Code} (hc : evo env c = some (.bool true)) (h : T P fn R (.code x :: k) env w) : T P fn R (.code (.cond c x y) :: k) env w := fun a ha => wp_cond_true (ha.eval hc) (h a ha)
theorem tcf {c : Operand} {x y : Code} (hc : evo env c = some (.bool false)) (h : T P fn R (.code y :: k) env w) : T P fn R (.code (.cond c x y) :: k) env w := fun a ha => wp_cond_false (ha.eval hc) (h a ha)
theorem tcs {c : Operand} {x y : Code} {b : Bool} (hc : evo env c = some (.bool b)) (h1 : b = true → T P fn R (.code x :: k) env w) (h2 : b = false → T P fn R (.code y :: k) env w) : T P fn R (.code (.cond c x y) :: k) env w := by
  cases b
  · exact tcf hc (h2 rfl)
  · exact tct hc (h1 rfl)

def exitK (id : Nat) : List It → Option (List It)
  | [] => none
  | .blk i :: k => match Nat.beq i id with
    | true => some k
    | false => exitK id k
  | _ :: k => exitK id k

theorem sem_exit {N : Nat} {Q : Exit → Act → World → Prop} {id : Nat} {a : Act} {w : World} : ∀ {k k' : List It}, exitK id k = some k' → sem P N Q k' .normal a w → sem P N Q k (.exit id) a w
  | [], _, h, _ => by cases h
  | .blk i :: k, k', h, hs => by
    simp only [exitK] at h
    show Exit.inBlock i (sem P N Q k) (.exit id) a w
    simp only [Exit.inBlock]
    split at h
    · rename_i hb
      have := Nat.eq_of_beq_eq_true hb
      rw [if_pos this.symm]; injection h with h; subst h; exact hs
    · rename_i hb
      rw [if_neg (fun e => by rw [e, Nat.beq_refl] at hb; cases hb)]
      exact sem_exit h hs
  | .code c :: k, k', h, hs => sem_exit (k := k) h hs
  | .fin J :: k, k', h, hs => sem_exit (k := k) h hs
  | .scp J :: k, k', h, hs => sem_exit (k := k) h hs

theorem texit {id : Nat} {k' : List It} (he : exitK id k = some k') (h : T P fn R k' env w) : T P fn R (.code (.exit id) :: k) env w := fun a ha => wp_exit (sem_exit he (h a ha))

def gotoK : List It → Option (Nat → Env → World → Prop)
  | [] => none
  | .scp J :: _ => some J
  | _ :: k => gotoK k

theorem sem_goto {N : Nat} {Q : Exit → Act → World → Prop} {l : Nat} {J : Nat → Env → World → Prop} {a : Act} {env : Env} {w : World} (ha : Fits N env a) (hJ : J l env w) : ∀ {k : List It}, gotoK k = some J → sem P N Q k (.goto l) a w
  | [], h => by cases h
  | .scp J' :: k, h => by injection h with h; subst h; exact ⟨env, ha, hJ⟩
  | .code c :: k, h => sem_goto ha hJ (k := k) h
  | .blk i :: k, h => sem_goto ha hJ (k := k) h
  | .fin J' :: k, h => sem_goto ha hJ (k := k) h

theorem tgoto {l : Nat} {J : Nat → Env → World → Prop} (hk : gotoK k = some J) (h : J l env w) : T P fn R (.code (.goto l) :: k) env w := fun _ ha => wp_goto (sem_goto ha h hk)

theorem sem_ret {N : Nat} {Q : Exit → Act → World → Prop} {a : Act} {w : World} (h : Q .ret a w) : ∀ k : List It, sem P N Q k .ret a w
  | [] => h
  | .code _ :: k => sem_ret h k
  | .blk _ :: k => sem_ret h k
  | .fin _ :: k => sem_ret h k
  | .scp _ :: k => sem_ret h k

theorem tret1 {t : Tmp} {v : Value} (hr : fn.results = #[.tmp t]) (hv : look env t = some v) (h : R v w) : T P fn R (.code .ret :: k) env w := fun a ha =>
  wp_ret (sem_ret (show bodyPost P fn (Ret R) .ret a w from ⟨ha.1, v, by rw [results_tmp hr, Array.getD_eq_getD_getElem?, ha.2.2 t v hv]; rfl, v, rfl, h⟩) k)
theorem tret2 {t u : Tmp} {v v' : Value} (hr : fn.results = #[.tmp t, .tmp u]) (hv : look env t = some v) (hv' : look env u = some v') (h : R (.tuple #[v, v']) w) : T P fn R (.code .ret :: k) env w := fun a ha =>
  wp_ret (sem_ret (show bodyPost P fn (Ret R) .ret a w from ⟨ha.1, _, by rw [results_tmp2 hr, Array.getD_eq_getD_getElem?, Array.getD_eq_getD_getElem?, ha.2.2 t v hv, ha.2.2 u v' hv']; rfl, _, rfl, h⟩) k)
theorem results3 {t u s : Tmp} (h : fn.results = #[.tmp t, .tmp u, .tmp s]) (tmps : Array Value) (P : Program) (w : World) :
    (results fn tmps).run P w = .ok (.tuple #[tmps.getD t undef, tmps.getD u undef, tmps.getD s undef]) w := by simp [results, h]
theorem tret3 {t u s : Tmp} {v v' v'' : Value} (hr : fn.results = #[.tmp t, .tmp u, .tmp s]) (hv : look env t = some v) (hv' : look env u = some v') (hv'' : look env s = some v'') (h : R (.tuple #[v, v', v'']) w) : T P fn R (.code .ret :: k) env w := fun a ha =>
  wp_ret (sem_ret (show bodyPost P fn (Ret R) .ret a w from ⟨ha.1, _, by rw [results3 hr, Array.getD_eq_getD_getElem?, Array.getD_eq_getD_getElem?, Array.getD_eq_getD_getElem?, ha.2.2 t v hv, ha.2.2 u v' hv', ha.2.2 s v'' hv'']; rfl, _, rfl, h⟩) k)
theorem tret0 (hr : fn.results = #[]) (h : R (.tuple #[]) w) : T P fn R (.code .ret :: k) env w := fun a ha =>
  wp_ret (sem_ret (show bodyPost P fn (Ret R) .ret a w from ⟨ha.1, _, results_none hr _ _ _, _, rfl, h⟩) k)
theorem tend0 (hr : fn.results = #[]) (h : R (.tuple #[]) w) : T P fn R [] env w := fun a ha =>
  show bodyPost P fn (Ret R) .normal a w from ⟨ha.1, _, results_none hr _ _ _, _, rfl, h⟩

/-- All that the first list says the second says, too. -/
def Sub (e env : Env) : Prop := ∀ t v, look e t = some v → look env t = some v

def SubL : Env → Env → Prop
  | [], _ => True
  | [(t, v)], env => look env t = some v
  | (t, v) :: r, env => look env t = some v ∧ SubL r env

theorem sub : ∀ {e env : Env}, SubL e env → Sub e env
  | [], _, _ => fun t v h => by cases h
  | [(t', v')], env, hs => fun t v h => by
    rw [look_cons] at h
    split at h
    · rename_i e; subst e; injection h with h; subst h; exact hs
    · cases h
  | (t', v') :: x :: r, env, hs => fun t v h => by
    rw [look_cons] at h
    split at h
    · rename_i e; subst e; injection h with h; subst h; exact hs.1
    · exact sub hs.2 t v h

theorem Fits.sub {N : Nat} {e env : Env} {a : Act} (h : Fits N env a) (hs : Sub e env) : Fits N e a := ⟨h.1, h.2.1, fun t v hl => h.2.2 t v (hs t v hl)⟩
theorem tweak {e : Env} (h : T P fn R k e w) (hs : Sub e env) : T P fn R k env w := fun a ha => h a (ha.sub hs)

/-- Regions. -/
def dstOK (N : Nat) (full : Array Oper) : Bool := Region.noSelect full && full.all fun o => match o.dst with
  | some d => decide (d < N)
  | none => true

theorem dstOK_spec {N : Nat} {full : Array Oper} (h : dstOK N full = true) : Region.noSelect full = true ∧ ∀ (i : Nat) (o : Oper), full[i]? = some o → ∀ t, o.dst = some t → t < N := by
  unfold dstOK at h
  rw [Bool.and_eq_true] at h
  refine ⟨h.1, fun i o ho t ht => ?_⟩
  have := Array.all_eq_true_iff_forall_mem.1 h.2 o (Array.mem_of_getElem? ho)
  rw [ht] at this
  simpa using this

/-- Nothing is held. -/
def noH : World → Prop := fun _ => True

theorem treg' (isI isS : TypeId → Bool) {id : Nat} {full : Array Oper} (hd : dstOK fn.ntmps full = true) (h : xs P isI isS [] noH full (T P fn R k) full.toList env w) : T P fn R (.code (.region id full false) :: k) env w := fun a ha => by
  obtain ⟨hs, hd⟩ := dstOK_spec hd
  refine wp_region_ss' (isI := isI) (isS := isS) (hs := []) (H := noH) trivial (K := fun a' w' => ∃ env', Fits fn.ntmps env' a' ∧ T P fn R k env' w') (fun a' w' ⟨env', hf, ht⟩ => ht a' hf) ?_
  have := ss_of_xs (N := fn.ntmps) hs hd full.toList 0 env a w (by simp) trivial ha h
  simpa [List.range_eq_range'] using this

theorem tdraw' (isI isS : TypeId → Bool) (hs : List Nat) (H : World → Prop) {id : Nat} {full : Array Oper} (hm : P.follows .mixedOrders = true) (hd : dstOK fn.ntmps full = true) (hq : seqOK isI isS hs full (Region.before full) = true) (hw : H w.drew)
    (h : xs P isI isS hs H full (T P fn R k) full.toList env w.drew) :
    T P fn R (.code (.region id full true) :: k) env w := fun a ha => by
  obtain ⟨hs', hd⟩ := dstOK_spec hd
  refine wp_region_ss (isI := isI) (isS := isS) (hs := hs) (H := H) hm hw hq (K := fun a' w' => ∃ env', Fits fn.ntmps env' a' ∧ T P fn R k env' w') (fun a' w' ⟨env', hf, ht⟩ => ht a' hf) ?_
  have := ss_of_xs (N := fn.ntmps) hs' hd full.toList 0 env a w.drew (by simp) hw ha h
  simpa [List.range_eq_range'] using this

/-- A loop: E x: the slots at its head, I x: what holds of the world, μ x: how much is still to come. -/
def Again {α : Type} (E : α → Env) (I : α → World → Prop) (μ : α → Nat) (n : Nat) : Env → World → Prop := fun env w => ∃ y, Sub (E y) env ∧ I y w ∧ μ y < n

theorem tloop {α : Type} (E : α → Env) (I : α → World → Prop) (μ : α → Nat) {c : Code} (x0 : α) (h0 : Sub (E x0) env) (hI : I x0 w)
    (round : ∀ x w, I x w → T P fn R (.code c :: .fin (Again E I μ (μ x)) :: k) (E x) w) : T P fn R (.code (.loop c) :: k) env w := fun a ha => by
  refine wp_loop_ghost (fun n a w => ∃ x, μ x = n ∧ Fits fn.ntmps (E x) a ∧ I x w) (μ x0) ⟨x0, rfl, ha.sub h0, hI⟩ ?_
  rintro n a w ⟨x, rfl, hf, hI⟩
  refine wp_mono (round x w hI a hf) ?_
  intro e a' w' hq
  cases e with
  | normal => obtain ⟨env', hf', y, hs, hy, hlt⟩ := hq; exact ⟨μ y, hlt, y, rfl, hf'.sub hs, hy⟩
  | exit id => exact hq
  | goto l => exact hq
  | ret => exact hq
  | panic ch => exact hq
  | outgrown => exact hq

/-- What stands behind a label. -/
def unroll : Code → List It
  | .seq x y => unroll x ++ [.code y]
  | .skip => []
  | c => [.code c]

def after (c : Code) (l : Nat) : Option (List It) := match findLabel c l with
  | some r => some (unroll r)
  | none => none

theorem sem_unroll {N : Nat} {Q : Exit → Act → World → Prop} {a : Act} {w : World} : ∀ (c : Code) (k : List It), sem P N Q (unroll c ++ k) .normal a w → c.wp P (sem P N Q k) a w
  | .seq x y, k, h => by
    refine wp_seq ?_
    rw [unroll, List.append_assoc] at h
    exact sem_unroll x (.code y :: k) h
  | .skip, k, h => wp_skip h
  | .region .., k, h => h
  | .cond .., k, h => h
  | .block .., k, h => h
  | .loop .., k, h => h
  | .rangeFunc .., k, h => h
  | .exit .., k, h => h
  | .scope .., k, h => h
  | .label .., k, h => h
  | .goto .., k, h => h
  | .ret, k, h => h
  | .refuse .., k, h => h

theorem wp_scope_labels {c : Code} {Q : Exit → Act → World → Prop} {a : Act} {w : World} (J : Nat → Nat → Act → World → Prop) (hJ : ∀ l n a w, J l n a w → ∃ rest, findLabel c l = some rest)
    (first : c.wp P (fun e a w => match e with
      | .goto l => ∃ n, J l n a w
      | e => Q e a w) a w)
    (pass : ∀ n l rest a w, findLabel c l = some rest → J l n a w → rest.wp P (fun e a w => match e with
      | .goto l => ∃ m, m < n ∧ J l m a w
      | e => Q e a w) a w) : (Code.scope c).wp P Q a w := by
  intro b k cs
  have hg : ∀ l rest, findLabel c l = some rest → gotoIn l (.inScope c :: k) = some (.code rest :: .inScope c :: k) := fun l rest hf => by simp [gotoIn, hf]
  have key : ∀ n l rest a w, findLabel c l = some rest → J l n a w → ∃ e a' w', Q e a' w' ∧ Arrives P (lone (b.at a (.code rest :: .inScope c :: k)) cs w) b k cs e a' w' := by
    intro n
    induction n using Nat.strongRecOn with
    | _ n ih =>
      intro l rest a w hf hJn
      obtain ⟨e, a₁, w₁, hq, harr⟩ := pass n l rest a w hf hJn b (.inScope c :: k) cs
      cases e with
      | normal => exact ⟨.normal, a₁, w₁, hq, Steps.trans harr (.one step_inScope)⟩
      | exit id => exact ⟨.exit id, a₁, w₁, hq, fun k' hk => harr k' (by simp [exitTo, hk])⟩
      | goto l' =>
        obtain ⟨m, hm, hJ'⟩ := hq
        obtain ⟨rest', hf'⟩ := hJ _ _ _ _ hJ'
        obtain ⟨e₂, a₂, w₂, hq₂, harr₂⟩ := ih m hm l' rest' a₁ w₁ hf' hJ'
        exact ⟨e₂, a₂, w₂, hq₂, .of_steps (harr _ (hg l' rest' hf')) harr₂⟩
      | ret => exact ⟨_, a₁, w₁, hq, harr⟩
      | panic ch => exact ⟨_, a₁, w₁, hq, harr⟩
      | outgrown => exact ⟨_, a₁, w₁, hq, harr⟩
  obtain ⟨e, a₁, w₁, hq, harr⟩ := first b (.inScope c :: k) cs
  cases e with
  | normal => exact ⟨.normal, a₁, w₁, hq, .head step_scope (Steps.trans harr (.one step_inScope))⟩
  | exit id => exact ⟨.exit id, a₁, w₁, hq, fun k' hk => .head step_scope (harr k' (by simp [exitTo, hk]))⟩
  | goto l' =>
    obtain ⟨n, hJ'⟩ := hq
    obtain ⟨rest', hf'⟩ := hJ _ _ _ _ hJ'
    obtain ⟨e₂, a₂, w₂, hq₂, harr₂⟩ := key n l' rest' a₁ w₁ hf' hJ'
    exact ⟨e₂, a₂, w₂, hq₂, .of_steps (.head step_scope (harr _ (hg l' rest' hf'))) harr₂⟩
  | ret => exact ⟨_, a₁, w₁, hq, .of_steps (.one step_scope) harr⟩
  | panic ch => exact ⟨_, a₁, w₁, hq, .of_steps (.one step_scope) harr⟩
  | outgrown => exact ⟨_, a₁, w₁, hq, .of_steps (.one step_scope) harr⟩

theorem sem_mono_scp {N : Nat} {Q : Exit → Act → World → Prop} {J J' : Nat → Env → World → Prop} (hJ : ∀ l env w, J l env w → J' l env w) : ∀ (k1 k : List It) (e : Exit) (a : Act) (w : World), sem P N Q (k1 ++ .scp J :: k) e a w → sem P N Q (k1 ++ .scp J' :: k) e a w
  | [], k, e, a, w, h => by
    cases e with
    | goto l => obtain ⟨env, hf, hj⟩ := h; exact ⟨env, hf, hJ _ _ _ hj⟩
    | normal => exact h
    | exit id => exact h
    | ret => exact h
    | panic ch => exact h
    | outgrown => exact h
  | .code c :: k1, k, e, a, w, h => by
    have ih := sem_mono_scp (N := N) (Q := Q) hJ k1 k
    cases e with
    | normal => exact wp_mono (c := c) h ih
    | goto l => exact ih _ a w h
    | exit id => exact ih _ a w h
    | ret => exact ih _ a w h
    | panic ch => exact ih _ a w h
    | outgrown => exact ih _ a w h
  | .blk i :: k1, k, e, a, w, h => by
    have ih := sem_mono_scp (N := N) (Q := Q) hJ k1 k
    cases e with
    | exit id =>
      have h' : Exit.inBlock i (sem P N Q (k1 ++ .scp J :: k)) (.exit id) a w := h
      show Exit.inBlock i (sem P N Q (k1 ++ .scp J' :: k)) (.exit id) a w
      simp only [Exit.inBlock] at h' ⊢
      split
      · rename_i he; rw [if_pos he] at h'; exact ih _ _ _ h'
      · rename_i he; rw [if_neg he] at h'; exact ih _ _ _ h'
    | normal => exact ih _ a w h
    | goto l => exact ih _ a w h
    | ret => exact ih _ a w h
    | panic ch => exact ih _ a w h
    | outgrown => exact ih _ a w h
  | .fin J0 :: k1, k, e, a, w, h => by
    have ih := sem_mono_scp (N := N) (Q := Q) hJ k1 k
    cases e with
    | normal => exact h
    | exit id => exact ih _ a w h
    | goto l => exact ih _ a w h
    | ret => exact ih _ a w h
    | panic ch => exact ih _ a w h
    | outgrown => exact ih _ a w h
  | .scp J0 :: k1, k, e, a, w, h => by
    have ih := sem_mono_scp (N := N) (Q := Q) hJ k1 k
    cases e with
    | goto l => exact h
    | normal => exact ih _ a w h
    | exit id => exact ih _ a w h
    | ret => exact ih _ a w h
    | panic ch => exact ih _ a w h
    | outgrown => exact ih _ a w h

def Less (L : Nat → Nat → Env → World → Prop) (n : Nat) : Nat → Env → World → Prop := fun l env w => ∃ m, m < n ∧ L l m env w
def Some (L : Nat → Nat → Env → World → Prop) : Nat → Env → World → Prop := fun l env w => ∃ m, L l m env w

/-- A scope with labels: L l n: what holds at label l, where n bounds what is still to come. -/
theorem tscope {c : Code} (L : Nat → Nat → Env → World → Prop) (hL : ∀ l n env w, L l n env w → ∃ ys, after c l = some ys)
    (seg : ∀ n l ys env w, after c l = some ys → L l n env w →
      (∀ l' ys' env' w', after c l' = some ys' → Less L n l' env' w' → T P fn R (ys' ++ .scp (Less L n) :: k) env' w') → T P fn R (ys ++ .scp (Less L n) :: k) env w)
    (first : (∀ l ys env w, after c l = some ys → Some L l env w → T P fn R (ys ++ .scp (Some L) :: k) env w) → T P fn R (.code c :: .scp (Some L) :: k) env w) :
    T P fn R (.code (.scope c) :: k) env w := by
  have key : ∀ n l ys env w, after c l = some ys → L l n env w → T P fn R (ys ++ .scp (Less L n) :: k) env w := by
    intro n
    induction n using Nat.strongRecOn with
    | _ n ih =>
      intro l ys env w ha hl
      refine seg n l ys env w ha hl ?_
      rintro l' ys' env' w' ha' ⟨m, hm, hl'⟩ a hf
      exact sem_mono_scp (fun l'' env'' w'' ⟨m', hm', h''⟩ => ⟨m', by omega, h''⟩) ys' k _ a w' (ih m hm l' ys' env' w' ha' hl' a hf)
  have hfirst := first (fun l ys env w ha ⟨m, hl⟩ a hf => sem_mono_scp (fun l'' env'' w'' ⟨m', _, h''⟩ => ⟨m', h''⟩) ys k _ a w (key m l ys env w ha hl a hf))
  intro a ha
  refine wp_scope_labels (fun l n a w => ∃ env, Fits fn.ntmps env a ∧ L l n env w) ?_ ?_ ?_
  · rintro l n a w ⟨env, _, hl⟩
    obtain ⟨ys, hys⟩ := hL l n env w hl
    unfold after at hys
    split at hys
    · rename_i r hr; exact ⟨r, hr⟩
    · cases hys
  · refine wp_mono (hfirst a ha) ?_
    intro e a' w' hq
    cases e with
    | goto l => obtain ⟨env', hf, m, hl⟩ := hq; exact ⟨m, env', hf, hl⟩
    | normal => exact hq
    | exit id => exact hq
    | ret => exact hq
    | panic ch => exact hq
    | outgrown => exact hq
  · rintro n l rest a w hf ⟨env, hfit, hl⟩
    have ha' : after c l = some (unroll rest) := by unfold after; rw [hf]
    refine wp_mono (sem_unroll rest (.scp (Less L n) :: k) (key n l _ env w ha' hl a hfit)) ?_
    intro e a' w' hq
    cases e with
    | goto l => obtain ⟨env', hf, m, hm, hl⟩ := hq; exact ⟨m, hm, env', hf, hl⟩
    | normal => exact hq
    | exit id => exact hq
    | ret => exact hq
    | panic ch => exact hq
    | outgrown => exact hq

/-- One label alone. -/
def At {α : Type} (l0 : Nat) (E : α → Env) (I : α → World → Prop) (μ : α → Nat) : Nat → Nat → Env → World → Prop := fun l n env w => l = l0 ∧ ∃ x, Sub (E x) env ∧ I x w ∧ μ x = n

theorem tscope1 {α : Type} {c : Code} {ys : List It} (l0 : Nat) (hf : after c l0 = some ys) (E : α → Env) (I : α → World → Prop) (μ : α → Nat)
    (seg : ∀ x w, I x w → T P fn R (ys ++ .scp (Less (At l0 E I μ) (μ x)) :: k) (E x) w)
    (first : (∀ x w, I x w → T P fn R (ys ++ .scp (Some (At l0 E I μ)) :: k) (E x) w) → T P fn R (.code c :: .scp (Some (At l0 E I μ)) :: k) env w) :
    T P fn R (.code (.scope c) :: k) env w := by
  refine tscope (At l0 E I μ) (fun l n env w ⟨he, _⟩ => ⟨ys, he ▸ hf⟩) ?_ ?_
  · rintro n l ys' env w ha ⟨rfl, x, hs, hI, rfl⟩ _
    rw [hf] at ha; injection ha with ha; subst ha
    exact tweak (seg x w hI) hs
  · intro h
    refine first fun x w hI => ?_
    exact h l0 ys (E x) w hf ⟨μ x, rfl, x, fun _ _ h => h, hI, rfl⟩

/-- Entering a function. -/
theorem fits_args {args : Array Value} {N : Nat} (hn : args.size ≤ N) {e : Env} (he : ∀ t v, look e t = some v → args[t]? = some v) : Fits N e { tmps := args ++ Array.replicate (N - args.size) undef, defers := [] } :=
  ⟨rfl, by simp; omega, fun t v hl => by
    have := he t v hl
    have hlt : t < args.size := (Array.getElem?_eq_some_iff.1 this).1
    rw [Array.getElem?_append_left hlt]; exact this⟩

def argEnv : Nat → List Value → Env
  | _, [] => []
  | n, v :: r => (n, v) :: argEnv (n + 1) r

theorem look_argEnv : ∀ (l : List Value) (n t : Nat) (v : Value), look (argEnv n l) t = some v → n ≤ t ∧ l[t - n]? = some v
  | [], n, t, v, h => by cases h
  | u :: r, n, t, v, h => by
    rw [argEnv, look_cons] at h
    split at h
    · rename_i e; subst e; injection h with h; subst h; simp
    · rename_i e
      have := look_argEnv r (n + 1) t v h
      refine ⟨by omega, ?_⟩
      have e2 : t - n = (t - (n + 1)) + 1 := by omega
      rw [e2]; simpa using this.2

theorem does_of {f : FuncId} {c : Code} {l : List Value} {w : World} (hf : P.funcs[f]? = some fn) (hb : fn.body = some c) (hn : (decide (l.length ≤ fn.ntmps)) = true) (h : T P fn R [.code c] (argEnv 0 l) w) : Does P f l.toArray w R :=
  calls_of_wp hf hb (h _ (fits_args (by simpa using hn) fun t v hl => by simpa using (look_argEnv l 0 t v hl).2))

theorem does0 {f : FuncId} {c : Code} {w : World} (hf : P.funcs[f]? = some fn) (hb : fn.body = some c) (h : T P fn R [.code c] [] w) : Does P f #[] w R := does_of (l := []) hf hb (by simp) h
theorem does1 {f : FuncId} {c : Code} {v0 : Value} {w : World} (hf : P.funcs[f]? = some fn) (hb : fn.body = some c) (hn : decide (1 ≤ fn.ntmps) = true) (h : T P fn R [.code c] [(0, v0)] w) : Does P f #[v0] w R := does_of (l := [v0]) hf hb hn h
theorem does2 {f : FuncId} {c : Code} {v0 v1 : Value} {w : World} (hf : P.funcs[f]? = some fn) (hb : fn.body = some c) (hn : decide (2 ≤ fn.ntmps) = true) (h : T P fn R [.code c] [(0, v0), (1, v1)] w) : Does P f #[v0, v1] w R := does_of (l := [v0, v1]) hf hb hn h
theorem does3 {f : FuncId} {c : Code} {v0 v1 v2 : Value} {w : World} (hf : P.funcs[f]? = some fn) (hb : fn.body = some c) (hn : decide (3 ≤ fn.ntmps) = true) (h : T P fn R [.code c] [(0, v0), (1, v1), (2, v2)] w) : Does P f #[v0, v1, v2] w R := does_of (l := [v0, v1, v2]) hf hb hn h
theorem does4 {f : FuncId} {c : Code} {v0 v1 v2 v3 : Value} {w : World} (hf : P.funcs[f]? = some fn) (hb : fn.body = some c) (hn : decide (4 ≤ fn.ntmps) = true) (h : T P fn R [.code c] [(0, v0), (1, v1), (2, v2), (3, v3)] w) : Does P f #[v0, v1, v2, v3] w R := does_of (l := [v0, v1, v2, v3]) hf hb hn h
theorem does5 {f : FuncId} {c : Code} {v0 v1 v2 v3 v4 : Value} {w : World} (hf : P.funcs[f]? = some fn) (hb : fn.body = some c) (hn : decide (5 ≤ fn.ntmps) = true) (h : T P fn R [.code c] [(0, v0), (1, v1), (2, v2), (3, v3), (4, v4)] w) : Does P f #[v0, v1, v2, v3, v4] w R := does_of (l := [v0, v1, v2, v3, v4]) hf hb hn h

end Eng
end Go.Proofs.Ytighkjohpmlemaa
