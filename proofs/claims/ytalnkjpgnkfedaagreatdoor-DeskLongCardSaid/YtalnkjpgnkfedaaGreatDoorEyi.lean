/-
  Functions and calls.
-/
import Derived.Test.YtalnkjpgnkfedaaGreatDoorEyh
namespace Go.Proofs.YtalnkjpgnkfedaaGreatDoor
open Go.RowKit
namespace Eng
namespace Rn
theorem look_arg : ∀ (l : List Value) (n t : Nat) (v : Value), n ≤ t → l[t - n]? = some v → look (argEnv n l) t = some v
  | [], n, t, v, _, h => by cases h
  | x :: l, n, t, v, hn, h => by
    show look ((n, x) :: argEnv (n + 1) l) t = some v
    rw [look_cons]
    by_cases ht : n = t
    · subst ht
      rw [if_pos rfl]
      rw [Nat.sub_self] at h
      exact h
    · rw [if_neg ht]
      refine look_arg l (n + 1) t v (by omega) ?_
      rw [show t - n = t - (n + 1) + 1 by omega] at h
      exact h
theorem ARs.get {ρ : Pl} {l : List AV} {vs : List Value} (h : ARs ρ l vs) : ∀ (i : Nat) x, l[i]? = some x → ∃ v, vs[i]? = some v ∧ AR ρ x v := by
  induction h with
  | nil => intro i x hx; cases hx
  | cons h1 _ ih =>
    intro i x hx
    cases i with
    | zero => injection hx with hx; subst hx; exact ⟨_, rfl, h1⟩
    | succ i => exact ih i x hx
theorem ARs.len {ρ : Pl} {l : List AV} {vs : List Value} (h : ARs ρ l vs) : vs.length = l.length := by
  induction h with
  | nil => rfl
  | cons _ _ ih => simp [ih]
/-- The arguments' slots. -/
noncomputable def paL (m : Nat) (l : List AV) (k : Nat) (c : AEnv → Rs) : Rs := List.rec (motive := fun _ => Nat → (AEnv → Rs) → Rs) (fun _ c => c []) (fun x _ ih k c => fN (Nat.add k 1) fun k' => ih k' fun r => ifK (kept m k) (c ((k, x) :: r)) (c r)) l k c
theorem paL_inv {m : Nat} {res : Rs} : ∀ {l : List AV} {k : Nat} {c : AEnv → Rs}, paL m l k c = res → ∃ env, c env = res ∧ ∀ t a, alook t env = some a → k ≤ t ∧ l[t - k]? = some a
  | [], k, c, h => ⟨[], h, fun t a ha => by cases ha⟩
  | x :: l, k, c, h => by
    have h' : fN (Nat.add k 1) (fun k' => paL m l k' fun r => ifK (kept m k) (c ((k, x) :: r)) (c r)) = res := h
    rw [fN_eq] at h'
    obtain ⟨env, h1, h2⟩ := paL_inv h'
    rw [ifK_eq] at h1
    have hold : ∀ t a, alook t env = some a → k ≤ t ∧ (x :: l)[t - k]? = some a := fun t a ha => by
      obtain ⟨g1, g2⟩ := h2 t a ha
      have g1 : k + 1 ≤ t := g1
      have g2 : l[t - (k + 1)]? = some a := g2
      refine ⟨by omega, ?_⟩
      rw [show t - k = t - (k + 1) + 1 by omega]
      exact g2
    split at h1
    · refine ⟨_, h1, fun t a ha => ?_⟩
      simp only [alook] at ha
      split at ha
      · rename_i hkt
        subst hkt
        obtain rfl := Option.some.inj ha
        exact ⟨Nat.le_refl _, by simp⟩
      · exact hold t a ha
    · exact ⟨env, h1, hold⟩
theorem ld_one {t : TypeId} {p : Addr} {v : Value} {w : World} (ht : one t = true) (hc : w.cell? p = some v) : (loadVar t p).run Tryz.prog w = .ok v w := by
  simp [loadVar, isAgg_one ht, load, Sem.run, hc]
section
variable {w0 : Fm} {m : Nat} {ih : Cl} {e : En} {σ : Mem} {res : Rs} {ρ : Pl} {env : Env} {w : World} (hr : res ≠ .no)
include hr
theorem reW_inv {N : Nat} {a : Act} (hE : ER m ρ e env) (hM : MR w0 ρ σ w) (hf : Fits N env a) {r : ResultVar} {k : AV → Rs} (h : (reW m r).f e σ k = res) : ∃ x v, AR ρ x v ∧ k x = res ∧ ((match r with
    | .tmp t => pure (a.tmps.getD t undef)
    | .cell p t => do loadVar t (← asAddr (a.tmps.getD p undef)) : Sem Value)).run Tryz.prog w = .ok v w := by
  cases r with
  | tmp t =>
    obtain ⟨x, h1, h2⟩ := gtT_inv hr (show (gtT m t).f e k = res from h)
    obtain ⟨v, h3, h4⟩ := hE t x h1
    refine ⟨x, v, h4, h2, ?_⟩
    have := hf.2.2 t v h3
    simp [Array.getD_eq_getD_getElem?, this]
  | cell p t =>
    have hp : ∀ id o, ∀ pv, look env p = some pv → SR ρ (.p id o) pv → ∃ q, ρ[id]? = some q ∧ (asAddr (a.tmps.getD p undef)).run Tryz.prog w = .ok ⟨q.b, o, none⟩ w := fun id o pv h1 h2 => by
      obtain ⟨q, h3, rfl⟩ := h2
      refine ⟨q, h3, ?_⟩
      have := hf.2.2 p _ h1
      simp [Array.getD_eq_getD_getElem?, this, asAddr]
    unfold reW at h
    simp only at h
    split at h
    · rename_i ho
      obtain ⟨x, h1, h2⟩ := gtT_inv hr h
      obtain ⟨pv, h3, h4⟩ := hE p x h1
      obtain ⟨id, o, e0, h5⟩ := onP_inv hr h2
      obtain ⟨ob, h6, h7⟩ := obK_inv hr h5
      obtain ⟨y, h8, h9⟩ := getK_inv hr h7
      subst e0
      obtain ⟨q, h10, h11⟩ := hp id o pv h3 h4
      obtain ⟨v, h12, h13, _⟩ := hM.cell (cget_iff.2 ⟨ob, h6, h8⟩) h10
      refine ⟨.v y, v, h13.2, h9, ?_⟩
      show ((asAddr (a.tmps.getD p undef)) >>= fun q => loadVar t q).run Tryz.prog w = _
      rw [Sem.run_bind, h11, Result.andThen_ok]
      exact ld_one ho h12
    · split at h
      · rename_i n hn
        rw [cN_eq] at h
        obtain ⟨x, h1, h2⟩ := gtT_inv hr h
        obtain ⟨pv, h3, h4⟩ := hE p x h1
        obtain ⟨id, o, e0, h5⟩ := onP_inv hr h2
        obtain ⟨ob, l, h6, h7, h8, h9⟩ := rdK_inv hr h5
        subst e0
        obtain ⟨q, h10, h11⟩ := hp id o pv h3 h4
        obtain ⟨vs, h12, h13⟩ := hM.cells h10 (l := l) (o := o) (fun i hi => h8 i (by omega))
        refine ⟨.g l, .agg vs.toArray, ⟨vs, h12, rfl⟩, h9, ?_⟩
        have := ld_agg (w := w) (t := t) (b := q.b) (o := o) (cs := vs) (by rw [h12.len, h7]; exact hn) (fun j u hu => (h13 j u hu).1)
        show ((asAddr (a.tmps.getD p undef)) >>= fun q => loadVar t q).run Tryz.prog w = _
        rw [Sem.run_bind, h11, Result.andThen_ok]
        exact this
      · exact absurd h.symm hr
/-- What the model does with a result. -/
def resF (tmps : Array Value) : ResultVar → Sem Value := fun
  | .tmp t => pure (tmps.getD t undef)
  | .cell p t => do loadVar t (← asAddr (tmps.getD p undef))
theorem resW_inv {N : Nat} {a : Act} (hE : ER m ρ e env) (hM : MR w0 ρ σ w) (hf : Fits N env a) : ∀ {l : List ResultVar} {k : List AV → Rs}, (resW m l).f e σ k = res → ∃ al vs, ARs ρ al vs ∧ k al = res ∧ (l.mapM (resF a.tmps)).run Tryz.prog w = .ok vs w
  | [], k, h => ⟨[], [], .nil, h, by simp⟩
  | r :: l, k, h => by
    obtain ⟨x, v, h1, h2, h3⟩ := reW_inv hr hE hM hf (show (reW m r).f e σ (fun v => (resW m l).f e σ fun l => k (v :: l)) = res from h)
    obtain ⟨al, vs, h4, h5, h6⟩ := resW_inv hE hM hf h2
    refine ⟨x :: al, v :: vs, .cons h1 h4, h5, ?_⟩
    have h3' : (resF a.tmps r).run Tryz.prog w = .ok v w := by
      cases r <;> exact h3
    simp [List.mapM_cons, h3', h6]
theorem tuK_inv : ∀ {l : List AV} {vs : List Value} {k : List TV → Rs}, tuK l k = res → ARs ρ l vs → ∃ tl, TRs ρ tl vs ∧ k tl = res
  | [], vs, k, h, ha => by
    cases ha
    exact ⟨[], .nil, h⟩
  | x :: l, vs, k, h, ha => by
    cases ha with
    | cons h1 h2 =>
      rcases onV_inv hr (show onV x (fun x => tuK l fun l => k (.v x :: l)) (fun g => tuK l fun l => k (.g g :: l)) = res from h) with ⟨y, rfl, h3⟩ | ⟨g, rfl, h3⟩
      · obtain ⟨tl, h4, h5⟩ := tuK_inv h3 h2
        exact ⟨.v y :: tl, .cons h1 h4, h5⟩
      · obtain ⟨tl, h4, h5⟩ := tuK_inv h3 h2
        exact ⟨.g g :: tl, .cons h1 h4, h5⟩
theorem toK_inv {l : List AV} {vs : List Value} (h : toK e σ l = res) (ha : ARs ρ l vs) : ∃ v, res = .mk (.val v) e σ ∧ AR ρ v (if h : vs.toArray.size = 1 then vs.toArray[0] else .tuple vs.toArray) := by
  cases ha with
  | nil => exact ⟨.t [], h.symm, [], .nil, rfl⟩
  | cons h1 h2 =>
    rename_i x v l vs
    cases h2 with
    | nil => exact ⟨x, h.symm, h1⟩
    | cons h3 h4 =>
      rename_i y v' l vs
      obtain ⟨tl, h5, h6⟩ := tuK_inv hr (show tuK (x :: y :: l) (fun l => .mk (.val (.t l)) e σ) = res from h) (.cons h1 (.cons h3 h4))
      exact ⟨.t tl, h6.symm, _, h5, by simp⟩
theorem reK_inv {ws : Wrs} {r : Rs} (h : reK ws r = res) : ∃ x e σ, r = .mk x e σ ∧ (x = .nrm ∨ x = .ret) ∧ ws.f e σ (fun l => toK e σ l) = res := by
  cases r with
  | no => exact absurd h.symm hr
  | mk x e σ =>
    cases x with
    | nrm => exact ⟨_, _, _, rfl, .inl rfl, h⟩
    | ret => exact ⟨_, _, _, rfl, .inr rfl, h⟩
    | _ => exact absurd h.symm hr
end
theorem nthF_mem : ∀ {l : List (Nat × Fe)} {f : Nat} {x : Fe}, nthF l f = some x → (f, x) ∈ l
  | [], f, x, h => by cases h
  | y :: l, f, x, h => by
    have h' : (match Nat.beq y.1 f with
      | true => some y.2
      | false => nthF l f) = some x := h
    split at h'
    · rename_i hb
      obtain rfl := Option.some.inj h'
      have := Nat.eq_of_beq_eq_true hb
      subst this
      exact List.mem_cons_self
    · exact List.mem_cons_of_mem _ (nthF_mem h')
/-- The functions of a table are the program's. -/
def OrcS (f : Nat) (o : List AV → Mem → Rs) : Prop := ∀ (w0 : Fm) al σ v e' σ' (ρ : Pl) vs w, o al σ = .mk (.val v) e' σ' → ARs ρ al vs → MR w0 ρ σ w → Does Tryz.prog f vs.toArray w (fun val w' => ∃ ρ', Up ρ ρ' ∧ AR ρ' v val ∧ MR w0 ρ' σ' w')
def FeOK (f : Nat) : Fe → Prop
  | .code fn _ => Tryz.prog.funcs[f]? = some fn
  | .orc o => OrcS f o
def TabOK (tab : List (Nat × Fe)) : Prop := ∀ x ∈ tab, FeOK x.1 x.2
theorem run_sound {tab : List (Nat × Fe)} (ht : TabOK tab) : ∀ n (w0 : Fm), CallS w0 (run tab n)
  | 0, w0 => fun f al σ v e' σ' ρ vs w h _ _ => by cases h
  | n + 1, w0 => fun f al σ v e' σ' ρ vs w h ha hM => by
    have IH := run_sound ht n
    have hr : (Rs.mk (.val v) e' σ') ≠ .no := fun hh => by cases hh
    have h' : (fnW (nthF tab f)).f (run tab n) al σ = .mk (.val v) e' σ' := h
    unfold fnW at h'
    split at h'
    · rename_i fn m hnth
      have hf : Tryz.prog.funcs[f]? = some fn := ht _ (nthF_mem hnth)
      split at h'
      · rename_i c hc
        obtain ⟨hlen, h1⟩ := okK_inv h' hr
        have hlen := Nat.le_of_ble_eq_true hlen
        have h1' : paL m al 0 (fun l => reK (resW m fn.results.toList) ((codW fn.ntmps m 1000 c).f (run tab n) lF ⟨l, [], [], []⟩ σ)) = .mk (.val v) e' σ' := h1
        obtain ⟨l, h2, h3⟩ := paL_inv h1'
        obtain ⟨x, e1, σ1, h4, h5, h6⟩ := reK_inv hr h2
        have hE : ER m ρ ⟨l, [], [], []⟩ (argEnv 0 vs) := fun t a hta => by
          unfold elk at hta
          cases hk : kept m t with
          | true =>
            rw [hk] at hta
            obtain ⟨_, g2⟩ := h3 t a hta
            obtain ⟨u1, g3, g4⟩ := ha.get _ a g2
            exact ⟨u1, look_arg vs 0 t u1 (Nat.zero_le _) g3, g4⟩
          | false =>
            rw [hk] at hta
            have hta : alook t [] = some a := hta
            cases hta
        have hfit : Fits fn.ntmps (argEnv 0 vs) { tmps := vs.toArray ++ Array.replicate (fn.ntmps - vs.toArray.size) undef, defers := [] } :=
          fits_args (by simpa [ha.len] using hlen) fun t v hl => by simpa using (look_argEnv vs 0 t v hl).2
        refine calls_of_wp hf hc (wp_mono (cod_run (N := fn.ntmps) (m := m) IH 1000 c lF ⟨l, [], [], []⟩ σ _ ρ _ w (by rw [h4]; exact fun hh => by cases hh) rfl ⟨ρ, _, Up.refl ρ, hE, hM, hfit⟩) ?_)
        rintro ex a' w' ⟨x2, e2, σ2, k1, k2, ρ', env', k3, k4, k5, k6⟩
        rw [h4] at k1
        injection k1 with q1 q2 q3
        subst q1; subst q2; subst q3
        obtain ⟨al', vs', r1, r2, r3⟩ := resW_inv hr k4 k5 k6 h6
        obtain ⟨v', r4, r5⟩ := toK_inv hr r2 r1
        injection r4 with q1 q2 q3
        injection q1 with q1
        subst q1; subst q2; subst q3
        have hres : (results fn a'.tmps).run Tryz.prog w' = .ok (if h : vs'.toArray.size = 1 then vs'.toArray[0] else .tuple vs'.toArray) w' := by
          have e1 : results fn a'.tmps = (do
            let vs ← fn.results.mapM (resF a'.tmps)
            pure (if h : vs.size = 1 then vs[0] else .tuple vs)) := rfl
          rw [e1, Array.mapM_eq_mapM_toList]
          simp [r3]
        have fin : a'.defers = [] ∧ ∃ vv, (results fn a'.tmps).run Tryz.prog w' = .ok vv w' ∧ Ret (fun val w' => ∃ ρ', Up ρ ρ' ∧ AR ρ' v val ∧ MR w0 ρ' σ' w') (.returned vv) w' := ⟨k6.1, _, hres, _, rfl, ρ', k3, r5, k5⟩
        rcases h5 with rfl | rfl
        · cases ex with
          | normal => exact fin
          | _ => cases k2
        · cases ex with
          | ret => exact fin
          | _ => cases k2
      · cases h'
    · rename_i o hnth
      have ho : OrcS f o := ht _ (nthF_mem hnth)
      exact ho w0 al σ v e' σ' ρ vs w h' ha hM
    · cases h'
/-- A closed call that comes to true. -/
theorem told_run {tab : List (Nat × Fe)} (ht : TabOK tab) {n f : Nat} (h : ok (run tab n f [] ⟨0, .nil, []⟩) = true) (w : World) (hT : TabI noneB w) : Does Tryz.prog f #[] w (fun v w' => v = .bool true ∧ Ext w w') := by
  generalize hres : run tab n f [] ⟨0, .nil, []⟩ = r at h
  cases r with
  | no => cases h
  | mk x e σ =>
    cases x with
    | val v =>
      cases v with
      | v v =>
        cases v with
        | b q =>
          have h : q = true := h
          subst h
          have hM : MR ⟨noneB, w, hT⟩ [] ⟨0, .nil, []⟩ w := {
            len := rfl
            blk := fun id ob h1 _ => by
              have : oget ⟨0, .nil, []⟩ id = none := tget_nil _ _
              rw [this] at h1; cases h1
            old := Fr.refl _ _
            far := fun id o p _ hp => by cases hp
            pre := fun id ob h1 => by
              have : oget ⟨0, .nil, []⟩ id = none := tget_nil _ _
              rw [this] at h1; cases h1
            apart := fun id id' o o' p p' _ _ _ hp => by cases hp
            mps := Mps.nil _ _ _ }
          have := run_sound ht n ⟨noneB, w, hT⟩ f [] ⟨0, .nil, []⟩ _ e σ [] [] w hres .nil hM
          refine Does.mono this fun v w' hh => ?_
          obtain ⟨ρ', _, h2, h3⟩ := hh
          exact ⟨h2, h3.old⟩
        | _ => cases h
      | _ => cases h
    | _ => cases h
end Rn
end Eng
end Go.Proofs.YtalnkjpgnkfedaaGreatDoor
