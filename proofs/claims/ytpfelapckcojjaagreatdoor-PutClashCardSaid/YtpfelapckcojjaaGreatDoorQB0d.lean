/-
  Parts of the proof: Eyi, Ha, Hd, He, Row.
-/
import Derived.Below
import Derived.Carry
import Derived.ChangeSame
import Derived.ChangeSlices
import Derived.ProofKit
import Derived.Test.YtpfelapckcojjaaGreatDoorRows
import Derived.Test.YtpfelapckcojjaaGreatDoorQB0a
import Derived.Test.YtpfelapckcojjaaGreatDoorQB0c
set_option maxRecDepth 100000
set_option maxHeartbeats 64000000
namespace Go.Proofs.YtpfelapckcojjaaGreatDoor
open Go.RowKit
namespace Eng
namespace Rn
theorem look_arg : ∀ (l : List Value) (n t : Nat) (v : Value), n ≤ t → l[t - n]? = some v → look (argEnv n l) t = some v
 | [], n, t, v, _, h => by cases h
 | x :: l, n, t, v, hn, h => by
  show look ((n, x) :: argEnv (n + 1) l) t = some v
  rw [look_cons]
  by_cases ht : n = t
  ·subst ht
   rw [if_pos rfl]
   rw [Nat.sub_self] at h
   exact h
  ·rw [if_neg ht]
   refine look_arg l (n + 1) t v (by omega) ?_
   rw [show t - n = t - (n + 1) + 1 by omega] at h
   exact h
theorem ARs.get {ρ : Pl} {l : List AV} {vs : List Value} (h : ARs ρ l vs) : ∀ (i : Nat) x, l[i]? = some x → ∃ v, vs[i]? = some v ∧ AR ρ x v := by
 induction h with
 | nil => intro i x hx; cases hx
 | cons h1 _ ih =>
  intro i x hx
  cases i with
  | zero => injection hx with hx; subst hx; exact ⟨_, rfl, h1⟩
  | succ i => exact ih i x hx
theorem ARs.len {ρ : Pl} {l : List AV} {vs : List Value} (h : ARs ρ l vs) : vs.length = l.length := by
 induction h with
 | nil => rfl
 | cons _ _ ih => simp [ih]
noncomputable def paL (m : Nat) (l : List AV) (k : Nat) (c : AEnv → Rs) : Rs := List.rec (motive := fun _ => Nat → (AEnv → Rs) → Rs) (fun _ c => c []) (fun x _ ih k c => fN (Nat.add k 1) fun k' => ih k' fun r => ifK (kept m k) (c ((k, x) :: r)) (c r)) l k c
theorem paL_inv {m : Nat} {res : Rs} : ∀ {l : List AV} {k : Nat} {c : AEnv → Rs}, paL m l k c = res → ∃ env, c env = res ∧ ∀ t a, alook t env = some a → k ≤ t ∧ l[t - k]? = some a
 | [], k, c, h => ⟨[], h, fun t a ha => by cases ha⟩
 | x :: l, k, c, h => by
  have h' : fN (Nat.add k 1) (fun k' => paL m l k' fun r => ifK (kept m k) (c ((k, x) :: r)) (c r)) = res := h
  rw [fN_eq] at h'
  obtain ⟨env, h1, h2⟩ := paL_inv h'
  rw [ifK_eq] at h1
  have hold : ∀ t a, alook t env = some a → k ≤ t ∧ (x :: l)[t - k]? = some a := fun t a ha => by
   obtain ⟨g1, g2⟩ := h2 t a ha
   have g1 : k + 1 ≤ t := g1
   have g2 : l[t - (k + 1)]? = some a := g2
   refine ⟨by omega, ?_⟩
   rw [show t - k = t - (k + 1) + 1 by omega]
   exact g2
  split at h1
  ·refine ⟨_, h1, fun t a ha => ?_⟩
   simp only [alook] at ha
   split at ha
   ·rename_i hkt
    subst hkt
    obtain rfl := Option.some.inj ha
    exact ⟨Nat.le_refl _, by simp⟩
   ·exact hold t a ha
  ·exact ⟨env, h1, hold⟩
theorem ld_one {t : TypeId} {p : Addr} {v : Value} {w : World} (ht : one t = true) (hc : w.cell? p = some v) : (loadVar t p).run Tryz.prog w = .ok v w := by
 simp [loadVar, isAgg_one ht, load, Sem.run, hc]
section
variable {w0 : Fm} {m : Nat} {ih : Cl} {e : En} {σ : Mem} {res : Rs} {ρ : Pl} {env : Env} {w : World} (hr : res ≠ .no)
include hr
theorem reW_inv {N : Nat} {a : Act} (hE : ER m ρ e env) (hM : MR w0 ρ σ w) (hf : Fits N env a) {r : ResultVar} {k : AV → Rs} (h : (reW m r).f e σ k = res) : ∃ x v, AR ρ x v ∧ k x = res ∧ ((match r with
  | .tmp t => pure (a.tmps.getD t undef)
  | .cell p t => do loadVar t (← asAddr (a.tmps.getD p undef)) : Sem Value)).run Tryz.prog w = .ok v w := by
 cases r with
 | tmp t =>
  obtain ⟨x, h1, h2⟩ := gtT_inv hr (show (gtT m t).f e k = res from h)
  obtain ⟨v, h3, h4⟩ := hE t x h1
  refine ⟨x, v, h4, h2, ?_⟩
  have := hf.2.2 t v h3
  simp [Array.getD_eq_getD_getElem?, this]
 | cell p t =>
  have hp : ∀ id o, ∀ pv, look env p = some pv → SR ρ (.p id o) pv → ∃ q, ρ[id]? = some q ∧ (asAddr (a.tmps.getD p undef)).run Tryz.prog w = .ok ⟨q.b, o, none⟩ w := fun id o pv h1 h2 => by
   obtain ⟨q, h3, rfl⟩ := h2
   refine ⟨q, h3, ?_⟩
   have := hf.2.2 p _ h1
   simp [Array.getD_eq_getD_getElem?, this, asAddr]
  unfold reW at h
  simp only at h
  split at h
  ·rename_i ho
   obtain ⟨x, h1, h2⟩ := gtT_inv hr h
   obtain ⟨pv, h3, h4⟩ := hE p x h1
   obtain ⟨id, o, e0, h5⟩ := onP_inv hr h2
   obtain ⟨ob, h6, h7⟩ := obK_inv hr h5
   obtain ⟨y, h8, h9⟩ := getK_inv hr h7
   subst e0
   obtain ⟨q, h10, h11⟩ := hp id o pv h3 h4
   obtain ⟨v, h12, h13, _⟩ := hM.cell (cget_iff.2 ⟨ob, h6, h8⟩) h10
   refine ⟨.v y, v, h13.2, h9, ?_⟩
   show ((asAddr (a.tmps.getD p undef)) >>= fun q => loadVar t q).run Tryz.prog w = _
   rw [Sem.run_bind, h11, Result.andThen_ok]
   exact ld_one ho h12
  ·split at h
   ·rename_i n hn
    rw [cN_eq] at h
    obtain ⟨x, h1, h2⟩ := gtT_inv hr h
    obtain ⟨pv, h3, h4⟩ := hE p x h1
    obtain ⟨id, o, e0, h5⟩ := onP_inv hr h2
    obtain ⟨ob, l, h6, h7, h8, h9⟩ := rdK_inv hr h5
    subst e0
    obtain ⟨q, h10, h11⟩ := hp id o pv h3 h4
    obtain ⟨vs, h12, h13⟩ := hM.cells h10 (l := l) (o := o) (fun i hi => h8 i (by omega))
    refine ⟨.g l, .agg vs.toArray, ⟨vs, h12, rfl⟩, h9, ?_⟩
    have := ld_agg (w := w) (t := t) (b := q.b) (o := o) (cs := vs) (by rw [h12.len, h7]; exact hn) (fun j u hu => (h13 j u hu).1)
    show ((asAddr (a.tmps.getD p undef)) >>= fun q => loadVar t q).run Tryz.prog w = _
    rw [Sem.run_bind, h11, Result.andThen_ok]
    exact this
   ·exact absurd h.symm hr
def resF (tmps : Array Value) : ResultVar → Sem Value := fun
 | .tmp t => pure (tmps.getD t undef)
 | .cell p t => do loadVar t (← asAddr (tmps.getD p undef))
theorem resW_inv {N : Nat} {a : Act} (hE : ER m ρ e env) (hM : MR w0 ρ σ w) (hf : Fits N env a) : ∀ {l : List ResultVar} {k : List AV → Rs}, (resW m l).f e σ k = res → ∃ al vs, ARs ρ al vs ∧ k al = res ∧ (l.mapM (resF a.tmps)).run Tryz.prog w = .ok vs w
 | [], k, h => ⟨[], [], .nil, h, by simp⟩
 | r :: l, k, h => by
  obtain ⟨x, v, h1, h2, h3⟩ := reW_inv hr hE hM hf (show (reW m r).f e σ (fun v => (resW m l).f e σ fun l => k (v :: l)) = res from h)
  obtain ⟨al, vs, h4, h5, h6⟩ := resW_inv hE hM hf h2
  refine ⟨x :: al, v :: vs, .cons h1 h4, h5, ?_⟩
  have h3' : (resF a.tmps r).run Tryz.prog w = .ok v w := by
   cases r <;> exact h3
  simp [List.mapM_cons, h3', h6]
theorem tuK_inv : ∀ {l : List AV} {vs : List Value} {k : List TV → Rs}, tuK l k = res → ARs ρ l vs → ∃ tl, TRs ρ tl vs ∧ k tl = res
 | [], vs, k, h, ha => by
  cases ha
  exact ⟨[], .nil, h⟩
 | x :: l, vs, k, h, ha => by
  cases ha with
  | cons h1 h2 =>
   rcases onV_inv hr (show onV x (fun x => tuK l fun l => k (.v x :: l)) (fun g => tuK l fun l => k (.g g :: l)) = res from h) with ⟨y, rfl, h3⟩ | ⟨g, rfl, h3⟩
   ·obtain ⟨tl, h4, h5⟩ := tuK_inv h3 h2
    exact ⟨.v y :: tl, .cons h1 h4, h5⟩
   ·obtain ⟨tl, h4, h5⟩ := tuK_inv h3 h2
    exact ⟨.g g :: tl, .cons h1 h4, h5⟩
theorem toK_inv {l : List AV} {vs : List Value} (h : toK e σ l = res) (ha : ARs ρ l vs) : ∃ v, res = .mk (.val v) e σ ∧ AR ρ v (if h : vs.toArray.size = 1 then vs.toArray[0] else .tuple vs.toArray) := by
 cases ha with
 | nil => exact ⟨.t [], h.symm, [], .nil, rfl⟩
 | cons h1 h2 =>
  rename_i x v l vs
  cases h2 with
  | nil => exact ⟨x, h.symm, h1⟩
  | cons h3 h4 =>
   rename_i y v' l vs
   obtain ⟨tl, h5, h6⟩ := tuK_inv hr (show tuK (x :: y :: l) (fun l => .mk (.val (.t l)) e σ) = res from h) (.cons h1 (.cons h3 h4))
   exact ⟨.t tl, h6.symm, _, h5, by simp⟩
theorem reK_inv {ws : Wrs} {r : Rs} (h : reK ws r = res) : ∃ x e σ, r = .mk x e σ ∧ (x = .nrm ∨ x = .ret) ∧ ws.f e σ (fun l => toK e σ l) = res := by
 cases r with
 | no => exact absurd h.symm hr
 | mk x e σ =>
  cases x with
  | nrm => exact ⟨_, _, _, rfl, .inl rfl, h⟩
  | ret => exact ⟨_, _, _, rfl, .inr rfl, h⟩
  | _ => exact absurd h.symm hr
end
theorem nthF_mem : ∀ {l : List (Nat × Fe)} {f : Nat} {x : Fe}, nthF l f = some x → (f, x) ∈ l
 | [], f, x, h => by cases h
 | y :: l, f, x, h => by
  have h' : (match Nat.beq y.1 f with
   | true => some y.2
   | false => nthF l f) = some x := h
  split at h'
  ·rename_i hb
   obtain rfl := Option.some.inj h'
   have := Nat.eq_of_beq_eq_true hb
   subst this
   exact List.mem_cons_self
  ·exact List.mem_cons_of_mem _ (nthF_mem h')
def OrcS (f : Nat) (o : List AV → Mem → Rs) : Prop := ∀ (w0 : Fm) al σ v e' σ' (ρ : Pl) vs w, o al σ = .mk (.val v) e' σ' → ARs ρ al vs → MR w0 ρ σ w → Does Tryz.prog f vs.toArray w (fun val w' => ∃ ρ', Up ρ ρ' ∧ AR ρ' v val ∧ MR w0 ρ' σ' w')
def FeOK (f : Nat) : Fe → Prop
 | .code fn _ => Tryz.prog.funcs[f]? = some fn
 | .orc o => OrcS f o
def TabOK (tab : List (Nat × Fe)) : Prop := ∀ x ∈ tab, FeOK x.1 x.2
theorem run_sound {tab : List (Nat × Fe)} (ht : TabOK tab) : ∀ n (w0 : Fm), CallS w0 (run tab n)
 | 0, w0 => fun f al σ v e' σ' ρ vs w h _ _ => by cases h
 | n + 1, w0 => fun f al σ v e' σ' ρ vs w h ha hM => by
  have IH := run_sound ht n
  have hr : (Rs.mk (.val v) e' σ') ≠ .no := fun hh => by cases hh
  have h' : (fnW (nthF tab f)).f (run tab n) al σ = .mk (.val v) e' σ' := h
  unfold fnW at h'
  split at h'
  ·rename_i fn m hnth
   have hf : Tryz.prog.funcs[f]? = some fn := ht _ (nthF_mem hnth)
   split at h'
   ·rename_i c hc
    obtain ⟨hlen, h1⟩ := okK_inv h' hr
    have hlen := Nat.le_of_ble_eq_true hlen
    have h1' : paL m al 0 (fun l => reK (resW m fn.results.toList) ((codW fn.ntmps m 1000 c).f (run tab n) lF ⟨l, [], [], []⟩ σ)) = .mk (.val v) e' σ' := h1
    obtain ⟨l, h2, h3⟩ := paL_inv h1'
    obtain ⟨x, e1, σ1, h4, h5, h6⟩ := reK_inv hr h2
    have hE : ER m ρ ⟨l, [], [], []⟩ (argEnv 0 vs) := fun t a hta => by
     unfold elk at hta
     cases hk : kept m t with
     | true =>
      rw [hk] at hta
      obtain ⟨_, g2⟩ := h3 t a hta
      obtain ⟨u1, g3, g4⟩ := ha.get _ a g2
      exact ⟨u1, look_arg vs 0 t u1 (Nat.zero_le _) g3, g4⟩
     | false =>
      rw [hk] at hta
      have hta : alook t [] = some a := hta
      cases hta
    have hfit : Fits fn.ntmps (argEnv 0 vs) { tmps := vs.toArray ++ Array.replicate (fn.ntmps - vs.toArray.size) undef, defers := [] } :=
     fits_args (by simpa [ha.len] using hlen) fun t v hl => by simpa using (look_argEnv vs 0 t v hl).2
    refine calls_of_wp hf hc (wp_mono (cod_run (N := fn.ntmps) (m := m) IH 1000 c lF ⟨l, [], [], []⟩ σ _ ρ _ w (by rw [h4]; exact fun hh => by cases hh) rfl ⟨ρ, _, Up.refl ρ, hE, hM, hfit⟩) ?_)
    rintro ex a' w' ⟨x2, e2, σ2, k1, k2, ρ', env', k3, k4, k5, k6⟩
    rw [h4] at k1
    injection k1 with q1 q2 q3
    subst q1; subst q2; subst q3
    obtain ⟨al', vs', r1, r2, r3⟩ := resW_inv hr k4 k5 k6 h6
    obtain ⟨v', r4, r5⟩ := toK_inv hr r2 r1
    injection r4 with q1 q2 q3
    injection q1 with q1
    subst q1; subst q2; subst q3
    have hres : (results fn a'.tmps).run Tryz.prog w' = .ok (if h : vs'.toArray.size = 1 then vs'.toArray[0] else .tuple vs'.toArray) w' := by
     have e1 : results fn a'.tmps = (do
      let vs ← fn.results.mapM (resF a'.tmps)
      pure (if h : vs.size = 1 then vs[0] else .tuple vs)) := rfl
     rw [e1, Array.mapM_eq_mapM_toList]
     simp [r3]
    have fin : a'.defers = [] ∧ ∃ vv, (results fn a'.tmps).run Tryz.prog w' = .ok vv w' ∧ Ret (fun val w' => ∃ ρ', Up ρ ρ' ∧ AR ρ' v val ∧ MR w0 ρ' σ' w') (.returned vv) w' := ⟨k6.1, _, hres, _, rfl, ρ', k3, r5, k5⟩
    rcases h5 with rfl | rfl
    ·cases ex with
     | normal => exact fin
     | _ => cases k2
    ·cases ex with
     | ret => exact fin
     | _ => cases k2
   ·cases h'
  ·rename_i o hnth
   have ho : OrcS f o := ht _ (nthF_mem hnth)
   exact ho w0 al σ v e' σ' ρ vs w h' ha hM
  ·cases h'
theorem told_run {tab : List (Nat × Fe)} (ht : TabOK tab) {n f : Nat} (h : ok (run tab n f [] ⟨0, .nil, []⟩) = true) (w : World) (hT : TabI noneB w) : Does Tryz.prog f #[] w (fun v w' => v = .bool true ∧ Ext w w') := by
 generalize hres : run tab n f [] ⟨0, .nil, []⟩ = r at h
 cases r with
 | no => cases h
 | mk x e σ =>
  cases x with
  | val v =>
   cases v with
   | v v =>
    cases v with
    | b q =>
     have h : q = true := h
     subst h
     have hM : MR ⟨noneB, w, hT⟩ [] ⟨0, .nil, []⟩ w := {
      len := rfl
      blk := fun id ob h1 _ => by
       have : oget ⟨0, .nil, []⟩ id = none := tget_nil _ _
       rw [this] at h1; cases h1
      old := Fr.refl _ _
      far := fun id o p _ hp => by cases hp
      pre := fun id ob h1 => by
       have : oget ⟨0, .nil, []⟩ id = none := tget_nil _ _
       rw [this] at h1; cases h1
      apart := fun id id' o o' p p' _ _ _ hp => by cases hp
      mps := Mps.nil _ _ _ }
     have := run_sound ht n ⟨noneB, w, hT⟩ f [] ⟨0, .nil, []⟩ _ e σ [] [] w hres .nil hM
     refine Does.mono this fun v w' hh => ?_
     obtain ⟨ρ', _, h2, h3⟩ := hh
     exact ⟨h2, h3.old⟩
    | _ => cases h
   | _ => cases h
  | _ => cases h
end Rn
end Eng
end Go.Proofs.YtpfelapckcojjaaGreatDoor
namespace Go.Proofs.YtpfelapckcojjaaGreatDoor.Eng
open Go.RowKit
section
def hmayGo : List Int → Int → Int → Bool
 | [], codes, sum => if codes = 1 then decide (sum = 2048) else decide (codes = 0) || decide (sum = 4096)
 | n :: r, codes, sum => if n < 0 ∨ 12 < n then false else if 0 < n then hmayGo r (codes + 1) (sum + p2 (12 - n)) else hmayGo r codes sum
def mayB (zs : List Int) : Bool := decide (zs.length ≤ 400) && hmayGo zs 0 0
structure MayI (zs : List Int) (w0 : World) (x : Nat × Int × Int) (w : World) : Prop where
 w : w = w0
 len : zs.length ≤ 400
 k : x.1 ≤ zs.length
 c0 : 0 ≤ x.2.1
 c1 : x.2.1 ≤ x.1
 s0 : 0 ≤ x.2.2
 s1 : x.2.2 ≤ 4096 * x.1
 go : hmayGo (zs.drop x.1) x.2.1 x.2.2 = hmayGo zs 0 0
theorem hmayGo_nil (c s : Int) : hmayGo [] c s = if c = 1 then decide (s = 2048) else decide (c = 0) || decide (s = 4096) := rfl
theorem hmayGo_cons (n : Int) (r : List Int) (c s : Int) : hmayGo (n :: r) c s = if n < 0 ∨ 12 < n then false else if 0 < n then hmayGo r (c + 1) (s + p2 (12 - n)) else hmayGo r c s := rfl
theorem hmay_does (w : World) (v : Value) (zs : List Int) (hv : IRow w v zs) : Does Tryz.prog 393 #[v] w fun r w' => r = .bool (mayB zs) ∧ w = w' := by
 obtain ⟨A, c, rfl, hc, hcm, hA⟩ := hv
 unfold maxLen at hcm
 refine does1 Tryz.func393 rfl (by kernel_rfl) ?_
 refine wk ?_
 refine tscope1 (α := Nat × Int × Int) 0 rfl (fun x => [(0, .slice A zs.length c), (3, .int .i64 (x.1 : Int)), (4, .int .i64 x.2.1), (5, .int .i64 x.2.2)])
  (MayI zs w) (fun x => zs.length - x.1) ?_ ?_
 ·rintro ⟨k, cd, sm⟩ w' ⟨rfl, h4, hk, hc0, hc1, hs0, hs1, hgo⟩
  dsimp only at h4 hk hc0 hc1 hs0 hs1 hgo ⊢
  by_cases hlt : k < zs.length
  ·obtain ⟨b, o, z, rfl, hb, hz, hcell, hdrop⟩ := at_row hA hlt
   rw [hdrop, hmayGo_cons] at hgo
   by_cases h0 : z < 0 ∨ 12 < z
   ·rw [if_pos h0] at hgo
    repeat' (first | refine wk1 ?_ | refine xcs rfl rfl rfl (fun hc => ?_) (fun hc => ?_) | fail)
    all_goals first | omega | exact tret1 rfl rfl ⟨by simp [mayB, ← hgo], rfl⟩
   ·rw [if_neg h0] at hgo
    by_cases h1 : 0 < z
    ·rw [if_pos h1] at hgo
     have hp := p2_pos (12 - z)
     have hp' : p2 (12 - z) ≤ 2 ^ 12 := p2_le (by omega)
     refine wk ?_
     refine xshl (r := p2 (12 - z)) rfl rfl (by omega) (by simp [IntKind.bits]; omega) (by rw [Int.one_mul]; exact IntWalk.i64_in _ (by unfold p2 at *; omega)) ?_
     refine wk ?_
     exact tgoto rfl ⟨_, by dsimp only; omega, rfl, (k + 1, cd + 1, sm + p2 (12 - z)), sub ⟨rfl, rfl, rfl, rfl⟩, ⟨rfl, h4, by dsimp only; omega, by dsimp only; omega, by dsimp only; omega, by dsimp only; omega, by dsimp only; omega, hgo⟩, rfl⟩
    ·rw [if_neg h1] at hgo
     refine wk ?_
     exact tgoto rfl ⟨_, by dsimp only; omega, rfl, (k + 1, cd, sm), sub ⟨rfl, rfl, rfl, rfl⟩, ⟨rfl, h4, by dsimp only; omega, by dsimp only; omega, by dsimp only; omega, by dsimp only; omega, by dsimp only; omega, hgo⟩, rfl⟩
  ·rw [List.drop_eq_nil_of_le (by omega), hmayGo_nil] at hgo
   have hm : mayB zs = if cd = 1 then decide (sm = 2048) else decide (cd = 0) || decide (sm = 4096) := by rw [hgo]; simp [mayB, h4]
   repeat' (first | refine wk1 ?_ | refine xcs rfl rfl rfl (fun hc => ?_) (fun hc => ?_) | fail)
   all_goals exact tret1 rfl rfl ⟨by rw [hm]; simp [*], rfl⟩
 ·intro H
  repeat' (first | refine wk1 ?_ | refine xcs rfl rfl rfl (fun hc => ?_) (fun hc => ?_) | fail)
  ·exact tret1 rfl rfl ⟨by simp [mayB]; omega, rfl⟩
  ·refine tlabel ?_
   exact tweak (H (0, 0, 0) w ⟨rfl, by omega, by simp, by simp, by simp, by simp, by simp, by simp⟩) (sub ⟨rfl, rfl, rfl, rfl⟩)
end
section
def Chain (w : World) : Option Addr → List Nat → Prop
 | p, [] => p = none
 | p, x :: r => ∃ b p', p = some ⟨b, 0, none⟩ ∧ Blk w b 440 #[.pointer p', .int .u64 (x : Int)] ∧ Chain w p' r
theorem Chain.fr {S : Nat → Prop} {w w' : World} (hf : Fr S w w') (hS : ∀ b cs, Blk w b 440 cs → ¬ S b) : ∀ {ws : List Nat} {p : Option Addr}, Chain w p ws → Chain w' p ws
 | [], _, h => h
 | _ :: _, _, ⟨b, p', e, hB, hc⟩ => ⟨b, p', e, hB.fr hf (hS b _ hB), Chain.fr hf hS hc⟩
structure OutR (w : World) (g : Nat) (bs : List Nat) : Prop where
 ex : ∃ p ws tl, Blk w g 416 #[.pointer p, .int .u64 (val tl : Int), .int .i64 (bs.length : Int)] ∧ Chain w p ws ∧ bs = ws.reverse.flatMap (bitsOf · 64) ++ tl ∧ tl.length < 64 ∧ Bits tl ∧ ∀ x ∈ ws, x < 2 ^ 64
theorem OutR.bits {w : World} {g : Nat} {bs : List Nat} (h : OutR w g bs) : Bits bs := by
 obtain ⟨p, ws, tl, _, _, rfl, _, hb, _⟩ := h.ex
 intro b hb'
 rcases List.mem_append.1 hb' with h' | h'
 ·obtain ⟨x, _, hx⟩ := List.mem_flatMap.1 h'
  exact bits_bitsOf _ _ b hx
 ·exact hb b h'
theorem OutR.lt {w : World} {g : Nat} {bs : List Nat} (h : OutR w g bs) : g < w.heap.size := by
 obtain ⟨p, ws, tl, hB, _⟩ := h.ex
 exact hB.lt
theorem OutR.fr {S : Nat → Prop} {w w' : World} {g : Nat} {bs : List Nat} (h : OutR w g bs) (hf : Fr S w w') (hg : ¬ S g) (hS : ∀ b cs, Blk w b 440 cs → ¬ S b) : OutR w' g bs := by
 obtain ⟨p, ws, tl, hB, hc, r⟩ := h.ex
 exact ⟨⟨p, ws, tl, hB.fr hf hg, hc.fr hf hS, r⟩⟩
theorem OutR.ext {w w' : World} {g : Nat} {bs : List Nat} (h : OutR w g bs) (hf : Ext w w') : OutR w' g bs := h.fr hf (fun hh => hh) fun _ _ _ hh => hh
theorem OutR.new {w : World} {g : Nat} (hB : Blk w g 416 #[.pointer none, .int .u64 0, .int .i64 0]) : OutR w g [] :=
 ⟨⟨none, [], [], hB, rfl, rfl, by simp, fun b hb => (by cases hb), by simp⟩⟩
theorem hieq {k : IntKind} {a b : Int} (h : a = b) : (some (.int k a) : Option Value) = some (.int k b) := by rw [h]
end
section
def BB (w : World) (b : Nat) (l : List Int) : Prop := Blk w b 5 (l.map (Value.int .u8)).toArray
theorem BB.lt {w : World} {b : Nat} {l : List Int} (h : BB w b l) : b < w.heap.size := Blk.lt h
theorem BB.fr {S : Nat → Prop} {w w' : World} {b : Nat} {l : List Int} (h : BB w b l) (hf : Fr S w w') (hS : ¬ S b) : BB w' b l := Blk.fr h hf hS
theorem BB.row {w : World} {b : Nat} {l : List Int} (h : BB w b l) (hl : l.length ≤ maxLen) : BRow w (.slice (some ⟨b, 0, none⟩) l.length l.length) l :=
 ⟨_, _, rfl, Nat.le_refl _, hl, fun _ => ⟨b, 0, rfl, Blk.lt h, fun j u hu => by rw [Nat.zero_add, Blk.cell h]; simpa using hu⟩⟩
end
section
def Byts (zs : List Int) : Prop := ∀ z ∈ zs, 0 ≤ z ∧ z < 256
structure InR (w : World) (g : Nat) (zs : List Int) (p : Nat) : Prop where
 ex : ∃ v, Blk w g 411 #[v, .int .i64 (p : Int)] ∧ BRow w v zs ∧ ∀ b, v.ownBlock = some b → b < g
 le : p ≤ 8 * zs.length
 by_ : Byts zs
theorem InR.ext {w w' : World} {g : Nat} {zs : List Int} {p : Nat} (h : InR w g zs p) (hf : Ext w w') : InR w' g zs p := by
 obtain ⟨⟨v, h1, h2, h3⟩, h4, h5⟩ := h
 exact ⟨⟨v, h1.ext hf, h2.ext hf, h3⟩, h4, h5⟩
theorem InR.lt {w : World} {g : Nat} {zs : List Int} {p : Nat} (h : InR w g zs p) : g < w.heap.size := by
 obtain ⟨⟨v, h1, _⟩, _⟩ := h
 exact h1.lt
end
section
def minL (zs : List Int) : Int := zs.tail.foldl min (zs.headD 0)
def maxL (zs : List Int) : Int := zs.tail.foldl max (zs.headD 0)
structure FoldI (f : Int → Int → Int) (zs : List Int) (w0 : World) (k : Nat) (w : World) : Prop where
 w : w = w0
 k1 : 1 ≤ k
 le : k ≤ zs.length
theorem foldl_take_succ (f : Int → Int → Int) (zs : List Int) (a : Int) (k : Nat) (z : Int) (hk : 1 ≤ k) (hz : zs[k]? = some z) : f ((zs.tail.take (k - 1)).foldl f a) z = (zs.tail.take k).foldl f a := by
 obtain ⟨j, rfl⟩ : ∃ j, k = j + 1 := ⟨k - 1, by omega⟩
 rw [Nat.add_sub_cancel]
 cases zs with
 | nil => simp at hz
 | cons y r =>
  simp only [List.tail_cons, List.getElem?_cons_succ] at hz ⊢
  rw [List.take_add_one, hz]; simp
theorem min_does (w : World) (v : Value) (zs : List Int) (hv : IRow w v zs) (hn : 0 < zs.length) (hl : zs.length ≤ 2 ^ 40) :
  Does Tryz.prog 389 #[v] w fun r w' => r = .int .i64 (minL zs) ∧ w = w' := by
 obtain ⟨A, c, rfl, hc, hcm, hA⟩ := hv
 obtain ⟨b, o, z, rfl, hb, hz, hcell, _⟩ := at_row hA hn
 have hh : zs.headD 0 = z := by cases zs with
  | nil => simp at hz
  | cons y r => simpa using hz
 rw [Nat.add_zero] at hcell
 refine does1 Tryz.func389 rfl (by kernel_rfl) ?_
 refine wk ?_
 refine tloop (α := Nat) (fun k => [(0, .slice (some ⟨b, o, none⟩) zs.length c), (3, .int .i64 ((zs.tail.take (k - 1)).foldl min z)), (4, .int .i64 (k : Int))]) (FoldI min zs w) (fun k => zs.length - k) 1 (sub ⟨rfl, by simp [look], rfl⟩) ⟨rfl, by omega, by omega⟩ ?_
 rintro k w' ⟨rfl, h1, hle⟩
 by_cases hlt : k < zs.length
 ·obtain ⟨b', o', z', e, hb', hz', hcell', _⟩ := at_row hA hlt
  injection e with e; injection e with e1 e2; subst e1; subst e2
  refine wk ?_
  refine xmin rfl rfl ?_
  rw [foldl_take_succ min zs z k z' h1 hz']
  refine wk ?_
  exact tfin ⟨k + 1, sub ⟨rfl, rfl, rfl⟩, ⟨rfl, by omega, by omega⟩, by dsimp only; omega⟩
 ·obtain rfl : k = zs.length := by omega
  refine wk ?_
  refine tret1 rfl rfl ⟨?_, rfl⟩
  unfold minL
  rw [hh, List.take_of_length_le (by simp)]
theorem max_does (w : World) (v : Value) (zs : List Int) (hv : IRow w v zs) (hn : 0 < zs.length) (hl : zs.length ≤ 2 ^ 40) :
  Does Tryz.prog 390 #[v] w fun r w' => r = .int .i64 (maxL zs) ∧ w = w' := by
 obtain ⟨A, c, rfl, hc, hcm, hA⟩ := hv
 obtain ⟨b, o, z, rfl, hb, hz, hcell, _⟩ := at_row hA hn
 have hh : zs.headD 0 = z := by cases zs with
  | nil => simp at hz
  | cons y r => simpa using hz
 rw [Nat.add_zero] at hcell
 refine does1 Tryz.func390 rfl (by kernel_rfl) ?_
 refine wk ?_
 refine tloop (α := Nat) (fun k => [(0, .slice (some ⟨b, o, none⟩) zs.length c), (3, .int .i64 ((zs.tail.take (k - 1)).foldl max z)), (4, .int .i64 (k : Int))]) (FoldI max zs w) (fun k => zs.length - k) 1 (sub ⟨rfl, by simp [look], rfl⟩) ⟨rfl, by omega, by omega⟩ ?_
 rintro k w' ⟨rfl, h1, hle⟩
 by_cases hlt : k < zs.length
 ·obtain ⟨b', o', z', e, hb', hz', hcell', _⟩ := at_row hA hlt
  injection e with e; injection e with e1 e2; subst e1; subst e2
  refine wk ?_
  refine xmax rfl rfl ?_
  rw [foldl_take_succ max zs z k z' h1 hz']
  refine wk ?_
  exact tfin ⟨k + 1, sub ⟨rfl, rfl, rfl⟩, ⟨rfl, by omega, by omega⟩, by dsimp only; omega⟩
 ·obtain rfl : k = zs.length := by omega
  refine wk ?_
  refine tret1 rfl rfl ⟨?_, rfl⟩
  unfold maxL
  rw [hh, List.take_of_length_le (by simp)]
end
section
open Go.ChangeShapes Go.WideShapes Go.ChangeAt Go.RowKit
theorem own_ : ownKnob Tryz.prog.godebug = none := by kernel_rfl
theorem laid_ : laidOutB Tryz.prog = true := by kernel_rfl
section
variable {H : Type} {enc : TypeId × Value → H}
theorem trodAll_ext {P : Program} (hlo : laidOutB P = true) {W W' : World} (hb : Below W.heap.size W W') : ∀ {ts : List TypeId} {vs : List Value} {ds : List (DataW H)} {ps : List MemPlace}, (ts.all fun t => P.readableRec t && decide (t < P.types.size)) = true →
  DataW.TrodAll enc P W 0 (fun _ => true) true ts vs ds ps → (∀ x ∈ ps, x.block < W.heap.size) → ∀ sp : Nat → Bool, (∀ p ∈ ps, sp p.block = true) → DataW.TrodAll enc P W' 0 sp true ts vs ds ps
 | [], [], [], _, _, h, _, _, _ => h
 | [], _ :: _, _, _, _, h, _, _, _ => h.elim
 | [], [], _ :: _, _, _, h, _, _, _ => h.elim
 | _ :: _, [], _, _, _, h, _, _, _ => h.elim
 | _ :: _, _ :: _, [], _, _, h, _, _, _ => h.elim
 | t :: ts, v :: vs, d :: ds, ps, hr, h, hlt, sp, hsp => by
  obtain ⟨p, q, h1, h2, rfl⟩ := h
  simp only [List.all_cons, Bool.and_eq_true, decide_eq_true_eq] at hr
  exact ⟨p, q, WideElems.Trod_stays hlo hr.1.1 hr.1.2 h1 (fun x hx => hb.same (hlt x (by simp [hx]))) (fun x hx => hsp x (by simp [hx])),
   trodAll_ext hlo hb hr.2 h2 (fun x hx => hlt x (by simp [hx])) sp (fun x hx => hsp x (by simp [hx])), rfl⟩
theorem post_law {f : Func} {s : ChangeSpec} {apart fresh handsOn again : Bool} {W W' : World} {args : Array Value} {ds gs : List (DataW H)} {before : List MemPlace}
  (hvs : s.vars = []) (hfn : s.fn H (ds ++ gs) = { results := [.lit (.bool true)], args := ds }) (hr : f.resultTypes = #[4]) (hrd : (f.params.toList.all fun t => Tryz.prog.readableRec t && decide (t < Tryz.prog.types.size)) = true)
  (hW : DataW.Whole enc Tryz.prog f.params.toList s.vars apart W args.toList ds gs before) (hE : Ext W W') : s.post enc Tryz.prog f apart fresh handsOn again W args (.bool true) W' := by
 have hb := hE.below
 have hlt : ∀ p ∈ before, p.block < W.heap.size := fun p hp => hW.lt p hp
 have hold : ∀ p ∈ before, (fun b => decide (b < W.heap.size)) p.block = true := fun p hp => by simpa using hlt p hp
 have hW' := hW
 obtain ⟨pa, pv, hA, hV, hps, hz, hn⟩ := hW
 rw [hvs] at hV
 have hvars : gs = [] ∧ pv = [] := by
  cases gs with
  | nil => exact ⟨rfl, hV⟩
  | cons g gs => exact hV.elim
 obtain ⟨rfl, rfl⟩ := hvars
 rw [List.append_nil] at hps
 subst hps
 have hargs : ∀ sp : Nat → Bool, (∀ p ∈ before, sp p.block = true) → DataW.TrodAll enc Tryz.prog W' 0 sp true f.params.toList args.toList (s.fn H (ds ++ [])).args before := fun sp hsp => by
  rw [hfn]; exact trodAll_ext laid_ hb hrd hA hlt sp hsp
 have hres : ∀ (b : Nat) (sp : Nat → Bool) (hd : Bool), DataW.TrodAll enc Tryz.prog W' b sp hd f.resultTypes.toList ((Value.bool true).resultList f.resultTypes.size) (s.fn H (ds ++ [])).results [] := fun b sp hd => by
  rw [hfn, hr]; exact trodAll_mk1 (shut_bool Tryz.underlying4 _)
 have hvr : ∀ sp : Nat → Bool, DataW.TrodVars enc Tryz.prog W' sp s.vars (s.fn H (ds ++ [])).vars [] := fun sp => by
  rw [hfn, hvs]; rfl
 have hok : ∀ (j : Nat) (t : TypeId) (r : Value), f.resultTypes[j]? = some t → ((Value.bool true).resultList f.resultTypes.size)[j]? = some r → Value.okWide Tryz.prog W' .any 0 t r := ok_one hr rfl (okWide_bool_mk Tryz.underlying4 _)
 refine ⟨ds, [], before, [], before, [], hW', hres _ _ _, hargs _ hold, hvr _, World.keptBut_mono (fun p hp => ⟨hp, .inr (.inl hp)⟩) (hb.frame (· ∈ before)), fun _ => ?_⟩
 refine ⟨hok, _, _, ([] ++ before) ++ [], ⟨[] ++ before, [], trodAll_append (hargs _ (fun _ _ => rfl)) (hres _ _ _), hvr _, rfl, ?_, ?_⟩, ?_⟩
 ·intro b off hp
  have hin : MemPlace.cell b off ∈ before := by simpa using hp
  rw [hb.frozen (hlt _ hin)]
  exact hz b off hin
 ·intro ha
  have := hn ha
  simpa using this
 ·intro p hp _
  simpa using hp
end
end
end Go.Proofs.YtpfelapckcojjaaGreatDoor.Eng
