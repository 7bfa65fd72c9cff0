/-
  Regions.
-/
import Derived.Test.YtalnkjpgnkfedaaGreatDoorEymp
namespace Go.Proofs.YtalnkjpgnkfedaaGreatDoor
open Go.RowKit
namespace Eng
namespace Rn
/-- What a slot gets. -/
theorem ER.put {m : Nat} {ρ : Pl} {e e' : En} {env : Env} {v : AV} {val : Value} {d : Option Nat} (h : ER m ρ e env) (hv : AR ρ v val) (he : ∀ t a, elk m e' t = some a → (d = some t ∧ a = v) ∨ (d ≠ some t ∧ elk m e t = some a)) : ER m ρ e' (Eng.put env d val) := fun t a ha => by
  rcases he t a ha with ⟨rfl, rfl⟩ | ⟨hd, ha⟩
  · exact ⟨val, by simp [Eng.put, look_cons], hv⟩
  · obtain ⟨u1, h1, h2⟩ := h t a ha
    cases d with
    | none => exact ⟨u1, h1, h2⟩
    | some d =>
      refine ⟨u1, ?_, h2⟩
      show look ((d, val) :: env) t = some u1
      rw [look_cons, if_neg (fun e => hd (by rw [e]))]
      exact h1
section
variable {m : Nat} {ih : Cl} {e : En} {σ : Mem} {res : Rs} {ρ : Pl} {env : Env} {w0 : Fm} {w : World} (hr : res ≠ .no)
include hr
omit hr in
theorem puW_inv {d : Option Nat} {v : AV} {c : En → Rs} (h : (puW m d).f e v c = res) : ∃ e', c e' = res ∧ e'.hs = e.hs ∧ e'.ms = e.ms ∧ ∀ t a, elk m e' t = some a → (d = some t ∧ a = v) ∨ (d ≠ some t ∧ elk m e t = some a) := by
  unfold puW at h
  cases d with
  | none => exact ⟨e, h, rfl, rfl, fun t a ha => .inr ⟨fun hh => (by cases hh), ha⟩⟩
  | some d =>
    cases hk : kept m d with
    | true =>
      have h' : repK d v e.vs (fun vs => c ⟨vs, e.ts, e.hs, e.ms⟩) = res := by
        have h'' : (match kept m d with
          | true => (⟨fun e v c => repK d v e.vs fun vs => c ⟨vs, e.ts, e.hs, e.ms⟩⟩ : Wd)
          | false => ⟨fun e v c => c ⟨e.vs, (d, v) :: e.ts, e.hs, e.ms⟩⟩).f e v c = res := h
        rw [hk] at h''
        exact h''
      obtain ⟨l', h1, h2⟩ := repK_inv (t := d) (v := v) (l := e.vs) (c := fun vs => c ⟨vs, e.ts, e.hs, e.ms⟩)
      rw [h1] at h'
      refine ⟨_, h', rfl, rfl, fun t a ha => ?_⟩
      unfold elk at ha ⊢
      by_cases htd : t = d
      · subst htd
        rw [hk] at ha
        have ha : alook t l' = some a := ha
        rw [h2, if_pos rfl] at ha
        exact .inl ⟨rfl, (Option.some.inj ha).symm⟩
      · refine .inr ⟨fun hh => htd (Option.some.inj hh).symm, ?_⟩
        cases hkt : kept m t with
        | true =>
          rw [hkt] at ha
          have ha : alook t l' = some a := ha
          rw [h2, if_neg htd] at ha
          exact ha
        | false =>
          rw [hkt] at ha
          exact ha
    | false =>
      have h' : c ⟨e.vs, (d, v) :: e.ts, e.hs, e.ms⟩ = res := by
        have h'' : (match kept m d with
          | true => (⟨fun e v c => repK d v e.vs fun vs => c ⟨vs, e.ts, e.hs, e.ms⟩⟩ : Wd)
          | false => ⟨fun e v c => c ⟨e.vs, (d, v) :: e.ts, e.hs, e.ms⟩⟩).f e v c = res := h
        rw [hk] at h''
        exact h''
      refine ⟨_, h', rfl, rfl, fun t a ha => ?_⟩
      unfold elk at ha ⊢
      by_cases htd : t = d
      · subst htd
        rw [hk] at ha
        have ha : alook t ((t, v) :: e.ts) = some a := ha
        simp only [alook, if_pos] at ha
        exact .inl ⟨rfl, (Option.some.inj ha).symm⟩
      · refine .inr ⟨fun hh => htd (Option.some.inj hh).symm, ?_⟩
        cases hkt : kept m t with
        | true =>
          rw [hkt] at ha
          exact ha
        | false =>
          rw [hkt] at ha
          have ha : alook t ((d, v) :: e.ts) = some a := ha
          simp only [alook] at ha
          rw [if_neg (fun hh => htd hh.symm)] at ha
          exact ha
theorem bqK_inv {x : AV} {want : Bool} {a b : Rs} (h : bqK x want a b = res) : (∃ q, x = .v (.b q) ∧ ((q == want) = true ∧ a = res ∨ (q == want) = false ∧ b = res)) ∨ (x = .v .u ∧ b = res) := by
  cases x with
  | v x =>
    cases x with
    | b q =>
      have h' : ifK (eB q want) a b = res := h
      rw [ifK_eq, eB_eq] at h'
      refine .inl ⟨q, rfl, ?_⟩
      cases hq : (q == want) with
      | true => rw [hq] at h'; exact .inl ⟨rfl, h'⟩
      | false => rw [hq] at h'; exact .inr ⟨rfl, h'⟩
    | u => exact .inr ⟨rfl, h⟩
    | _ => exact absurd h.symm hr
  | _ => exact absurd h.symm hr
variable (hih : CallS w0 ih) (hE : ER m ρ e env) (hM : MR w0 ρ σ w)
include hih hE hM
omit hih in
theorem s_bf {full : Array Oper} {c : Kt} {d : Option Tmp} {ty : TypeId} {pos : String} {af : Array Edge} {b : Builtin} {a : List Operand} {ts : List TypeId} (hd : dsO d (.call { callee := .builtin b, args := a.toArray, argTypes := ts.toArray }) = true) (h : (bfW m b a ts).f ih e σ c = res) :
    xs Tryz.prog isI isS [] Eng.noH full (Good w0 ρ c res env d) [⟨d, .call { callee := .builtin b, args := a.toArray, argTypes := ts.toArray }, ty, pos, af, none⟩] env w := by
  unfold bfW at h
  split at h
  · cases d with
    | none => cases hd
    | some d => exact s_ln hr hE hM h
  · exact s_ap hr hE hM h
  · exact s_cp hr hE hM h
  · exact s_cl hr hE hM h
  · cases d with
    | none => cases hd
    | some d =>
      obtain ⟨p, q, vp, vq, h1, h2, h3, h4, g1⟩ := two hr hE h
      obtain ⟨na, e0, g2⟩ := onE_inv hr g1
      obtain ⟨nb, e1, g3⟩ := onE_inv hr g2
      subst e0; subst e1
      obtain ⟨rfl, h5⟩ := h3
      obtain ⟨rfl, h6⟩ := h4
      refine xw (v := .complex .f64 (fw na) (fw nb)) (w' := w) (by simp [opsOK, Op.operands, Call.operands, h1, h2]) rfl ?_ ⟨_, σ, ρ, _, g3, Up.refl ρ, ⟨rfl, h5, h6⟩, hM, rfl⟩ trivial
      simp [execOp, resolve, invoke, builtin, ev_of h1, ev_of h2, run_complex]
  · cases d with
    | none => cases hd
    | some d =>
      obtain ⟨p, vp, h1, h3, g1⟩ := gtW_inv hr hE (show (gtW m _).f e _ = res from h)
      obtain ⟨na, nb, e0, g2⟩ := onX_inv hr g1
      subst e0
      obtain ⟨rfl, h5, h6⟩ := h3
      refine xw (v := .float .f64 (fw na)) (w' := w) (by simp [opsOK, Op.operands, Call.operands, h1]) rfl ?_ ⟨_, σ, ρ, _, g2, Up.refl ρ, ⟨rfl, h5⟩, hM, rfl⟩ trivial
      simp [execOp, resolve, invoke, builtin, ev_of h1, run_real]
  · cases d with
    | none => cases hd
    | some d =>
      obtain ⟨p, vp, h1, h3, g1⟩ := gtW_inv hr hE (show (gtW m _).f e _ = res from h)
      obtain ⟨na, nb, e0, g2⟩ := onX_inv hr g1
      subst e0
      obtain ⟨rfl, h5, h6⟩ := h3
      refine xw (v := .float .f64 (fw nb)) (w' := w) (by simp [opsOK, Op.operands, Call.operands, h1]) rfl ?_ ⟨_, σ, ρ, _, g2, Up.refl ρ, ⟨rfl, h6⟩, hM, rfl⟩ trivial
      simp [execOp, resolve, invoke, builtin, ev_of h1, run_imag]
  · cases d with
    | none => cases hd
    | some d => exact s_mn (up := false) hr hE hM h
  · cases d with
    | none => cases hd
    | some d => exact s_mn (up := true) hr hE hM h
  · exact absurd h.symm hr
set_option maxRecDepth 20000 in
/-- Every operation. -/
theorem s_op {full : Array Oper} {c : Kt} {d : Option Tmp} {op : Op} {ty : TypeId} {pos : String} {af : Array Edge} (hd : dsO d op = true) (h : (opW m op).f ih e σ c = res) : xs Tryz.prog isI isS [] Eng.noH full (Good w0 ρ c res env d) [⟨d, op, ty, pos, af, none⟩] env w := by
  cases d with
  | none =>
    cases op with
    | store t x y => exact s_st hr hE hM h
    | mapUpdate t x y z => exact s_mu hr hE hM h
    | call cl =>
      obtain ⟨k, a, ts⟩ := cl
      by_cases hb : ∃ b, k = .builtin b
      · obtain ⟨b, rfl⟩ := hb
        exact s_bf (a := a.toList) (ts := ts.toList) hr hE hM hd h
      · exact s_call (a := a.toList) (ts := ts.toList) hr hE hM hih h (fun b hh => hb ⟨b, hh⟩)
    | _ => cases hd
  | some d =>
    cases op with
    | move x => exact s_move hr hE hM h
    | assign x => exact s_assign hr hE hM h
    | pick x a b => exact s_pick hr hE hM h
    | alloc t => exact s_al hr hM h
    | box t x => exact s_bx hr hE hM h
    | build t ps => exact s_bu (ps := ps.toList) hr hE hM h
    | buildSlice t n ps => exact s_rw (ps := ps.toList) hr hE hM h
    | load t x => exact s_ld hr hE hM h
    | nilCheck x => exact s_nilCheck hr hE hM h
    | binOp op t x y yt => exact s_bin hr hE hM h
    | unOp op t x =>
      cases op with
      | not => exact s_not hr hE hM h
      | neg => exact s_neg hr hE hM h
      | _ => exact absurd h.symm hr
    | convert s t x => exact s_cv hr hE hM h
    | makeFunc fn a b => 
      have h' : (mfW m fn a.toList b.toList).f ih e σ c = res := h
      exact s_mf (a := a.toList) (b := b.toList) hr hE hM h'
    | makeSlice t n q => exact s_mk hr hE hM h
    | slice t x lo hi mx => exact s_sl hr hE hM h
    | fieldAddr s x f => exact s_fd hr hE hM h
    | field t x k => exact s_fl hr hE hM h
    | indexAddr t x i => exact s_ix hr hE hM h
    | index t x i => exact s_el hr hE hM h
    | extract x k => exact s_ex hr hE hM h
    | call cl =>
      obtain ⟨k, a, ts⟩ := cl
      by_cases hb : ∃ b, k = .builtin b
      · obtain ⟨b, rfl⟩ := hb
        exact s_bf (a := a.toList) (ts := ts.toList) hr hE hM rfl h
      · exact s_call (a := a.toList) (ts := ts.toList) hr hE hM hih h (fun b hh => hb ⟨b, hh⟩)
    | store t x y => cases hd
    | mapUpdate t x y z => cases hd
    | makeMap t q =>
      cases q with
      | none => exact s_mkm hr hM h
      | some q => exact absurd h.symm hr
    | lookup t x y q =>
      cases q with
      | true => exact s_lk hr hE hM h
      | false => exact s_le hr hE hM h
    | _ => exact absurd h.symm hr
omit hr hih hE hM in
theorem dstOf_eq : ∀ (l : List Oper) (j : Nat), dstOf l j = dstAt l j
  | [], _ => rfl
  | _ :: _, 0 => rfl
  | _ :: r, j + 1 => dstOf_eq r j
/-- What comes behind an operation. -/
def Then (w0 : Fm) (m : Nat) (ρ : Pl) (hs : List Nt) (ms : List Mem) (c : Kr) (res : Rs) : Env → World → Prop := fun env' w' => ∃ e' σ' ρ', c e' σ' = res ∧ e'.hs = hs ∧ e'.ms = ms ∧ Up ρ ρ' ∧ ER m ρ' e' env' ∧ MR w0 ρ' σ' w'
omit hr hih hE hM in
theorem xs_one {full : Array Oper} {o : Oper} {rest : List Oper} {K K' : Env → World → Prop} (h : xs Tryz.prog isI isS [] Eng.noH full K' [o] env w) (hk : ∀ env' w', K' env' w' → xs Tryz.prog isI isS [] Eng.noH full K rest env' w') : xs Tryz.prog isI isS [] Eng.noH full K (o :: rest) env w := by
  obtain ⟨g, hg, h1, h2⟩ := h
  exact ⟨g, hg, fun hh => ⟨(h1 hh).1, acts_mono trivial (fun v w' _ hs => hk _ _ hs) (h1 hh).2⟩, fun hh => hk _ _ (h2 hh)⟩
omit hih hM in
/-- An operation that may be left out. -/
theorem s_guard {hs : List Nat} {H : World → Prop} {K : Env → World → Prop} {full : List Oper} {c : Kr} {wo : Wo} {d : Option Tmp} {op : Op} {ty : TypeId} {pos : String} {af : Array Edge} {gd : Option (Nat × Bool)} (h : (gdW m full ⟨d, op, ty, pos, af, gd⟩ wo).f ih e σ c = res)
    (go : wo.f ih e σ c = res → xs Tryz.prog isI isS hs H full.toArray K [⟨d, op, ty, pos, af, none⟩] env w)
    (no : ∀ e', c e' σ = res → e'.hs = e.hs → e'.ms = e.ms → ER m ρ e' (Eng.put env d undef) → K (Eng.put env d undef) w) : xs Tryz.prog isI isS hs H full.toArray K [⟨d, op, ty, pos, af, gd⟩] env w := by
  unfold gdW at h
  cases gd with
  | none => exact go h
  | some gq =>
    obtain ⟨j, want⟩ := gq
    have h' : (match dstOf full j with
      | some d' => (⟨fun ih e σ c => (gtT m d').f e fun q => bqK q want (wo.f ih e σ c) ((puW m d).f e (.v .u) fun e => c e σ)⟩ : Wo)
      | none => noO).f ih e σ c = res := h
    split at h'
    · rename_i d' hdj
      obtain ⟨q, h1, g1⟩ := gtT_inv hr h'
      obtain ⟨val, h2, h3⟩ := hE d' q h1
      have hgv : ∀ r, (match look env d' with
        | some (.bool true) => some want
        | some (.bool false) => some (!want)
        | some _ => some false
        | none => none) = some r → gv full.toArray env (some (j, want)) = some r := fun r hh => by
        refine gvl_eq ?_
        unfold gvl
        rw [← dstOf_eq, hdj]
        exact hh
      have nox : (puW m d).f e (.v .u) (fun e => c e σ) = res → gv full.toArray env (some (j, want)) = some false → xs Tryz.prog isI isS hs H full.toArray K [⟨d, op, ty, pos, af, some (j, want)⟩] env w := fun hp hg => by
        obtain ⟨e', k1, k3, k4, k2⟩ := puW_inv hp
        exact xgn hg (no e' k1 k3 k4 (hE.put (v := .v .u) (val := undef) rfl k2))
      rcases bqK_inv hr g1 with ⟨q', e0, ⟨hq, g2⟩ | ⟨hq, g2⟩⟩ | ⟨e0, g2⟩
      · subst e0
        have h3 : val = .bool q' := h3
        subst h3
        refine xgy (hgv true ?_) (go g2)
        rw [h2]
        cases q' <;> cases want <;> first | rfl | cases hq
      · subst e0
        have h3 : val = .bool q' := h3
        subst h3
        refine nox g2 (hgv false ?_)
        rw [h2]
        cases q' <;> cases want <;> first | rfl | cases hq
      · subst e0
        have h3 : val = undef := h3
        subst h3
        refine nox g2 (hgv false ?_)
        rw [h2]
        rfl
    · exact absurd h'.symm hr
theorem s_or {full : List Oper} {c : Kr} {o : Oper} (h : (orW m full o).f ih e σ c = res) : xs Tryz.prog isI isS [] Eng.noH full.toArray (Then w0 m ρ e.hs e.ms c res) [o] env w := by
  obtain ⟨d, op, ty, pos, af, gd⟩ := o
  unfold orW at h
  split at h
  · exact absurd h.symm hr
  · rename_i hd
    refine s_guard hr hE h (fun h => ?_) (fun e' k1 k3 k4 k2 => ⟨e', σ, ρ, k1, k3, k4, Up.refl ρ, k2, hM⟩)
    refine xs_one (s_op hr hih hE hM hd h) (fun env' w' hg => ?_)
    obtain ⟨v, σ', ρ', val, g1, g2, g3, g4, rfl⟩ := hg
    obtain ⟨e', k1, k3, k4, k2⟩ := puW_inv g1
    exact ⟨e', σ', ρ', k1, k3, k4, g2, (hE.up g2).put g3 k2, g4⟩
end
theorem xs_mono {full : Array Oper} {K K' : Env → World → Prop} (hk : ∀ env w, K env w → K' env w) : ∀ {l : List Oper} {env : Env} {w : World}, xs Tryz.prog isI isS [] Eng.noH full K l env w → xs Tryz.prog isI isS [] Eng.noH full K' l env w
  | [], _, _, h => hk _ _ h
  | _ :: _, _, _, ⟨g, hg, h1, h2⟩ => ⟨g, hg, fun hh => ⟨(h1 hh).1, acts_mono trivial (fun _ _ _ hs => xs_mono hk hs) (h1 hh).2⟩, fun hh => xs_mono hk (h2 hh)⟩
/-- A whole region. -/
theorem s_reg {w0 : Fm} {m : Nat} {ih : Cl} {res : Rs} (hr : res ≠ .no) (hih : CallS w0 ih) {full : List Oper} {c : Kr} : ∀ {l : List Oper} {e : En} {σ : Mem} {ρ : Pl} {env : Env} {w : World}, ER m ρ e env → MR w0 ρ σ w → (regW m full l).f ih e σ c = res → xs Tryz.prog isI isS [] Eng.noH full.toArray (Then w0 m ρ e.hs e.ms c res) l env w
  | [], e, σ, ρ, env, w, hE, hM, h => ⟨e, σ, ρ, h, rfl, rfl, Up.refl ρ, hE, hM⟩
  | o :: l, e, σ, ρ, env, w, hE, hM, h => by
    have h' : (orW m full o).f ih e σ (fun e σ => (regW m full l).f ih e σ c) = res := h
    refine xs_one (s_or hr hih hE hM h') (fun env' w' hg => ?_)
    obtain ⟨e', σ', ρ', g1, g5, g6, g2, g3, g4⟩ := hg
    have := s_reg hr hih (l := l) g3 g4 g1
    refine xs_mono (fun env'' w'' hh => ?_) this
    obtain ⟨e2, σ2, ρ2, k1, k5, k6, k2, k3, k4⟩ := hh
    exact ⟨e2, σ2, ρ2, k1, k5.trans g5, k6.trans g6, g2.trans k2, k3, k4⟩
end Rn
end Eng
end Go.Proofs.YtalnkjpgnkfedaaGreatDoor
