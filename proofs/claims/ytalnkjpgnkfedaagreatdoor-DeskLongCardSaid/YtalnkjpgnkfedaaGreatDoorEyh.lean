/-
  Code, functions, calls.
-/
import Derived.Test.YtalnkjpgnkfedaaGreatDoorEyl
namespace Go.Proofs.YtalnkjpgnkfedaaGreatDoor
open Go.RowKit
namespace Eng
namespace Rn
/-- What the slots and the world are, seen from before. -/
def St (w0 : Fm) (N m : Nat) (ρ : Pl) (e : En) (σ : Mem) (a : Act) (w : World) : Prop := ∃ ρ' env, Up ρ ρ' ∧ ER m ρ' e env ∧ MR w0 ρ' σ w ∧ Fits N env a
theorem St.up {N m : Nat} {ρ ρ' : Pl} {e : En} {σ : Mem} {a : Act} {w0 : Fm} {w : World} (h : St w0 N m ρ' e σ a w) (hu : Up ρ ρ') : St w0 N m ρ e σ a w := by
  obtain ⟨r, env, h1, h2⟩ := h
  exact ⟨r, env, hu.trans h1, h2⟩
def exM : Ex → Exit → Prop
  | .nrm, .normal => True
  | .ext n, .exit k => n = k
  | .gto n, .goto k => n = k
  | .ret, .ret => True
  | _, _ => False
def Post (w0 : Fm) (N m : Nat) (ρ : Pl) (res : Rs) : Exit → Act → World → Prop := fun ex a w => ∃ x e σ, res = .mk x e σ ∧ exM x ex ∧ St w0 N m ρ e σ a w
theorem frOK_inv {hs : List Nat} {ops : Array Oper} {A : Array Nat} {f : Nat} {x : Fr0} (h : frOK hs ops A f = some x) : ∃ d op ty pos af pre post opre opost, ops[f]? = some ⟨some d, op, ty, pos, af, none⟩ ∧ isMk op = true ∧ readsT op d = false ∧ freeB hs ops A f post (List.range ops.size) pre = true ∧ opsAt ops.toList (pre.map Prod.fst) = some opre ∧ opsAt ops.toList post = some opost ∧ farF d op (opre.zip (pre.map Prod.snd)) = true ∧ x = ⟨hs, opre.zip (pre.map Prod.snd), d, d, ⟨some d, op, ty, pos, af, none⟩, opost⟩ := by
  unfold frOK at h
  split at h
  · rename_i d op ty pos af hof
    split at h
    · rename_i pre post hm hp
      rw [Bool.and_eq_true, Bool.not_eq_true'] at hm
      split at h
      · rename_i opre opost h1 h2 h3
        split at h
        · rename_i h4
          exact ⟨d, op, ty, pos, af, pre, post, opre, opost, hof, hm.1, hm.2, h1, h2, h3, h4, (Option.some.inj h).symm⟩
        · cases h
      · cases h
    · cases h
  · cases h
theorem frOG_inv {hs : List Nat} {ops : Array Oper} {A : Array Nat} {f : Nat} {x : Fr0} (h : frOG hs ops A f = some x) : ∃ d d2 op op2 t ty pos af ty2 pos2 af2 g pre post opre opost, ops[f]? = some ⟨some d, op, ty, pos, af, none⟩ ∧ bsT op = some t ∧ readsT op d = false ∧ ops[g]? = some ⟨some d2, op2, ty2, pos2, af2, none⟩ ∧ isCv d t op2 = true ∧ d ≠ d2 ∧ readsT op d2 = false ∧ memb x.hs (some d2) = false ∧ freeG x.hs ops A f g post (List.range ops.size) pre = true ∧ opsAt ops.toList (pre.map Prod.fst) = some opre ∧ opsAt ops.toList post = some opost ∧ farF d op (opre.zip (pre.map Prod.snd)) = true ∧ farG d2 (opre.zip (pre.map Prod.snd)) = true ∧ x = ⟨x.hs, opre.zip (pre.map Prod.snd), d, d2, ⟨some d, op, ty, pos, af, none⟩, ⟨some d2, op2, ty2, pos2, af2, none⟩ :: opost⟩ := by
  unfold frOG at h
  split at h
  · rename_i d op ty pos af hof
    split at h
    · rename_i t hbt hrd
      split at h
      · rename_i g hg
        split at h
        · rename_i d2 op2 ty2 pos2 af2 hog
          split at h
          · rename_i pre g' post hm hp
            rw [Bool.and_eq_true, Bool.and_eq_true, Bool.not_eq_true', Bool.not_eq_true'] at hm
            split at h
            · rename_i opre opost h1 h2 h3
              rw [Bool.and_eq_true, Bool.and_eq_true, Bool.not_eq_true'] at h1
              split at h
              · rename_i h4
                rw [Bool.and_eq_true] at h4
                have h5 := (Option.some.inj h).symm
                subst h5
                exact ⟨d, d2, op, op2, t, ty, pos, af, ty2, pos2, af2, g, pre, post, opre, opost, hof, hbt, hrd, hog, hm.1.1, (fun e => by subst e; rw [Nat.beq_refl] at hm; cases hm.1.2), hm.2, h1.1.2, h1.2, h2, h3, h4.1, h4.2, rfl⟩
              · cases h
            · cases h
          · cases h
        · cases h
      · cases h
    · cases h
  · cases h
theorem cutR_freg {ops : Array Oper} {x : Fr0} : ∀ {l : List Nat}, cutR ops l ≠ .freg x
  | [], h => by cases h
  | q :: l, h => by
    have h' : cN q (fun k => (match seqOK2 isI isS (ldK ops k) k ops (Region.before ops) with
      | true => Rk.held k
      | false => cutR ops l : Rk)) = Rk.freg x := h
    rw [cN_eq] at h'
    split at h'
    · cases h'
    · exact cutR_freg h'
theorem cutR_free {ops : Array Oper} {x : Fr0} : ∀ {l : List Nat}, cutR ops l ≠ .free x
  | [], h => by cases h
  | q :: l, h => by
    have h' : cN q (fun k => (match seqOK2 isI isS (ldK ops k) k ops (Region.before ops) with
      | true => Rk.held k
      | false => cutR ops l : Rk)) = Rk.free x := h
    rw [cN_eq] at h'
    split at h'
    · cases h'
    · exact cutR_free h'
theorem findSome_mem {α β : Type} {f : α → Option β} {b : β} : ∀ {l : List α}, l.findSome? f = some b → ∃ a, f a = some b
  | [], h => by cases h
  | a :: l, h => by
    rw [List.findSome?_cons] at h
    split at h
    · rename_i b' hb
      exact ⟨a, by rw [hb]; exact h⟩
    · exact findSome_mem h
theorem zip_fst {α β : Type} : ∀ {l : List α} {m : List β}, l.length = m.length → (l.zip m).map Prod.fst = l
  | [], _, _ => rfl
  | _ :: _, [], h => by cases h
  | a :: l, b :: m, h => by rw [List.zip_cons_cons, List.map_cons, zip_fst (by simpa using h)]
theorem zip_snd {α β : Type} : ∀ {l : List α} {m : List β}, l.length = m.length → (l.zip m).map Prod.snd = m
  | [], [], _ => rfl
  | [], _ :: _, h => by cases h
  | _ :: _, [], h => by cases h
  | a :: l, b :: m, h => by rw [List.zip_cons_cons, List.map_cons, zip_snd (by simpa using h)]
theorem pick_cut {z y : Rk} {q : Bool} {g f : Option Fr0} (hy : (match z with
  | .bad => match q with
    | true => match g with
      | some x => Rk.freg x
      | none => match f with
        | some x => Rk.free x
        | none => .bad
    | false => .bad
  | x => x) = y) (h1 : ∀ x, y ≠ .free x) (h2 : y ≠ .bad) (h3 : ∀ x, y ≠ .freg x) : z = y := by
  cases z with
  | bad =>
    cases q with
    | true =>
      cases g with
      | some x => exact absurd hy.symm (h3 x)
      | none =>
        cases f with
        | some x => exact absurd hy.symm (h1 x)
        | none => exact absurd hy.symm h2
    | false => exact absurd hy.symm h2
  | text => exact hy
  | held k => exact hy
  | free x => exact hy
  | freg x => exact hy
section
variable {w0 : Fm} {N m : Nat} {ih : Cl} {res : Rs} (hr : res ≠ .no)
include hr
theorem sqK_inv {g : En → Mem → Rs} {r : Rs} (h : sqK g r = res) : ∃ x e σ, r = .mk x e σ ∧ ((x = .nrm ∧ g e σ = res) ∨ (x ≠ .nrm ∧ res = .mk x e σ)) := by
  cases r with
  | no => exact absurd h.symm hr
  | mk x e σ =>
    refine ⟨x, e, σ, rfl, ?_⟩
    cases x with
    | nrm => exact .inl ⟨rfl, h⟩
    | ext n => exact .inr ⟨fun hh => (by cases hh), h.symm⟩
    | gto n => exact .inr ⟨fun hh => (by cases hh), h.symm⟩
    | ret => exact .inr ⟨fun hh => (by cases hh), h.symm⟩
    | val v => exact absurd h.symm hr
omit hr in
theorem en_nil {ρ : Pl} {e : En} {env : Env} (hE : ER m ρ e env) : ER m ρ ⟨e.vs, [], [], []⟩ env := fun t x hx => by
  refine hE t x ?_
  unfold elk at hx ⊢
  cases hk : kept m t with
  | true => rw [hk] at hx; exact hx
  | false =>
    rw [hk] at hx
    have hx : alook t [] = some x := hx
    cases hx
theorem reg_run (hih : CallS w0 ih) {id : Nat} {ops : Array Oper} {drawn : Bool} {ρ : Pl} {e : En} {σ : Mem} {a : Act} {w : World} (hok : regOK N drawn ops = .text) (h : (regW m ops.toList ops.toList).f ih ⟨e.vs, [], [], []⟩ σ (fun e σ => .mk .nrm e σ) = res) (hS : St w0 N m ρ e σ a w) : (Code.region id ops drawn).wp Tryz.prog (Post w0 N m ρ res) a w := by
  obtain ⟨ρ1, env, hu, hE, hM, hf⟩ := hS
  have hE' := en_nil hE
  have hQ : ∀ a' w', (∃ env', Fits N env' a' ∧ Then w0 m ρ1 [] [] (fun e σ => .mk .nrm e σ) res env' w') → Post w0 N m ρ res .normal a' w' := fun a' w' hh => by
    obtain ⟨env', h1, e', σ', ρ', h2, _, _, h3, h4, h5⟩ := hh
    exact ⟨.nrm, e', σ', h2.symm, trivial, ρ', env', hu.trans h3, h4, h5, h1⟩
  unfold regOK at hok
  split at hok
  · cases hok
  · rename_i hd
    obtain ⟨hs, hd⟩ := dstOK_spec hd
    split at hok
    · refine wp_region_ss' (isI := isI) (isS := isS) (hs := []) (H := Eng.noH) trivial hQ ?_
      have hx := s_reg hr hih (full := ops.toList) hE' hM h
      have := ss_of_xs (N := N) (full := ops) hs hd ops.toList 0 env a w (by simp) trivial hf (by simpa using hx)
      simpa [List.range_eq_range'] using this
    · split at hok
      · rename_i hsq
        refine wp_region_ss (isI := isI) (isS := isS) (hs := []) (H := Eng.noH) mixed trivial hsq hQ ?_
        have hx := s_reg hr hih (full := ops.toList) hE' (hM.ext (Fr.drew _ w)) h
        have := ss_of_xs (N := N) (full := ops) hs hd ops.toList 0 env a w.drew (by simp) trivial hf (by simpa using hx)
        simpa [List.range_eq_range'] using this
      · exact absurd (pick_cut hok (fun _ hh => by cases hh) (fun hh => by cases hh) (fun _ hh => by cases hh)) cutR_text
theorem reg_runH (hih : CallS w0 ih) {id : Nat} {l : List Oper} {drawn : Bool} {ρ : Pl} {e : En} {σ : Mem} {a : Act} {w : World} {k : Nat} (hok : regOK N drawn l.toArray = .held k) (h : (regH m (ldK l.toArray k) l (l.take k)).f ih ⟨e.vs, [], [], []⟩ σ (finH m ih l (l.drop k) σ) = res) (hS : St w0 N m ρ e σ a w) : (Code.region id l.toArray drawn).wp Tryz.prog (Post w0 N m ρ res) a w := by
  obtain ⟨ρ1, env, hu, hE, hM, hf⟩ := hS
  have hE' := en_nil hE
  have hM' := hM.ext (Fr.drew _ w)
  obtain ⟨ef, σf, hres, _, _, hho⟩ := mono_H hr hih hE' hM' h
  unfold regOK at hok
  split at hok
  · cases hok
  · rename_i hd
    split at hok
    · cases hok
    · split at hok
      · cases hok
      · have hsq := cutR_inv (pick_cut hok (fun _ hh => by cases hh) (fun hh => by cases hh) (fun _ hh => by cases hh))
        refine wp_cut (K := Then w0 m ρ1 ef.hs ef.ms fin0 res) k (ldK l.toArray k) (HH ρ1 ef.hs) hd hsq (hold_at hM' (Up.refl ρ1) List.mem_cons_self hho) hf (fun a' env' w' h1 hh => ?_) ?_
        · obtain ⟨e', σ', ρ', h2, _, _, h3, h4, h5⟩ := hh
          exact ⟨.nrm, e', σ', h2.symm, trivial, ρ', env', hu.trans h3, h4, h5, h1⟩
        · refine xs_monoH (fun env' w' hh => ?_) (s_regH hr hih hres hho hM' (full := l) (l2 := l.drop k) (l := l.take k) (Up.refl ρ1) hE' hM' h)
          obtain ⟨e1, σ1, ρ', k1, k2, k3, k4⟩ := hh
          have hx := s_reg hr hih (full := l) k3 k4 k1
          obtain ⟨_, _, e2, σ2, _, q1, q2, q3, _⟩ := xs_someL hx
          have q1 : Rs.mk .nrm e2 σ2 = res := q1
          rw [hres] at q1
          injection q1 with _ q4 _
          refine xs_mono (fun env'' w'' hh => ?_) hx
          obtain ⟨e3, σ3, ρ3, r1, r2, r3, r4, r5, r6⟩ := hh
          exact ⟨e3, σ3, ρ3, r1, by rw [r2, ← q2, q4], by rw [r3, ← q3, q4], k2.trans r4, r5, r6⟩
theorem reg_runF (hih : ∀ F, CallS F ih) {id : Nat} {l : List Oper} {drawn : Bool} {ρ : Pl} {e : En} {σ : Mem} {a : Act} {w : World} {x : Fr0} (hok : regOK N drawn l.toArray = .free x) (h : (regF m x.hs l x.d x.d2 x.pre).f ih ⟨e.vs, [], [], []⟩ σ (fun e' σ' => (orH m x.hs l x.f).f ih e' σ' fun e' σ' => (regH m x.hs l x.post).f ih e' σ' (finH m ih l [] σ)) = res) (hS : St w0 N m ρ e σ a w) : (Code.region id l.toArray drawn).wp Tryz.prog (Post w0 N m ρ res) a w := by
  obtain ⟨ρ1, env, hu, hE, hM, hf⟩ := hS
  have hE' := en_nil hE
  have hM' := hM.ext (Fr.drew _ w)
  -- how it ends
  obtain ⟨_, _, ea, σa, ρa, a1, _, a3, a4, _⟩ := dryF hr (hih w0) hE' hM' h
  obtain ⟨_, _, eb, σb, ρb, b1, _, b3, b4, _⟩ := dryH (l := [x.f]) hr (hih w0) a3 a4 a1
  obtain ⟨_, _, ef, σf, ρf, c1, _, c3, c4, _⟩ := dryH hr (hih w0) b3 b4 b1
  obtain ⟨c5, hho⟩ := ckA_inv hr (show ckA σ ef.ms ef.hs ((regW m l []).f ih ef σf fin0) = res from c1)
  have hres : res = .mk .nrm ef σf := c5.symm
  unfold regOK at hok
  split at hok
  · cases hok
  · rename_i hd
    split at hok
    · cases hok
    · split at hok
      · cases hok
      · split at hok
        · split at hok
          · rename_i hanc
            split at hok
            · cases hok
            split at hok
            · rename_i x' hfs
              injection hok with hok
              subst hok
              obtain ⟨f, hfr⟩ := findSome_mem hfs
              obtain ⟨d, op, ty, pos, af, pre, post, opre, opost, h1, h2, h3, h4, h5, h6, h7, h8⟩ := frOK_inv hfr
              subst h8
              have hlen : opre.length = (pre.map Prod.snd).length := by
                have := congrArg List.length (opsAt_map h5)
                simpa using this.symm
              refine wp_free (K := fun env' w' => ∃ e' σ' ρ', res = .mk .nrm e' σ' ∧ Up ρ1 ρ' ∧ ER m ρ' e' env' ∧ MR w0 ρ' σ' w') (ldK l.toArray l.toArray.size) (HH ρ1 ef.hs) hd hanc (hold_at hM' (Up.refl ρ1) List.mem_cons_self hho) hf (fun a' env' w' q1 hh => ?_) (fun hR => ?_)
              · obtain ⟨e', σ', ρ', g1, g2, g3, g4⟩ := hh
                exact ⟨.nrm, e', σ', g1, trivial, ρ', env', hu.trans g2, g3, g4, q1⟩
              · refine free_run hR h1 (opsAt_map h6) h4 (opre := opre.zip (pre.map Prod.snd)) (zip_snd hlen).symm (by rw [zip_fst hlen]; exact opsAt_map h5) ?_
                refine run_xf hr hih (fun F => Mono.fin hr (hih F) hres) hho hM' h2 h3 (fun env' w' e1 σ1 ρ' g1 g2 g3 g4 => ?_) h7 (Up.refl ρ1) hE' hM' h
                obtain ⟨g5, _⟩ := ckA_inv hr (show ckA σ e1.ms e1.hs ((regW m l []).f ih e1 σ1 fin0) = res from g1)
                exact ⟨e1, σ1, ρ', g5.symm, g2, g3, g4⟩
            · cases hok
          · cases hok
        · exact absurd hok cutR_free
theorem reg_runG (hih : ∀ F, CallS F ih) {id : Nat} {l : List Oper} {drawn : Bool} {ρ : Pl} {e : En} {σ : Mem} {a : Act} {w : World} {x : Fr0} (hok : regOK N drawn l.toArray = .freg x) (h : (regF m x.hs l x.d x.d2 x.pre).f ih ⟨e.vs, [], [], []⟩ σ (fun e' σ' => (orH m x.hs l x.f).f ih e' σ' fun e' σ' => (regH m x.hs l x.post).f ih e' σ' (finH m ih l [] σ)) = res) (hS : St w0 N m ρ e σ a w) : (Code.region id l.toArray drawn).wp Tryz.prog (Post w0 N m ρ res) a w := by
  obtain ⟨ρ1, env, hu, hE, hM, hf⟩ := hS
  have hE' := en_nil hE
  have hM' := hM.ext (Fr.drew _ w)
  -- how it ends
  obtain ⟨_, _, ea, σa, ρa, a1, _, a3, a4, _⟩ := dryF hr (hih w0) hE' hM' h
  obtain ⟨_, _, eb, σb, ρb, b1, _, b3, b4, _⟩ := dryH (l := [x.f]) hr (hih w0) a3 a4 a1
  obtain ⟨_, _, ef, σf, ρf, c1, _, c3, c4, _⟩ := dryH hr (hih w0) b3 b4 b1
  obtain ⟨c5, hho⟩ := ckA_inv hr (show ckA σ ef.ms ef.hs ((regW m l []).f ih ef σf fin0) = res from c1)
  have hres : res = .mk .nrm ef σf := c5.symm
  unfold regOK at hok
  split at hok
  · cases hok
  · rename_i hd
    split at hok
    · cases hok
    · split at hok
      · cases hok
      · split at hok
        · split at hok
          · rename_i hanc
            split at hok
            · rename_i x' hfs
              injection hok with hok
              subst hok
              obtain ⟨f, hfr⟩ := findSome_mem hfs
              obtain ⟨d, d2, op, op2, t, ty, pos, af, ty2, pos2, af2, g, pre, post, opre, opost, h1, h2, h3, y1, y2, y3, y4, y5, h4, h5, h6, h7, h8, h9⟩ := frOG_inv hfr
              obtain ⟨nn, ps, rfl, hm⟩ := bsT_inv h2
              obtain ⟨u, el, rfl, z1, z2, z3, z4⟩ := isCv_inv y2
              obtain ⟨xhs, xpre, xd, xd2, xf, xpost⟩ := x'
              injection h9 with _ h10 h11 h12 h13 h14
              subst h10; subst h11; subst h12; subst h13; subst h14
              have hlen : opre.length = (pre.map Prod.snd).length := by
                have := congrArg List.length (opsAt_map h5)
                simpa using this.symm
              refine wp_free (K := fun env' w' => ∃ e' σ' ρ', res = .mk .nrm e' σ' ∧ Up ρ1 ρ' ∧ ER m ρ' e' env' ∧ MR w0 ρ' σ' w') xhs (HH ρ1 ef.hs) hd hanc (hold_at hM' (Up.refl ρ1) List.mem_cons_self hho) hf (fun a' env' w' q1 hh => ?_) (fun hR => ?_)
              · obtain ⟨e', σ', ρ', g1, g2, g3, g4⟩ := hh
                exact ⟨.nrm, e', σ', g1, trivial, ρ', env', hu.trans g2, g3, g4, q1⟩
              · refine freg_run hR h1 y1 (opsAt_map h6) h4 (opre := opre.zip (pre.map Prod.snd)) (zip_snd hlen).symm (by rw [zip_fst hlen]; exact opsAt_map h5) ?_
                refine run_xf2 hr hih (fun F => Mono.fin hr (hih F) hres) hho hM' hm z3 z1 z2 z4 y5 h3 y4 y3 (fun env' w' e1 σ1 ρ' g1 g2 g3 g4 => ?_) h7 (farG_spec h8) (Up.refl ρ1) hE' hM' h
                obtain ⟨g5, _⟩ := ckA_inv hr (show ckA σ e1.ms e1.hs ((regW m l []).f ih e1 σ1 fin0) = res from g1)
                exact ⟨e1, σ1, ρ', g5.symm, g2, g3, g4⟩
            · split at hok
              · cases hok
              · cases hok
          · cases hok
        · exact absurd hok cutR_freg
end
theorem exM_other {x : Ex} {ex : Exit} (h : exM x ex) (hx : x ≠ .nrm) (Q : Exit → Act → World → Prop) (K : Act → World → Prop) (a : Act) (w : World) (hq : Q ex a w) : Exit.then K Q ex a w := by
  cases ex with
  | normal => cases x <;> first | exact absurd rfl hx | cases h
  | _ => exact hq
theorem post_mk {N m : Nat} {ρ : Pl} {res : Rs} {x : Ex} {e : En} {σ : Mem} {ex : Exit} {a : Act} {w0 : Fm} {w : World} (h : Post w0 N m ρ (.mk x e σ) ex a w) (hres : res = .mk x e σ) : Post w0 N m ρ res ex a w := by rw [hres]; exact h
/-- Code. -/
theorem cod_run {w0 : Fm} {N m : Nat} {ih : Cl} (hih : ∀ F, CallS F ih) : ∀ (d : Nat) (c : Code) (n : Nat) (e : En) (σ : Mem) (res : Rs) (ρ : Pl) (a : Act) (w : World), res ≠ .no → (codW N m d c).f ih n e σ = res → St w0 N m ρ e σ a w → c.wp Tryz.prog (Post w0 N m ρ res) a w
  | 0, c, n, e, σ, res, ρ, a, w, hr, h, hS => absurd h.symm hr
  | d + 1, c, n, e, σ, res, ρ, a, w, hr, h, hS => by
    have IH := cod_run (w0 := w0) (N := N) (m := m) hih d
    cases c with
    | skip => exact wp_skip ⟨.nrm, e, σ, h.symm, trivial, hS⟩
    | label l => exact wp_label ⟨.nrm, e, σ, h.symm, trivial, hS⟩
    | exit id => exact wp_exit ⟨.ext id, e, σ, h.symm, rfl, hS⟩
    | goto l => exact wp_goto ⟨.gto l, e, σ, h.symm, rfl, hS⟩
    | ret => exact wp_ret ⟨.ret, e, σ, h.symm, trivial, hS⟩
    | region id ops drawn =>
      have h' : (match regOK N drawn ops with
        | .text => (⟨fun ih _ e σ => (regW m ops.toList ops.toList).f ih ⟨e.vs, [], [], []⟩ σ fun e σ => .mk .nrm e σ⟩ : Wc)
        | .held k => ⟨fun ih _ e σ => (regH m (ldK ops k) ops.toList (ops.toList.take k)).f ih ⟨e.vs, [], [], []⟩ σ fun e' σ' => ckA σ e'.ms e'.hs ((regW m ops.toList (ops.toList.drop k)).f ih e' σ' fun e σ => .mk .nrm e σ)⟩
        | .free x => ⟨fun ih _ e σ => (regF m x.hs ops.toList x.d x.d2 x.pre).f ih ⟨e.vs, [], [], []⟩ σ fun e' σ' => (orH m x.hs ops.toList x.f).f ih e' σ' fun e' σ' => (regH m x.hs ops.toList x.post).f ih e' σ' fun e' σ' => ckA σ e'.ms e'.hs (.mk .nrm e' σ')⟩
        | .freg x => ⟨fun ih _ e σ => (regF m x.hs ops.toList x.d x.d2 x.pre).f ih ⟨e.vs, [], [], []⟩ σ fun e' σ' => (orH m x.hs ops.toList x.f).f ih e' σ' fun e' σ' => (regH m x.hs ops.toList x.post).f ih e' σ' fun e' σ' => ckA σ e'.ms e'.hs (.mk .nrm e' σ')⟩
        | .bad => noC).f ih n e σ = res := h
      split at h'
      · rename_i hok
        exact reg_run hr (hih w0) hok h' hS
      · rename_i hok
        exact reg_runH (l := ops.toList) hr (hih w0) hok h' hS
      · rename_i hok
        exact reg_runF (l := ops.toList) hr hih hok h' hS
      · rename_i hok
        exact reg_runG (l := ops.toList) hr hih hok h' hS
      · exact absurd h'.symm hr
    | seq x y =>
      have h' : sqK ((codW N m d y).f ih n) ((codW N m d x).f ih n e σ) = res := h
      obtain ⟨x1, e1, σ1, h1, h2⟩ := sqK_inv hr h'
      refine wp_seq (wp_mono (IH x n e σ _ ρ a w (by rw [h1]; exact fun hh => by cases hh) rfl hS) ?_)
      rintro ex a' w' ⟨x2, e2, σ2, k1, k2, k3⟩
      rw [h1] at k1
      injection k1 with q1 q2 q3
      subst q1; subst q2; subst q3
      rcases h2 with ⟨rfl, h2⟩ | ⟨hx, h2⟩
      · cases ex with
        | normal => exact IH y n e1 σ1 res ρ a' w' hr h2 k3
        | _ => cases k2
      · exact exM_other k2 hx _ _ _ _ ⟨x1, e1, σ1, h2, k2, k3⟩
    | cond q x y =>
      have h' : (gtW m q).f e (fun q => onB q ((codW N m d x).f ih n e σ) ((codW N m d y).f ih n e σ)) = res := h
      have hS' := hS
      obtain ⟨ρ1, env, hu, hE, hM, hf⟩ := hS'
      obtain ⟨b, v, h1, h2, h3⟩ := gtW_inv hr hE h'
      rcases onB_inv hr h3 with ⟨rfl, h4⟩ | ⟨rfl, h4⟩
      · have h2 : v = .bool true := h2
        subst h2
        exact wp_cond_true (hf.eval h1) (IH x n e σ res ρ a w hr h4 hS)
      · have h2 : v = .bool false := h2
        subst h2
        exact wp_cond_false (hf.eval h1) (IH y n e σ res ρ a w hr h4 hS)
    | block id b =>
      have h' : blK id ((codW N m d b).f ih n e σ) = res := h
      generalize hr0 : (codW N m d b).f ih n e σ = r0 at h'
      have hr0n : r0 ≠ .no := fun hh => by rw [hh] at h'; exact hr h'.symm
      refine wp_block (wp_mono (IH b n e σ r0 ρ a w hr0n hr0 hS) ?_)
      rintro ex a' w' ⟨x2, e2, σ2, k1, k2, k3⟩
      subst k1
      cases x2 with
      | nrm =>
        cases ex with
        | normal => exact ⟨.nrm, e2, σ2, h'.symm, trivial, k3⟩
        | _ => cases k2
      | ext j =>
        cases ex with
        | exit k =>
          have k2 : j = k := k2
          subst k2
          have h'' : ifK (Nat.beq j id) (.mk .nrm e2 σ2) (.mk (.ext j) e2 σ2) = res := h'
          rw [ifK_eq] at h''
          show (if j = id then _ else _)
          split at h''
          · rename_i hj
            rw [if_pos (Nat.eq_of_beq_eq_true hj)]
            exact ⟨.nrm, e2, σ2, h''.symm, trivial, k3⟩
          · rename_i hj
            rw [if_neg (fun hh => hj (by rw [hh]; exact Nat.beq_refl id))]
            exact ⟨.ext j, e2, σ2, h''.symm, rfl, k3⟩
        | _ => cases k2
      | gto j =>
        cases ex with
        | goto k => exact ⟨.gto j, e2, σ2, h'.symm, k2, k3⟩
        | _ => cases k2
      | ret =>
        cases ex with
        | ret => exact ⟨.ret, e2, σ2, h'.symm, trivial, k3⟩
        | _ => cases k2
      | val v => cases k2
    | loop b =>
      have h' : lpK ((codW N m d b).f ih n) n e σ = res := h
      refine wp_loop_ghost (fun k a w => ∃ e σ, lpK ((codW N m d b).f ih n) k e σ = res ∧ St w0 N m ρ e σ a w) n ⟨e, σ, h', hS⟩ ?_
      rintro k a1 w1 ⟨e1, σ1, h1, hS1⟩
      cases k with
      | zero => exact absurd h1.symm hr
      | succ k =>
        have h1' : sqK (lpK ((codW N m d b).f ih n) k) ((codW N m d b).f ih n e1 σ1) = res := h1
        obtain ⟨x2, e2, σ2, h2, h3⟩ := sqK_inv hr h1'
        refine wp_mono (IH b n e1 σ1 _ ρ a1 w1 (by rw [h2]; exact fun hh => by cases hh) rfl hS1) ?_
        rintro ex a' w' ⟨x3, e3, σ3, k1, k2, k3⟩
        rw [h2] at k1
        injection k1 with q1 q2 q3
        subst q1; subst q2; subst q3
        rcases h3 with ⟨rfl, h3⟩ | ⟨hx, h3⟩
        · cases ex with
          | normal => exact ⟨k, Nat.lt_succ_self k, e2, σ2, h3, k3⟩
          | _ => cases k2
        · exact exM_other k2 hx _ _ _ _ ⟨x2, e2, σ2, h3, k2, k3⟩
    | scope b =>
      have h' : scpK (fun l => (lbW (codW N m d) b l).f ih n) n ((codW N m d b).f ih n e σ) = res := h
      -- what a run that has ended comes to
      have fin : ∀ (k : Nat) (x2 : Ex) (e2 : En) (σ2 : Mem), scpK (fun l => (lbW (codW N m d) b l).f ih n) k (.mk x2 e2 σ2) = res → (∃ l k', x2 = .gto l ∧ k = k' + 1 ∧ scpK (fun l => (lbW (codW N m d) b l).f ih n) k' ((lbW (codW N m d) b l).f ih n e2 σ2) = res) ∨ (res = .mk x2 e2 σ2 ∧ ∀ l, x2 ≠ .gto l) := fun k x2 e2 σ2 hh => by
        cases k with
        | zero => exact absurd hh.symm hr
        | succ k =>
          cases x2 with
          | gto l => exact .inl ⟨l, k, rfl, rfl, hh⟩
          | nrm => exact .inr ⟨hh.symm, fun l hl => by cases hl⟩
          | ext j => exact .inr ⟨hh.symm, fun l hl => by cases hl⟩
          | ret => exact .inr ⟨hh.symm, fun l hl => by cases hl⟩
          | val v => exact absurd hh.symm hr
      have hno : ∀ k, scpK (fun l => (lbW (codW N m d) b l).f ih n) k .no ≠ res := fun k hh => by
        cases k <;> exact hr hh.symm
      have hlb : ∀ l k e2 σ2, scpK (fun l => (lbW (codW N m d) b l).f ih n) k ((lbW (codW N m d) b l).f ih n e2 σ2) = res → ∃ rest, findLabel b l = some rest ∧ (lbW (codW N m d) b l).f ih n e2 σ2 = (codW N m d rest).f ih n e2 σ2 ∧ (codW N m d rest).f ih n e2 σ2 ≠ .no := fun l k e2 σ2 hh => by
        cases hf : findLabel b l with
        | none =>
          have : (lbW (codW N m d) b l).f ih n e2 σ2 = .no := by
            unfold lbW
            rw [hf]
          rw [this] at hh
          exact absurd hh (hno k)
        | some rest =>
          have he : (lbW (codW N m d) b l).f ih n e2 σ2 = (codW N m d rest).f ih n e2 σ2 := by
            unfold lbW
            rw [hf]
          refine ⟨rest, rfl, he, fun h0 => ?_⟩
          rw [he, h0] at hh
          exact hno k hh
      refine wp_scope_labels (fun l k a w => ∃ e2 σ2, scpK (fun l => (lbW (codW N m d) b l).f ih n) k ((lbW (codW N m d) b l).f ih n e2 σ2) = res ∧ St w0 N m ρ e2 σ2 a w) ?_ ?_ ?_
      · rintro l k a1 w1 ⟨e2, σ2, h1, _⟩
        obtain ⟨rest, hf, _⟩ := hlb l k e2 σ2 h1
        exact ⟨rest, hf⟩
      · have hr0n : (codW N m d b).f ih n e σ ≠ .no := fun hh => by rw [hh] at h'; exact hno n h'
        refine wp_mono (IH b n e σ _ ρ a w hr0n rfl hS) ?_
        rintro ex a' w' ⟨x2, e2, σ2, k1, k2, k3⟩
        rw [k1] at h'
        rcases fin n x2 e2 σ2 h' with ⟨l, k', rfl, _, h2⟩ | ⟨h2, h3⟩
        · cases ex with
          | goto j =>
            have k2 : l = j := k2
            subst k2
            exact ⟨k', e2, σ2, h2, k3⟩
          | _ => cases k2
        · cases ex with
          | goto j => cases x2 <;> first | exact absurd rfl (h3 _) | cases k2
          | _ => exact ⟨x2, e2, σ2, h2, k2, k3⟩
      · rintro k l rest a1 w1 hf ⟨e1, σ1, h1, hS1⟩
        obtain ⟨rest', hf', he, hn0⟩ := hlb l k e1 σ1 h1
        rw [hf] at hf'
        obtain rfl := Option.some.inj hf'
        rw [he] at h1
        refine wp_mono (IH rest n e1 σ1 _ ρ a1 w1 hn0 rfl hS1) ?_
        rintro ex a' w' ⟨x2, e2, σ2, k1, k2, k3⟩
        rw [k1] at h1
        rcases fin k x2 e2 σ2 h1 with ⟨l', k', rfl, hk, h2⟩ | ⟨h2, h3⟩
        · cases ex with
          | goto j =>
            have k2 : l' = j := k2
            subst k2
            exact ⟨k', by omega, e2, σ2, h2, k3⟩
          | _ => cases k2
        · cases ex with
          | goto j => cases x2 <;> first | exact absurd rfl (h3 _) | cases k2
          | _ => exact ⟨x2, e2, σ2, h2, k2, k3⟩
    | _ => exact absurd h.symm hr
end Rn
end Eng
end Go.Proofs.YtalnkjpgnkfedaaGreatDoor
