/-
  The rest of a function run by the executor, from the middle of a walk.
-/
import Derived.Test.YtalnkjpgnkfedaaGreatDoorEob
namespace Go.Proofs.YtalnkjpgnkfedaaGreatDoor
open Go.RowKit
namespace Eng
namespace Rn
/-- It goes back, and slot t is true. -/
noncomputable def retB (m t : Nat) (r : Rs) : Bool := Rs.rec (motive := fun _ => Bool) false (fun x e σ => Ex.rec (motive := fun _ => Bool) false (fun _ => false) (fun _ => false) (ok ((gtT m t).f e fun v => .mk (.val v) e σ)) (fun _ => false) x) r
theorem retB_inv {m t : Nat} {r : Rs} (h : retB m t r = true) : ∃ e σ, r = .mk .ret e σ ∧ elk m e t = some (.v (.b true)) := by
  cases r with
  | no => cases h
  | mk x e σ =>
    cases x with
    | ret =>
      have h : ok ((gtT m t).f e fun v => .mk (.val v) e σ) = true := h
      generalize hq : (gtT m t).f e (fun v => .mk (.val v) e σ) = q at h
      have hn : q ≠ .no := fun hh => by rw [hh] at h; cases h
      obtain ⟨v, h1, h2⟩ := gtT_inv hn hq
      refine ⟨e, σ, rfl, ?_⟩
      rw [← h2] at h
      cases v with
      | v x =>
        cases x with
        | b q => have h : q = true := h; subst h; exact h1
        | _ => cases h
      | _ => cases h
    | _ => cases h
theorem ER.z {m : Nat} {ρ : Pl} {env : Env} : ER m ρ ⟨[], [], [], []⟩ env := fun t a ha => by
  unfold elk at ha
  cases hk : kept m t <;> (rw [hk] at ha; have ha : alook t [] = some a := ha; cases ha)
theorem ER.c {m : Nat} {ρ : Pl} {env : Env} {t : Nat} {a : AV} {v : Value} {l : AEnv} (h : ER m ρ ⟨l, [], [], []⟩ env) (hv : look env t = some v) (ha : AR ρ a v) : ER m ρ ⟨(t, a) :: l, [], [], []⟩ env := fun t' a' h' => by
  unfold elk at h'
  cases hk : kept m t' with
  | true =>
    rw [hk] at h'
    have q1 : alook t' ((t, a) :: l) = some a' := h'
    clear h'
    simp only [alook] at q1
    split at q1
    · rename_i ht
      subst ht
      have q2 := Option.some.inj q1
      subst q2
      exact ⟨v, hv, ha⟩
    · refine h t' a' ?_
      unfold elk
      rw [hk]; exact q1
  | false =>
    rw [hk] at h'
    have q1 : alook t' [] = some a' := h'
    cases q1
/-- Nothing is known of the memory. -/
theorem MR.z (w : World) (hT : TabI noneB w) : MR ⟨noneB, w, hT⟩ [] ⟨0, .nil, []⟩ w where
  len := rfl
  blk := fun id ob h1 _ => by
    have : oget ⟨0, .nil, []⟩ id = none := tget_nil _ _
    rw [this] at h1; cases h1
  old := Fr.refl _ _
  far := fun id o p _ hp => by cases hp
  pre := fun id ob h1 => by
    have : oget ⟨0, .nil, []⟩ id = none := tget_nil _ _
    rw [this] at h1; cases h1
  apart := fun id id' o o' p p' _ _ _ hp => by cases hp
  mps := Mps.nil _ _ _
/-- The rest of a walk. -/
theorem t_run {tab : List (Nat × Fe)} (ht : TabOK tab) {N n d m t : Nat} {fn : Func} {R : Value → World → Prop} {k : List It} {env : Env} {w : World} {c : Code} {e : En} {σ : Mem} {ρ : Pl} {w0 : Fm} (hr : fn.results = #[.tmp t]) (h : retB m t ((codW fn.ntmps m d c).f (run tab N) n e σ) = true) (hE : ER m ρ e env) (hM : MR w0 ρ σ w) (hR : ∀ w', Fr w0.S w0.w w' → R (.bool true) w') : T Tryz.prog fn R (.code c :: k) env w := fun a ha => by
  obtain ⟨e1, σ1, h1, h2⟩ := retB_inv h
  refine wp_mono (cod_run (w0 := w0) (N := fn.ntmps) (m := m) (fun F => run_sound ht N F) d c n e σ _ ρ a w (by rw [h1]; exact fun hh => by cases hh) rfl ⟨ρ, env, Up.refl ρ, hE, hM, ha⟩) ?_
  rintro ex a' w' ⟨x2, e2, σ2, k1, k2, ρ', env', k3, k4, k5, k6⟩
  rw [h1] at k1
  injection k1 with q1 q2 q3
  subst q1; subst q2; subst q3
  cases ex with
  | ret =>
    obtain ⟨v, q4, q5⟩ := k4 t _ h2
    have q5 : v = .bool true := q5
    subst q5
    exact sem_ret (show bodyPost Tryz.prog fn (Ret R) .ret a' w' from ⟨k6.1, _, by rw [results_tmp hr, Array.getD_eq_getD_getElem?, k6.2.2 t _ q4]; rfl, _, rfl, hR w' k5.old⟩) k
  | _ => cases k2
/-- A call of a text that gives a text. -/
noncomputable def okT (out : List Nat) (r : Rs) : Bool := Rs.rec (motive := fun _ => Bool) false (fun x _ _ => Ex.rec (motive := fun _ => Bool) false (fun _ => false) (fun _ => false) false (fun v => match v with
  | .v (.s l) => eU l out
  | _ => false) x) r
noncomputable def okB (l : List Nat) : Bool := an (Nat.ble l.length maxLen) (List.rec (motive := fun _ => Bool) true (fun x _ ih => an (Nat.ble x 255) ih) l)
theorem okB_inv {l : List Nat} (h : okB l = true) : (∀ c ∈ l, c < 256) ∧ l.length ≤ maxLen := by
  obtain ⟨h1, h2⟩ := an_inv h
  refine ⟨?_, Nat.le_of_ble_eq_true h1⟩
  clear h1 h
  induction l with
  | nil => intro c hc; cases hc
  | cons x l ih =>
    obtain ⟨h3, h4⟩ := an_inv (show an (Nat.ble x 255) (List.rec (motive := fun _ => Bool) true (fun x _ ih => an (Nat.ble x 255) ih) l) = true from h2)
    intro c hc
    rcases List.mem_cons.1 hc with rfl | hc
    · have := Nat.le_of_ble_eq_true h3; omega
    · exact ih h4 c hc
theorem text_run {tab : List (Nat × Fe)} (ht : TabOK tab) {N f : Nat} {l out : List Nat} (hl : okB l = true) (h : okT out (run tab N f [.v (.s l)] ⟨0, .nil, []⟩) = true) (w : World) (hT : TabI noneB w) : Does Tryz.prog f #[.string (su (uOf l))] w fun r w' => r = .string (su (uOf out)) ∧ Ext w w' := by
  generalize hq : run tab N f [.v (.s l)] ⟨0, .nil, []⟩ = q at h
  cases q with
  | no => cases h
  | mk x e σ =>
    cases x with
    | val v =>
      cases v with
      | v x =>
        cases x with
        | s r =>
          have h : eU r out = true := h
          obtain rfl := eU_inj h
          refine Does.mono (run_sound ht N ⟨noneB, w, hT⟩ f [.v (.s l)] ⟨0, .nil, []⟩ _ e σ [] [.string (su (uOf l))] w hq (.cons ⟨rfl, okB_inv hl⟩ .nil) (MR.z w hT)) fun val w' hh => ?_
          obtain ⟨ρ', _, h1, h2⟩ := hh
          exact ⟨h1.1, h2.old⟩
        | _ => cases h
      | _ => cases h
    | _ => cases h
end Rn
end Eng
end Go.Proofs.YtalnkjpgnkfedaaGreatDoor
