/-
  Functions whose contracts are known, told to the executor as plain functions: rows of whole numbers, May, count, Codes of package huff, the library's Min and Max.
-/
import Derived.Test.YtalnkjpgnkfedaaGreatDoorEyi
import Derived.Test.YtalnkjpgnkfedaaGreatDoorHf
namespace Go.Proofs.YtalnkjpgnkfedaaGreatDoor
open Go.RowKit
namespace Eng
namespace Rn
noncomputable def e0 : En := ⟨[], [], [], []⟩
/-- Whole numbers of a kind that are not negative. -/
noncomputable def nmK (q : IntKind) (l : List SV) (k : List Nat → Rs) : Rs := List.rec (motive := fun _ => (List Nat → Rs) → Rs) (fun k => k []) (fun x _ ih k => onN (.v x) fun q' a => kkK q' q (ih fun r => k (a :: r))) l k
noncomputable def inK (σ : Mem) (x : AV) (k : List Nat → Rs) : Rs := onL x (k []) (fun id z j n => rdK σ id (Nat.mul j z) n fun l => nmK .i64 l k) (fun id z j n _ => rdK σ id (Nat.mul j z) n fun l => nmK .i64 l k) (k []) (fun _ => .no) fun _ _ => .no
noncomputable def on1 (al : List AV) (k : AV → Rs) : Rs := List.rec (motive := fun _ => Rs) .no (fun x r _ => List.rec (motive := fun _ => Rs) (k x) (fun _ _ _ => .no) r) al
noncomputable def bR (σ : Mem) (b : Bool) : Rs := Bool.rec (motive := fun _ => Rs) (.mk (.val (.v (.b false))) e0 σ) (.mk (.val (.v (.b true))) e0 σ) b
noncomputable def lnN (l : List Nat) : Nat := List.rec (motive := fun _ => Nat) 0 (fun _ _ ih => Nat.add ih 1) l
theorem lnN_eq : ∀ l : List Nat, lnN l = l.length
  | [] => rfl
  | _ :: l => by
    show Nat.add (lnN l) 1 = _
    rw [lnN_eq l]; rfl
section
variable {w0 : Fm} {σ : Mem} {res : Rs} {ρ : Pl} {w : World} (hr : res ≠ .no)
include hr
theorem nmK_inv {q : IntKind} : ∀ {l : List SV} {vs : List Value} {k : List Nat → Rs}, nmK q l k = res → SRs ρ l vs → ∃ r : List Nat, r.length = l.length ∧ vs = r.map (fun a => Value.int q (Int.ofNat a)) ∧ k r = res
  | [], vs, k, h, hl => by
    cases hl
    exact ⟨[], rfl, rfl, h⟩
  | x :: l, vs, k, h, hl => by
    cases hl with
    | cons h1 h2 =>
      obtain ⟨q', a, e0, g1⟩ := onN_inv hr (show onN (.v x) (fun q' a => kkK q' q (nmK q l fun r => k (a :: r))) = res from h)
      obtain ⟨g2, g3⟩ := kkK_inv hr g1
      subst g2
      injection e0 with e0
      subst e0
      obtain ⟨r, g4, g5, g6⟩ := nmK_inv g3 h2
      exact ⟨a :: r, by simp [g4], by rw [h1.2.1, g5, List.map_cons], g6⟩
theorem inK_inv (hM : MR w0 ρ σ w) {x : AV} {vx : Value} {k : List Nat → Rs} (hx : AR ρ x vx) (h : inK σ x k = res) : ∃ r : List Nat, IRow w vx (r.map Int.ofNat) ∧ k r = res := by
  have row : ∀ {id o n cap : Nat} {p : At} {k : List Nat → Rs}, ρ[id]? = some p → n ≤ cap → cap ≤ maxLen → rdK σ id o n (fun l => nmK .i64 l k) = res → ∃ r : List Nat, IRow w (.slice (some ⟨p.b, o, none⟩) n cap) (r.map Int.ofNat) ∧ k r = res := fun {id o n cap p k} hp h1 h2 h => by
    obtain ⟨ob, l, g3, g4, g5, g6⟩ := rdK_inv hr h
    obtain ⟨vs, h4, h5⟩ := hM.cells hp (l := l) (o := o) (fun i hi => g5 i (by omega))
    obtain ⟨r, h6, h7, h8⟩ := nmK_inv hr g6 h4
    refine ⟨r, ⟨some ⟨p.b, o, none⟩, cap, by rw [List.length_map, h6, g4], by rw [List.length_map, h6, g4]; exact h1, h2, fun hn => ⟨p.b, o, rfl, ?_, fun j u hu => ?_⟩⟩, h8⟩
    · rw [List.length_map] at hn
      have hv0 : vs[0]? = some (Value.int .i64 (Int.ofNat r[0])) := by rw [h7]; simp [hn]
      exact World.block_lt_of_cell? w ⟨p.b, o + 0, none⟩ (h5 0 _ hv0).1
    · refine (h5 j u ?_).1
      rw [h7]
      rw [List.map_map] at hu
      exact hu
  rcases onL_inv hr h with ⟨e1, g1⟩ | ⟨id, z, j, n, e1, g1⟩ | ⟨id, z, j, n, c, e1, g1⟩ | ⟨_, _, _, _, e1, g1⟩ | ⟨l, e1, g1⟩ | ⟨id, o, e1, g1⟩ <;> subst e1
  · have e2 : vx = .slice none 0 0 := hx
    subst e2
    exact ⟨[], ⟨none, 0, rfl, Nat.le_refl _, Nat.zero_le _, fun hn => absurd hn (by simp)⟩, g1⟩
  · obtain ⟨p, hp, _, hc, hm, rfl⟩ := hx
    exact row hp (by omega) (by omega) g1
  · obtain ⟨p, hp, hnc, hm, rfl⟩ := hx
    exact row hp hnc hm g1
  · obtain ⟨p, hp, hm, rfl⟩ := hx
    exact ⟨[], ⟨_, _, rfl, Nat.zero_le _, by omega, fun hn => absurd hn (by simp)⟩, g1⟩
  · exact absurd g1.symm hr
  · exact absurd g1.symm hr
theorem on1_inv {al : List AV} {vs : List Value} {k : AV → Rs} (ha : ARs ρ al vs) (h : on1 al k = res) : ∃ x v, vs = [v] ∧ AR ρ x v ∧ k x = res := by
  cases ha with
  | nil => exact absurd h.symm hr
  | cons h1 h2 =>
    cases h2 with
    | nil => exact ⟨_, _, rfl, h1, h⟩
    | cons _ _ => exact absurd h.symm hr
end
theorem val_ne {v : AV} {e : En} {σ : Mem} : Rs.mk (.val v) e σ ≠ .no := fun h => by cases h
theorem bR_inv {σ σ' : Mem} {b : Bool} {v : AV} {e : En} (h : bR σ b = .mk (.val v) e σ') : v = .v (.b b) ∧ σ' = σ := by
  cases b <;> (injection h with h1 _ h3; injection h1 with h1; exact ⟨h1.symm, h3.symm⟩)
/-- A function of one row that gives a number or a bool and leaves the world. -/
theorem orc_row {f : Nat} {o : List AV → Mem → Rs} {g : List Nat → Mem → Rs} (ho : ∀ al σ, o al σ = on1 al fun x => inK σ x fun l => g l σ) (hg : ∀ (r : List Nat) (v : Value) (σ : Mem) (w : World) (a : AV) e σ', IRow w v (r.map Int.ofNat) → g r σ = .mk (.val a) e σ' → σ' = σ ∧ Does Tryz.prog f #[v] w fun val w' => (∀ ρ, AR ρ a val) ∧ Ext w w') : OrcS f o := fun w0 al σ a e' σ' ρ vs w h ha hM => by
  rw [ho] at h
  obtain ⟨x, v, rfl, h1, h2⟩ := on1_inv val_ne ha h
  obtain ⟨r, h3, h4⟩ := inK_inv val_ne hM h1 h2
  obtain ⟨rfl, hd⟩ := hg r v σ w a e' σ' h3 h4
  exact Does.mono hd fun val w' hh => ⟨ρ, Up.refl ρ, hh.1 ρ, hM.ext hh.2⟩
/-! May. -/
noncomputable def mayGN (l : List Nat) (c s : Nat) : Bool := List.rec (motive := fun _ => Nat → Nat → Bool) (fun c s => Bool.rec (motive := fun _ => Bool) (Bool.rec (motive := fun _ => Bool) (Nat.beq s 4096) true (Nat.beq c 0)) (Nat.beq s 2048) (Nat.beq c 1)) (fun n _ ih c s => Bool.rec (motive := fun _ => Bool) false (Nat.rec (motive := fun _ => Bool) (ih c s) (fun _ _ => cN (Nat.add c 1) fun c => cN (Nat.add s (Nat.pow 2 (Nat.sub 12 n))) fun s => ih c s) n) (Nat.ble n 12)) l c s
noncomputable def mayN (l : List Nat) : Bool := an (Nat.ble (lnN l) 400) (mayGN l 0 0)
theorem beq_dec (a b : Nat) : Nat.beq a b = decide (a = b) := by
  rcases beq_cases a b with ⟨h1, h2⟩ | ⟨h1, h2⟩
  · rw [h2]; simp [h1]
  · rw [h2]; simp [h1]
theorem an_and (a b : Bool) : an a b = (a && b) := by cases a <;> rfl
theorem mayGN_eq : ∀ (l : List Nat) (c s : Nat), mayGN l c s = hmayGo (l.map Int.ofNat) c s
  | [], c, s => by
    show Bool.rec (motive := fun _ => Bool) (Bool.rec (motive := fun _ => Bool) (Nat.beq s 4096) true (Nat.beq c 0)) (Nat.beq s 2048) (Nat.beq c 1) = _
    rw [List.map_nil, hmayGo_nil]
    rcases beq_cases c 1 with ⟨h1, h2⟩ | ⟨h1, h2⟩
    · have hc1 : (c : Int) = 1 := by omega
      rw [h2, if_pos hc1]
      show Nat.beq s 2048 = _
      rw [beq_dec]
      exact decide_eq_decide.2 (by omega)
    · have hc1 : ¬ (c : Int) = 1 := by omega
      rw [h2, if_neg hc1]
      rcases beq_cases c 0 with ⟨h3, h4⟩ | ⟨h3, h4⟩
      · rw [h4]
        have : decide ((c : Int) = 0) = true := by simp; exact h3
        rw [this]; rfl
      · rw [h4]
        have : decide ((c : Int) = 0) = false := by simp; exact h3
        rw [this, Bool.false_or]
        show Nat.beq s 4096 = _
        rw [beq_dec]
        exact decide_eq_decide.2 (by omega)
  | n :: l, c, s => by
    have e1 : mayGN (n :: l) c s = Bool.rec (motive := fun _ => Bool) false (Nat.rec (motive := fun _ => Bool) (mayGN l c s) (fun _ _ => cN (Nat.add c 1) fun c => cN (Nat.add s (Nat.pow 2 (Nat.sub 12 n))) fun s => mayGN l c s) n) (Nat.ble n 12) := rfl
    rw [e1, List.map_cons, hmayGo_cons]
    cases hb : Nat.ble n 12 with
    | false =>
      have : ¬ n ≤ 12 := fun hh => by rw [Nat.ble_eq_true_of_le hh] at hb; cases hb
      rw [if_pos (.inr (by show (12 : Int) < (n : Int); omega))]
    | true =>
      have hle := Nat.le_of_ble_eq_true hb
      rw [if_neg (by show ¬ ((n : Int) < 0 ∨ (12 : Int) < (n : Int)); omega)]
      cases n with
      | zero =>
        rw [if_neg (by decide)]
        exact mayGN_eq l c s
      | succ m =>
        rw [if_pos (by show (0 : Int) < ((m + 1 : Nat) : Int); omega)]
        show cN (Nat.add c 1) (fun c => cN (Nat.add s (Nat.pow 2 (Nat.sub 12 (m + 1)))) fun s => mayGN l c s) = _
        rw [cN_eq, cN_eq, mayGN_eq]
        congr 1
        show ((s + 2 ^ (12 - (m + 1)) : Nat) : Int) = _
        have : p2 (12 - Int.ofNat (m + 1)) = ((2 ^ (12 - (m + 1)) : Nat) : Int) := by
          unfold p2
          have : (12 - Int.ofNat (m + 1)).toNat = 12 - (m + 1) := by show ((12 : Int) - ((m + 1 : Nat) : Int)).toNat = _; omega
          rw [this]; simp
        rw [this]; omega
theorem mayN_eq (l : List Nat) : mayN l = mayB (l.map Int.ofNat) := by
  unfold mayN mayB
  rw [an_and, mayGN_eq, ble_dec, lnN_eq, List.length_map]
  rfl
noncomputable def mayO (al : List AV) (σ : Mem) : Rs := on1 al fun x => inK σ x fun l => bR σ (mayN l)
theorem may_orc : OrcS 309 mayO := orc_row (g := fun l σ => bR σ (mayN l)) (fun _ _ => rfl) fun r v σ w a e σ' hv h => by
  obtain ⟨rfl, rfl⟩ := bR_inv h
  refine ⟨rfl, Does.mono (hmay_does w v _ hv) fun val w' hh => ?_⟩
  obtain ⟨rfl, rfl⟩ := hh
  exact ⟨fun ρ => by rw [mayN_eq]; rfl, Fr.refl _ _⟩
/-! The least and the greatest. -/
noncomputable def mxK (up : Bool) (l : List Nat) (a : Nat) (k : Nat → Rs) : Rs := List.rec (motive := fun _ => Nat → Rs) k (fun x _ ih a => ifK (eB up (Nat.ble a x)) (ih x) (ih a)) l a
theorem mxK_eq (up : Bool) : ∀ (l : List Nat) (a : Nat) (k : Nat → Rs), mxK up l a k = k (l.foldl (fun a x => if up then max a x else min a x) a)
  | [], _, _ => rfl
  | x :: l, a, k => by
    have e1 : mxK up (x :: l) a k = ifK (eB up (Nat.ble a x)) (mxK up l x k) (mxK up l a k) := rfl
    rw [e1, ifK_eq, eB_eq, mxK_eq, mxK_eq, ble_dec, List.foldl_cons]
    cases up with
    | true =>
      by_cases h : a ≤ x
      · rw [if_pos (by simp [h])]; simp [Nat.max_eq_right h]
      · rw [if_neg (by simp [h])]; simp [Nat.max_eq_left (Nat.le_of_not_le h)]
    | false =>
      by_cases h : a ≤ x
      · rw [if_neg (by simp [h])]; simp [Nat.min_eq_left h]
      · rw [if_pos (by simp [h])]; simp [Nat.min_eq_right (Nat.le_of_not_le h)]
noncomputable def mxO (up : Bool) (al : List AV) (σ : Mem) : Rs := on1 al fun x => inK σ x fun l => List.rec (motive := fun _ => Rs) .no (fun a r _ => okK (Nat.ble (lnN (a :: r)) 1000000) (mxK up r a fun m => okK (Nat.ble m 9223372036854775807) (.mk (.val (.v (.n .i64 m))) e0 σ))) l
theorem mx_inv {up : Bool} {σ σ' : Mem} {l : List Nat} {v : AV} {e : En} (h : (List.rec (motive := fun _ => Rs) .no (fun a r _ => okK (Nat.ble (lnN (a :: r)) 1000000) (mxK up r a fun m => okK (Nat.ble m 9223372036854775807) (.mk (.val (.v (.n .i64 m))) e0 σ))) l) = .mk (.val v) e σ') : ∃ a r, l = a :: r ∧ l.length ≤ 1000000 ∧ v = .v (.n .i64 (r.foldl (fun a x => if up then max a x else min a x) a)) ∧ r.foldl (fun a x => if up then max a x else min a x) a ≤ 9223372036854775807 ∧ σ' = σ := by
  cases l with
  | nil => cases h
  | cons a r =>
    obtain ⟨h1, h⟩ := okK_inv (show okK (Nat.ble (lnN (a :: r)) 1000000) (mxK up r a fun m => okK (Nat.ble m 9223372036854775807) (.mk (.val (.v (.n .i64 m))) e0 σ)) = _ from h) val_ne
    rw [mxK_eq] at h
    obtain ⟨h2, h⟩ := okK_inv h val_ne
    have h1 := Nat.le_of_ble_eq_true h1
    rw [lnN_eq] at h1
    injection h with h3 _ h5
    injection h3 with h3
    exact ⟨a, r, rfl, h1, h3.symm, Nat.le_of_ble_eq_true h2, h5.symm⟩
theorem fold_max : ∀ (r : List Nat) (a : Nat), (r.map Int.ofNat).foldl max (a : Int) = ((r.foldl (fun a x => if true then max a x else min a x) a : Nat) : Int)
  | [], _ => rfl
  | x :: r, a => by
    rw [List.map_cons, List.foldl_cons, List.foldl_cons]
    have : max (a : Int) (Int.ofNat x) = ((max a x : Nat) : Int) := by show max (a : Int) (x : Int) = _; omega
    rw [this]; exact fold_max r _
theorem fold_min : ∀ (r : List Nat) (a : Nat), (r.map Int.ofNat).foldl min (a : Int) = ((r.foldl (fun a x => if false then max a x else min a x) a : Nat) : Int)
  | [], _ => rfl
  | x :: r, a => by
    rw [List.map_cons, List.foldl_cons, List.foldl_cons]
    have : min (a : Int) (Int.ofNat x) = ((min a x : Nat) : Int) := by show min (a : Int) (x : Int) = _; omega
    rw [this]; exact fold_min r _
theorem max_orc : OrcS 306 (mxO true) := orc_row (g := fun l σ => List.rec (motive := fun _ => Rs) .no (fun a r _ => okK (Nat.ble (lnN (a :: r)) 1000000) (mxK true r a fun m => okK (Nat.ble m 9223372036854775807) (.mk (.val (.v (.n .i64 m))) e0 σ))) l) (fun _ _ => rfl) fun r v σ w a e σ' hv h => by
  obtain ⟨x, r, rfl, h1, rfl, h2, rfl⟩ := mx_inv h
  refine ⟨rfl, Does.mono (max_does w v _ hv (by simp) (by rw [List.length_map]; omega)) fun val w' hh => ?_⟩
  obtain ⟨rfl, rfl⟩ := hh
  exact ⟨fun ρ => ⟨by unfold maxL; rw [List.map_cons]; exact congrArg _ (fold_max r x), h2⟩, Fr.refl _ _⟩
theorem min_orc : OrcS 305 (mxO false) := orc_row (g := fun l σ => List.rec (motive := fun _ => Rs) .no (fun a r _ => okK (Nat.ble (lnN (a :: r)) 1000000) (mxK false r a fun m => okK (Nat.ble m 9223372036854775807) (.mk (.val (.v (.n .i64 m))) e0 σ))) l) (fun _ _ => rfl) fun r v σ w a e σ' hv h => by
  obtain ⟨x, r, rfl, h1, rfl, h2, rfl⟩ := mx_inv h
  refine ⟨rfl, Does.mono (min_does w v _ hv (by simp) (by rw [List.length_map]; omega)) fun val w' hh => ?_⟩
  obtain ⟨rfl, rfl⟩ := hh
  exact ⟨fun ρ => ⟨by unfold minL; rw [List.map_cons]; exact congrArg _ (fold_min r x), h2⟩, Fr.refl _ _⟩
end Rn
end Eng
end Go.Proofs.YtalnkjpgnkfedaaGreatDoor
