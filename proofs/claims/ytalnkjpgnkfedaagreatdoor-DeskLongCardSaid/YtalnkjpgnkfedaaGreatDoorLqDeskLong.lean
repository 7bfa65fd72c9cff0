/- The law DeskLong returns true for every input, and the input reads as it did; what the row lists of Go's library is tied to the program's text. No conditions. -/
import Derived.Test.YtalnkjpgnkfedaaGreatDoorEob
import Derived.Test.YtalnkjpgnkfedaaGreatDoorTld
import Derived.Test.YtalnkjpgnkfedaaGreatDoorEngE
import Derived.Test.YtalnkjpgnkfedaaGreatDoorRow
import Derived.Test.YtalnkjpgnkfedaaGreatDoorTie
import Derived.Test.YtalnkjpgnkfedaaGreatDoorCards
import Derived.Lay
import Derived.SevenTiedAt
import Derived.Stop.Joined
import Derived.Stop.LaidErr
import Derived.Lib.LaidTab
namespace Go.Proofs.YtalnkjpgnkfedaaGreatDoor
open Go.RowKit
namespace Eng
namespace Rn
/-- All blocks that are named are among the first n. -/
noncomputable def sB (n : Nat) (x : SV) : Bool := match x with
  | .p id _ => Nat.blt id n
  | .l id _ _ _ => Nat.blt id n
  | .lx id _ _ _ _ => Nat.blt id n
  | .le id _ _ _ => Nat.blt id n
  | .mp _ => false
  | _ => true
noncomputable def lB (n : Nat) (l : List SV) : Bool := List.rec (motive := fun _ => Bool) true (fun x _ ih => an (sB n x) ih) l
noncomputable def aB (n : Nat) (x : AV) : Bool := match x with
  | .v x => sB n x
  | .g l => lB n l
  | _ => false
noncomputable def asB (n : Nat) (l : List AV) : Bool := List.rec (motive := fun _ => Bool) true (fun x _ ih => an (aB n x) ih) l
noncomputable def ebB (n : Nat) (l : List Eb) : Bool := List.rec (motive := fun _ => Bool) true (fun x _ ih => an (an (Nat.blt x.id n) (lB n x.l)) ih) l
theorem blt_lt {a b : Nat} (h : Nat.blt a b = true) : a < b := Nat.le_of_ble_eq_true h
theorem Up.dn {ρ0 ρ : Pl} (hu : Up ρ0 ρ) {id : Nat} (hi : id < ρ0.length) {p : At} (h : ρ[id]? = some p) : ρ0[id]? = some p := by
  obtain ⟨q, hq⟩ : ∃ q, ρ0[id]? = some q := ⟨_, List.getElem?_eq_getElem hi⟩
  have := hu _ _ hq
  rw [h] at this
  rw [hq, Option.some.inj this]
theorem SR.dn {ρ0 ρ : Pl} (hu : Up ρ0 ρ) {x : SV} {v : Value} (hb : sB ρ0.length x = true) (h : SR ρ x v) : SR ρ0 x v := by
  cases x with
  | p id o => obtain ⟨p, h1, h2⟩ := h; exact ⟨p, hu.dn (blt_lt hb) h1, h2⟩
  | l id z j n => obtain ⟨p, h1, h2⟩ := h; exact ⟨p, hu.dn (blt_lt hb) h1, h2⟩
  | lx id z j n c => obtain ⟨p, h1, h2⟩ := h; exact ⟨p, hu.dn (blt_lt hb) h1, h2⟩
  | le id z j a => obtain ⟨p, h1, h2⟩ := h; exact ⟨p, hu.dn (blt_lt hb) h1, h2⟩
  | mp id => cases hb
  | _ => exact h
theorem SRs.dn {ρ0 ρ : Pl} (hu : Up ρ0 ρ) {l : List SV} {vs : List Value} (h : SRs ρ l vs) : lB ρ0.length l = true → SRs ρ0 l vs := by
  induction h with
  | nil => exact fun _ => .nil
  | cons h1 _ ih =>
    intro hb
    obtain ⟨b1, b2⟩ := an_inv (show an (sB ρ0.length _) (lB ρ0.length _) = true from hb)
    exact .cons ⟨h1.1, h1.2.dn hu b1⟩ (ih b2)
theorem AR.dn {ρ0 ρ : Pl} (hu : Up ρ0 ρ) {x : AV} {v : Value} (hb : aB ρ0.length x = true) (h : AR ρ x v) : AR ρ0 x v := by
  cases x with
  | v x => exact SR.dn hu hb h
  | g l => obtain ⟨vs, h1, h2⟩ := h; exact ⟨vs, h1.dn hu hb, h2⟩
  | t l => cases hb
  | f fn l => cases hb
theorem ARs.dn {ρ0 ρ : Pl} (hu : Up ρ0 ρ) {l : List AV} {vs : List Value} (h : ARs ρ l vs) : asB ρ0.length l = true → ARs ρ0 l vs := by
  induction h with
  | nil => exact fun _ => .nil
  | cons h1 _ ih =>
    intro hb
    obtain ⟨b1, b2⟩ := an_inv (show an (aB ρ0.length _) (asB ρ0.length _) = true from hb)
    exact .cons (h1.dn hu b1) (ih b2)
theorem ebB_all {n : Nat} : ∀ {l : List Eb}, ebB n l = true → ∀ x ∈ l, x.id < n ∧ lB n x.l = true
  | [], _, x, hx => by cases hx
  | y :: l, h, x, hx => by
    obtain ⟨h1, h2⟩ := an_inv (show an (an (Nat.blt y.id n) (lB n y.l)) (ebB n l) = true from h)
    obtain ⟨h3, h4⟩ := an_inv h1
    rcases List.mem_cons.1 hx with rfl | hx
    · exact ⟨blt_lt h3, h4⟩
    · exact ebB_all h2 x hx
theorem lB_get {n : Nat} : ∀ {l : List SV}, lB n l = true → ∀ (i : Nat) x, l[i]? = some x → sB n x = true
  | [], _, i, x, hx => by cases hx
  | y :: l, h, i, x, hx => by
    obtain ⟨h1, h2⟩ := an_inv (show an (sB n y) (lB n l) = true from h)
    cases i with
    | zero => obtain rfl := Option.some.inj hx; exact h1
    | succ i => exact lB_get h2 i x hx
/-- A call that was run with n blocks: arguments, blocks (the same behind it); the value. -/
structure Pu where
  n : Nat
  al : List AV
  l0 : List Eb
  v : AV
noncomputable def puO (m : Pu) (al : List AV) (σ : Mem) : Rs := okK (alE m.al al) (okK (Nat.ble m.n σ.n) (ckL σ m.l0 (kiL m.l0 σ.h fun h => seL m.l0 h fun h => .mk (.val m.v) e0 ⟨σ.n, h, []⟩)))
noncomputable def ranQ (m : Pu) (r : Rs) : Rs := Rs.rec (motive := fun _ => Rs) .no (fun x _ σ => Ex.rec (motive := fun _ => Rs) .no (fun _ => .no) (fun _ => .no) .no (fun v => okK (avE m.v v) (ckL σ m.l0 (.mk .ret e0 σ))) x) r
/-- The call by itself comes to this, and leaves the blocks; what it names is there beforehand. -/
noncomputable def ranP (tab : List (Nat × Fe)) (N f : Nat) (m : Pu) : Bool := an (an (asB m.n m.al) (aB m.n m.v)) (an (ebB m.n m.l0) (Rs.rec (motive := fun _ => Bool) false (fun _ _ _ => true) (seL m.l0 .nil fun h => ranQ m (run tab N f m.al ⟨m.n, h, []⟩))))
theorem pu_sound {tab : List (Nat × Fe)} (ht : TabOK tab) {N f : Nat} {m : Pu} (hm : ranP tab N f m = true) : OrcS f (puO m) := fun w0 al σ a e' σ' ρ vs w hq ha hM => by
  obtain ⟨hm1, hm2⟩ := an_inv hm
  obtain ⟨hbA, hbV⟩ := an_inv hm1
  obtain ⟨hbE, hm⟩ := an_inv hm2
  have hbE := ebB_all hbE
  obtain ⟨h1, h⟩ := okK_inv hq val_ne
  clear hq
  obtain ⟨hnle, h⟩ := okK_inv h val_ne
  have hnle := Nat.le_of_ble_eq_true hnle
  have h1 := alE_eq h1
  subst h1
  obtain ⟨h2, h⟩ := ckL_inv val_ne h
  obtain ⟨hk, h, h3⟩ := kiL_inv val_ne h
  obtain ⟨hs, h, h4⟩ := seL_inv val_ne h
  injection h with h5 _ h7
  injection h5 with h5
  subst h5; subst h7
  -- the first places
  obtain ⟨ρ0, hρ0⟩ : ∃ ρ0, ρ0 = ρ.take m.n := ⟨_, rfl⟩
  have len0 : ρ0.length = m.n := by rw [hρ0, List.length_take, hM.len]; omega
  have hu0 : Up ρ0 ρ := fun id p hp => by
    rw [hρ0] at hp
    have hlt := (List.getElem?_eq_some_iff.1 hp).1
    rw [List.length_take] at hlt
    rwa [List.getElem?_take_of_lt (by omega)] at hp
  rw [← len0] at hbA hbV hbE
  have ha0 := ha.dn hu0 hbA
  -- the call by itself
  have hne : (seL m.l0 .nil fun h => ranQ m (run tab N f m.al ⟨m.n, h, []⟩)) ≠ .no := fun hh => by
    rw [hh] at hm; cases hm
  obtain ⟨hb, hrun, h8⟩ := seL_inv hne (l := m.l0) (h := .nil) (c := fun h => ranQ m (run tab N f m.al ⟨m.n, h, []⟩)) rfl
  have h8 : ∀ id ob, tget dI id hb = some ob → ∃ x ∈ m.l0, IsB x id ob := fun id ob ho => by
    rcases h8 id ob ho with hh | ⟨_, hh⟩
    · exact hh
    · rw [tget_nil] at hh; cases hh
  have hrn : ranQ m (run tab N f m.al ⟨m.n, hb, []⟩) ≠ .no := fun hh => hne (by rw [← hrun]; exact hh)
  obtain ⟨v1, e1, σ1, hr1, hv1, hl1⟩ : ∃ v1 e1 σ1, run tab N f m.al ⟨m.n, hb, []⟩ = .mk (.val v1) e1 σ1 ∧ m.v = v1 ∧ Has σ1 m.l0 := by
    generalize hq : run tab N f m.al ⟨m.n, hb, []⟩ = q at hrn
    cases q with
    | no => exact absurd rfl hrn
    | mk x e1 σ1 =>
      cases x with
      | val v1 =>
        have g0 : okK (avE m.v v1) (ckL σ1 m.l0 (.mk .ret e0 σ1)) ≠ .no := hrn
        obtain ⟨g1, g⟩ := okK_inv rfl g0
        obtain ⟨g3, _⟩ := ckL_inv g0 g
        exact ⟨v1, e1, σ1, rfl, avE_eq g1, g3⟩
      | _ => exact absurd rfl hrn
  subst hv1
  have hsub : ∀ id o x, cget ⟨m.n, hb, []⟩ id o = some x → cget σ id o = some x ∧ ∃ y ∈ m.l0, y.id = id := fun id o x hx => by
    obtain ⟨ob, q1, q2⟩ := cget_iff.1 hx
    obtain ⟨y, hy, q3, _, _, q5⟩ := h8 id ob q1
    obtain ⟨ob2, q6, _, q8⟩ := h2 y hy
    rw [q5 o] at q2
    have hlt := (List.getElem?_eq_some_iff.1 q2).1
    exact ⟨cget_iff.2 ⟨ob2, by rw [← q3]; exact q6, by rw [q8 o hlt]; exact q2⟩, y, hy, q3⟩
  have hok : TabI (fun b => ∃ id o p, (cget ⟨m.n, hb, []⟩ id o).isSome = true ∧ ρ[id]? = some p ∧ p.b = b) w := w0.ok.of hM.old fun b hb' => by
    obtain ⟨id, o, p, q1, q2, rfl⟩ := hb'
    obtain ⟨x, hx⟩ := Option.isSome_iff_exists.1 q1
    exact hM.far id o p (by rw [(hsub id o x hx).1]; rfl) q2
  have hM0 : MR ⟨fun b => ∃ id o p, (cget ⟨m.n, hb, []⟩ id o).isSome = true ∧ ρ[id]? = some p ∧ p.b = b, w, hok⟩ ρ0 ⟨m.n, hb, []⟩ w := {
    len := len0
    blk := fun id ob q1 q2 => by
      obtain ⟨o, q2⟩ := q2
      obtain ⟨x, hx⟩ := Option.isSome_iff_exists.1 q2
      obtain ⟨y, hy, q3, q4, _, q5⟩ := h8 id ob q1
      obtain ⟨ob2, q6, q7, q8⟩ := h2 y hy
      have hcell : ∀ o x, tget ob.d o ob.m = some x → tget ob2.d o ob2.m = some x := fun o x hx => by
        rw [q5 o] at hx
        rw [q8 o (List.getElem?_eq_some_iff.1 hx).1]; exact hx
      obtain ⟨p, cs, r1, r2, r3, r4⟩ := hM.blk id ob2 (by rw [← q3]; exact q6) ⟨o, by rw [hcell o x hx]; rfl⟩
      obtain ⟨hyl, hyc⟩ := hbE y hy
      refine ⟨p, cs, hu0.dn (by rw [← q3]; exact hyl) r1, by rw [q4, ← q7]; exact r2, r3, fun o x hx => ?_⟩
      obtain ⟨v, r5, r6⟩ := r4 o x (hcell o x hx)
      rw [q5 o] at hx
      exact ⟨v, r5, r6.1, r6.2.dn hu0 (lB_get hyc o x hx)⟩
    old := Fr.refl _ _
    far := fun id o p q1 q2 => .inr ⟨id, o, p, q1, hu0 _ _ q2, rfl⟩
    pre := fun id ob q1 o ho => by
      obtain ⟨y, hy, _, _, q4, q5⟩ := h8 id ob q1
      rw [q5 o, List.getElem?_eq_none (by omega)]
    apart := fun id id' o o' p p' hne q1 q2 q3 q4 => by
      obtain ⟨x, hx⟩ := Option.isSome_iff_exists.1 q1
      obtain ⟨x', hx'⟩ := Option.isSome_iff_exists.1 q2
      exact hM.apart id id' o o' p p' hne (by rw [(hsub id o x hx).1]; rfl) (by rw [(hsub id' o' x' hx').1]; rfl) (hu0 _ _ q3) (hu0 _ _ q4)
    mps := Mps.nil _ _ _ }
  refine Does.mono (run_sound ht N _ f m.al ⟨m.n, hb, []⟩ _ e1 σ1 ρ0 vs w hr1 ha0 hM0) fun val w' hh => ?_
  obtain ⟨ρ', hu, hav, hM1⟩ := hh
  refine ⟨ρ, Up.refl ρ, (hav.dn hu hbV).up hu0, ?_⟩
  -- a block that the call does not touch
  have off : ∀ id o p, (cget σ id o).isSome = true → ρ[id]? = some p → (∀ x ∈ m.l0, x.id ≠ id) → ¬ ∃ id o p', (cget ⟨m.n, hb, []⟩ id o).isSome = true ∧ ρ[id]? = some p' ∧ p'.b = p.b := fun id o p q1 q2 q3 => by
    rintro ⟨id2, o2, p2, r1, r2, r3⟩
    obtain ⟨x, hx⟩ := Option.isSome_iff_exists.1 r1
    obtain ⟨r4, y, hy, r5⟩ := hsub id2 o2 x hx
    exact hM.apart id2 id o2 o p2 p (fun e => q3 y hy (r5.trans e)) (by rw [r4]; rfl) q1 r2 q2 r3
  have may1 : ∀ b, (Fm.mk (fun b => ∃ id o p, (cget ⟨m.n, hb, []⟩ id o).isSome = true ∧ ρ[id]? = some p ∧ p.b = b) w hok).may b → w0.may b := fun b hb' => by
    rcases hb' with hb' | ⟨id, o, p, r1, r2, rfl⟩
    · exact .inl (Nat.le_trans hM.old.size hb')
    · obtain ⟨x, hx⟩ := Option.isSome_iff_exists.1 r1
      exact hM.far id o p (by rw [(hsub id o x hx).1]; rfl) r2
  -- what is known then
  have cls : ∀ id ob, oget ⟨σ.n, hs, []⟩ id = some ob → (∃ o, (tget ob.d o ob.m).isSome = true) → (∃ x ∈ m.l0, IsB x id ob) ∨ ((∀ x ∈ m.l0, x.id ≠ id) ∧ oget σ id = some ob) := fun id ob q1 q2 => by
    rcases h4 id ob q1 with hh | ⟨_, hh⟩
    · exact .inl hh
    · rcases h3 id ob hh with hh | hh
      · obtain ⟨o, q2⟩ := q2
        rw [hh, tget_nil] at q2; cases q2
      · exact .inr hh
  have one : ∀ x ∈ m.l0, ∀ id ob, IsB x id ob → ∃ ob1, oget σ1 id = some ob1 ∧ ob1.e = ob.e ∧ ∀ o y, tget ob.d o ob.m = some y → tget ob1.d o ob1.m = some y ∧ sB ρ0.length y = true := fun x hx id ob hi => by
    obtain ⟨i1, i2, _, i4⟩ := hi
    obtain ⟨ob1, r1, r2, r3⟩ := hl1 x hx
    refine ⟨ob1, by rw [← i1]; exact r1, by rw [r2, i2], fun o y hy => ?_⟩
    rw [i4 o] at hy
    exact ⟨by rw [r3 o (List.getElem?_eq_some_iff.1 hy).1]; exact hy, lB_get (hbE x hx).2 o y hy⟩
  have idl : ∀ x ∈ m.l0, ∀ id ob, IsB x id ob → id < ρ0.length := fun x hx id ob hi => by rw [← hi.1]; exact (hbE x hx).1
  -- a cell of a block that the call touched
  have cell0 : ∀ id o, (cget ⟨σ.n, hs, []⟩ id o).isSome = true → ((cget σ1 id o).isSome = true ∧ id < ρ0.length) ∨ ((∀ x ∈ m.l0, x.id ≠ id) ∧ (cget σ id o).isSome = true) := fun id o q => by
    obtain ⟨y, hy⟩ := Option.isSome_iff_exists.1 q
    obtain ⟨ob, q1, q2⟩ := cget_iff.1 hy
    rcases cls id ob q1 ⟨o, by rw [q2]; rfl⟩ with ⟨x, hx, hi⟩ | ⟨r1, r2⟩
    · obtain ⟨ob1, r1, _, r3⟩ := one x hx id ob hi
      exact .inl ⟨by rw [cget_iff.2 ⟨ob1, r1, (r3 o y q2).1⟩]; rfl, idl x hx id ob hi⟩
    · exact .inr ⟨r1, by rw [cget_iff.2 ⟨ob, r2, q2⟩]; rfl⟩
  have at1 : ∀ id p, id < ρ0.length → ρ[id]? = some p → ρ'[id]? = some p := fun id p hi hp => hu _ _ (hu0.dn hi hp)
  exact {
    len := hM.len
    blk := fun id ob q1 q2 => by
      rcases cls id ob q1 q2 with ⟨x, hx, hi⟩ | ⟨r1, r2⟩
      · obtain ⟨ob1, r1, r2, r3⟩ := one x hx id ob hi
        obtain ⟨o, q2⟩ := q2
        obtain ⟨y, hy⟩ := Option.isSome_iff_exists.1 q2
        obtain ⟨p, cs, s1, s2, s3, s4⟩ := hM1.blk id ob1 r1 ⟨o, by rw [(r3 o y hy).1]; rfl⟩
        refine ⟨p, cs, hu0 _ _ (hu.dn (idl x hx id ob hi) s1), by rw [← r2]; exact s2, s3, fun o y hy => ?_⟩
        obtain ⟨v, t1, t2⟩ := s4 o y (r3 o y hy).1
        exact ⟨v, t1, t2.1, (t2.2.dn hu (r3 o y hy).2).up hu0⟩
      · obtain ⟨p, cs, s1, s2, s3, s4⟩ := hM.blk id ob r2 q2
        obtain ⟨o, q2⟩ := q2
        obtain ⟨y, hy⟩ := Option.isSome_iff_exists.1 q2
        exact ⟨p, cs, s1, s2.fr hM1.old (off id o p (by rw [cget_iff.2 ⟨ob, r2, hy⟩]; rfl) s1 r1), s3, s4⟩
    old := hM.old.trans hM1.old fun j hj hS => by
      rcases may1 j (.inr hS) with hh | hh
      · have hh : w0.w.heap.size ≤ j := hh
        omega
      · exact hh
    far := fun id o p q1 q2 => by
      rcases cell0 id o q1 with ⟨hh, hi⟩ | ⟨_, hh⟩
      · exact may1 _ (hM1.far id o p hh (at1 id p hi q2))
      · exact hM.far id o p hh q2
    pre := fun id ob q1 o ho => by
      cases hq : tget ob.d o ob.m with
      | none => rfl
      | some y =>
        rcases cls id ob q1 ⟨o, by rw [hq]; rfl⟩ with ⟨x, hx, _, _, i3, i4⟩ | ⟨_, r2⟩
        · rw [i4 o, List.getElem?_eq_none (by omega)] at hq; cases hq
        · rw [hM.pre id ob r2 o ho] at hq; cases hq
    apart := fun id id' o o' p p' hne q1 q2 q3 q4 => by
      have mix : ∀ id id' o o' p p', (cget σ1 id o).isSome = true → ρ'[id]? = some p → (∀ x ∈ m.l0, x.id ≠ id') → (cget σ id' o').isSome = true → ρ[id']? = some p' → p.b ≠ p'.b := fun id id' o o' p p' r1 r2 r3 r4 r6 => by
        rcases hM1.far id o p r1 r2 with hh | hh
        · have hh : w.heap.size ≤ p.b := hh
          have := hM.below id' o' p' r4 r6
          omega
        · intro e
          refine off id' o' p' r4 r6 r3 ?_
          rw [← e]; exact hh
      rcases cell0 id o q1 with ⟨hh, hi⟩ | ⟨g1, hh⟩
      · rcases cell0 id' o' q2 with ⟨hh', hi'⟩ | ⟨g1', hh'⟩
        · exact hM1.apart id id' o o' p p' hne hh hh' (at1 _ _ hi q3) (at1 _ _ hi' q4)
        · exact mix id id' o o' p p' hh (at1 _ _ hi q3) g1' hh' q4
      · rcases cell0 id' o' q2 with ⟨hh', hi'⟩ | ⟨g1', hh'⟩
        · exact (mix id' id o' o p' p hh' (at1 _ _ hi' q4) g1 hh q3).symm
        · exact hM.apart id id' o o' p p' hne hh hh' q3 q4
    mps := Mps.nil _ _ _ }
end Rn
end Eng
end Go.Proofs.YtalnkjpgnkfedaaGreatDoor

namespace Go.Proofs.YtalnkjpgnkfedaaGreatDoor
open Go.RowKit
namespace Eng
namespace Rn
set_option maxRecDepth 100000
/-- The line same, run beforehand. -/
noncomputable def puA : Pu := ⟨58, [.v (.p 56 0), .v (.s [115, 97, 109, 101])], [⟨14, 57, 2, [.s [], .n .i64 0]⟩,
  ⟨17, 46, 4, [.n .i64 1, .n .i64 493, .n .i64 0, .n .i64 0, .n .i64 0, .l0, .l0, .n .i64 0, .l0, .s [], .n .i64 0, .n .i64 0]⟩,
  ⟨27, 75, 3, [.n .i64 100000, .l0, .n .i64 0, .b false, .l 14 2 0 1, .l 17 12 0 1]⟩,
  ⟨42, 57, 2, [.s [], .n .i64 0]⟩,
  ⟨45, 46, 4, [.n .i64 1, .n .i64 493, .n .i64 0, .n .i64 0, .n .i64 0, .l0, .l0, .n .i64 0, .l0, .s [], .n .i64 0, .n .i64 0]⟩,
  ⟨55, 75, 3, [.n .i64 100000, .l0, .n .i64 0, .b false, .l 42 2 0 1, .l 45 12 0 1]⟩,
  ⟨56, 37, 2, [.p 27 0, .p 55 0, .l0]⟩], .v (.s [121, 101, 115])⟩
theorem puA_ok : ranP tabR 100 13 puA = true := by kernel_rfl
noncomputable def tabL : List (Nat × Fe) := (13, .orc (puO puA)) :: tabR
theorem tabL_ok : TabOK tabL := tok_cons (pu_sound tabR_ok puA_ok) tabR_ok
/-- What comes behind the number of lines. -/
noncomputable def restC : Code := match Tryz.f3.body with
  | some (.seq _ (.seq _ c)) => c
  | _ => .skip
noncomputable def lngB (r : Nat) (b : Bool) : Bool := retB 499 4 (fN (Nat.add 190 r) fun k => (codW 40 499 1000 restC).f (run tabL 100) lF ⟨[(5, .v (.n .i64 k)), (1, .v (.b b))], [], [], []⟩ ⟨0, .nil, []⟩)
theorem ln0t : lngB 0 true = true := by kernel_rfl
theorem ln0f : lngB 0 false = true := by kernel_rfl
theorem ln1t : lngB 1 true = true := by kernel_rfl
theorem ln1f : lngB 1 false = true := by kernel_rfl
theorem ln2t : lngB 2 true = true := by kernel_rfl
theorem ln2f : lngB 2 false = true := by kernel_rfl
theorem ln3t : lngB 3 true = true := by kernel_rfl
theorem ln3f : lngB 3 false = true := by kernel_rfl
theorem ln4t : lngB 4 true = true := by kernel_rfl
theorem ln4f : lngB 4 false = true := by kernel_rfl
theorem ln5t : lngB 5 true = true := by kernel_rfl
theorem ln5f : lngB 5 false = true := by kernel_rfl
theorem ln6t : lngB 6 true = true := by kernel_rfl
theorem ln6f : lngB 6 false = true := by kernel_rfl
theorem ln7t : lngB 7 true = true := by kernel_rfl
theorem ln7f : lngB 7 false = true := by kernel_rfl
theorem ln8t : lngB 8 true = true := by kernel_rfl
theorem ln8f : lngB 8 false = true := by kernel_rfl
theorem ln9t : lngB 9 true = true := by kernel_rfl
theorem ln9f : lngB 9 false = true := by kernel_rfl
theorem ln10t : lngB 10 true = true := by kernel_rfl
theorem ln10f : lngB 10 false = true := by kernel_rfl
theorem ln11t : lngB 11 true = true := by kernel_rfl
theorem ln11f : lngB 11 false = true := by kernel_rfl
theorem ln12t : lngB 12 true = true := by kernel_rfl
theorem ln12f : lngB 12 false = true := by kernel_rfl
theorem ln13t : lngB 13 true = true := by kernel_rfl
theorem ln13f : lngB 13 false = true := by kernel_rfl
theorem ln14t : lngB 14 true = true := by kernel_rfl
theorem ln14f : lngB 14 false = true := by kernel_rfl
theorem ln15t : lngB 15 true = true := by kernel_rfl
theorem ln15f : lngB 15 false = true := by kernel_rfl
theorem ln16t : lngB 16 true = true := by kernel_rfl
theorem ln16f : lngB 16 false = true := by kernel_rfl
theorem ln17t : lngB 17 true = true := by kernel_rfl
theorem ln17f : lngB 17 false = true := by kernel_rfl
theorem ln18t : lngB 18 true = true := by kernel_rfl
theorem ln18f : lngB 18 false = true := by kernel_rfl
theorem ln19t : lngB 19 true = true := by kernel_rfl
theorem ln19f : lngB 19 false = true := by kernel_rfl
theorem lng_all {r : Nat} (hr : r < 20) (b : Bool) : lngB r b = true := by
  have hc : r = 0 ∨ r = 1 ∨ r = 2 ∨ r = 3 ∨ r = 4 ∨ r = 5 ∨ r = 6 ∨ r = 7 ∨ r = 8 ∨ r = 9 ∨ r = 10 ∨ r = 11 ∨ r = 12 ∨ r = 13 ∨ r = 14 ∨ r = 15 ∨ r = 16 ∨ r = 17 ∨ r = 18 ∨ r = 19 := by omega
  rcases hc with rfl | rfl | rfl | rfl | rfl | rfl | rfl | rfl | rfl | rfl | rfl | rfl | rfl | rfl | rfl | rfl | rfl | rfl | rfl | rfl <;> cases b
  · exact ln0f
  · exact ln0t
  · exact ln1f
  · exact ln1t
  · exact ln2f
  · exact ln2t
  · exact ln3f
  · exact ln3t
  · exact ln4f
  · exact ln4t
  · exact ln5f
  · exact ln5t
  · exact ln6f
  · exact ln6t
  · exact ln7f
  · exact ln7t
  · exact ln8f
  · exact ln8t
  · exact ln9f
  · exact ln9t
  · exact ln10f
  · exact ln10t
  · exact ln11f
  · exact ln11t
  · exact ln12f
  · exact ln12t
  · exact ln13f
  · exact ln13t
  · exact ln14f
  · exact ln14t
  · exact ln15f
  · exact ln15t
  · exact ln16f
  · exact ln16t
  · exact ln17f
  · exact ln17t
  · exact ln18f
  · exact ln18t
  · exact ln19f
  · exact ln19t
end Rn
attribute [local irreducible] xs T
set_option maxRecDepth 100000 in
set_option maxHeartbeats 4000000 in
theorem deskLong_core (w : World) (z : Int) (b : Bool) (hP : PowT w) : Does Tryz.prog 3 #[.int .i64 z, .bool b] w fun r w' => r = .bool true ∧ Ext w w' := by
  refine does2 Tryz.func3 rfl (by kernel_rfl) ?_
  obtain ⟨u, hu, h1⟩ : ∃ u : Nat, IntKind.u64.wrap z = (u : Int) ∧ u ≤ 18446744073709551615 := by
    refine ⟨(IntKind.u64.wrap z).toNat, ?_, ?_⟩ <;> simp [IntKind.wrap, IntKind.signed, IntKind.bits] <;> omega
  have hr : u % 20 < 20 := Nat.mod_lt _ (by decide)
  have hm : ((u : Int) % 20) = ((u % 20 : Nat) : Int) := by omega
  refine tseq ?_
  refine treg (by kernel_rfl) ?_
  refine go1L ?_
  refine go1L ?_
  refine tseq ?_
  refine treg (by kernel_rfl) ?_
  refine go1L ?_
  refine xcv (r := (u : Int)) rfl rfl rfl hu ?_
  refine xdu (r := ((u % 20 : Nat) : Int)) (op := .rem) rfl rfl (by simp [dvI]) (by omega) (by omega) (by omega) ?_
  refine xcvi rfl rfl rfl (by omega) (by omega) ?_
  refine go1L ?_
  refine go1L ?_
  refine go1L ?_
  refine Rn.t_run (c := Rn.restC) (d := 1000) (n := Rn.lF) (N := 100) (m := 499) (t := 4) (e := ⟨[(5, .v (.n .i64 (190 + u % 20))), (1, .v (.b b))], [], [], []⟩) (w0 := ⟨noneB, w, Rn.TabI.init hP⟩) (ρ := []) Rn.tabL_ok rfl ?_ ?_ (Rn.MR.z w (Rn.TabI.init hP)) (fun w' hF => ⟨rfl, hF⟩)
  · have h := Rn.lng_all hr b
    unfold Rn.lngB at h
    rw [Rn.fN_eq] at h
    exact h
  · refine Rn.ER.c (v := .int .i64 (190 + (u % 20 : Nat))) (Rn.ER.c (v := .bool b) Rn.ER.z rfl rfl) rfl ⟨?_, ?_⟩
    · simp
    · show 190 + u % 20 ≤ 9223372036854775807
      omega
end Eng
end Go.Proofs.YtalnkjpgnkfedaaGreatDoor

namespace Go.Proofs.YtalnkjpgnkfedaaGreatDoor
open Go.ChangeShapes Go.WideShapes Go.ChangeAt Go.RowKit Eng

set_option maxRecDepth 100000 in
theorem deskLong_lifted (os : Os) (started : os.Started) (H : Type) (enc : TypeId × Value → H) :
    ReturnsInHanded {} Tryz.checked os 3 .any (fun w args => (Rows.deskLongSpec.pre enc Tryz.prog Tryz.f3 Rows.deskLongRow.domain false w args ∧ laidMetH Tryz.prog Rows.deskLongRow.laid w) ∧ sizedMet enc Tryz.prog Tryz.f3 (OpenSpec.ofChange Rows.deskLongSpec) false w args)
      (Rows.deskLongSpec.post enc Tryz.prog Tryz.f3 false true false false) := by
  refine returnsInHanded_of_change_and (C := Tryz.checked) (X := fun w _ => laidMetH Tryz.prog Rows.deskLongRow.laid w) (fun _ _ _ hh h => h.of_heap hh) own_ started (by kernel_rfl) Tryz.func3
    (ChangeSpec.witness_shaped (enc := enc) (C := Tryz.checked) (os := os) (X := fun w _ => laidMetH Tryz.prog Rows.deskLongRow.laid w) false (World.laidAll Tryz.prog os Rows.deskLongRow.laid) #[.int .i64 0, .bool false] 8 (World.laidAll_os _ _ _)
      (World.shaped_of_ZipB (by kernel_rfl) (by kernel_rfl)) (by kernel_rfl) (by kernel_rfl) (by kernel_rfl)
      (by rw [MakeChecks.laidMetH_plain _ _ _ (by kernel_rfl)]; exact laidMet_laidAll _ (by kernel_rfl) (by kernel_rfl))) ?_
  intro W base args ds gs before hval0 hW _ _ hL _
  have hval : ∀ (j : Nat) t v, Tryz.f3.params[j]? = some t → args[j]? = some v → Value.okWide Tryz.prog W .any base t v := hval0
  have hW' := hW
  obtain ⟨p, q, hA0, hV, rfl, hfz, hnd⟩ := hW
  have hA : DataW.TrodAll enc Tryz.prog W 0 (fun _ => true) true Tryz.f3.params.toList args.toList ds p := hA0
  rw [Tryz.params3] at hA hval
  obtain ⟨v0, v1, d0, d1, p0, p1, rfl, rfl, rfl, h0, h1⟩ := trodAll_two hA
  obtain ⟨rfl, rfl⟩ := trodVars_none hV
  obtain ⟨z0, rfl, rfl, rfl, x0⟩ := open_int Tryz.underlying3 (hval 0 3 v0 rfl rfl) h0
  obtain ⟨z1, rfl, rfl, rfl⟩ := open_bool Tryz.underlying4 (hval 1 4 v1 rfl rfl) h1
  have hP : PowT W := by
    have hL' : laidMet Tryz.prog Rows.deskLongRow.laid W := by
      have h := hL
      rw [MakeChecks.laidMetH_plain _ _ _ (by kernel_rfl)] at h
      exact h
    exact Lib.tabIs_of_head (g := (Tryz.prog.globalNamed "internal/strconv.uint64pow10").getD 0) (by kernel_rfl) (by kernel_rfl) Tryz.underlying334 Tryz.underlying134 (by kernel_rfl) (by kernel_rfl) hL'.tail.tail
  clear hA0 hval0
  refine Calls.mono (deskLong_core W z0 z1 hP) fun e W' ⟨v, he, hr, hE⟩ => ?_
  subst hr
  exact ⟨_, he, post_law rfl rfl (by kernel_rfl) (by kernel_rfl) hW' hE⟩

set_option maxRecDepth 100000 in
theorem deskLong_in : (Rows.deskLongRow.inPlace == Tryz.prog.inPlace 3) = true := by kernel_rfl
set_option maxRecDepth 100000 in
theorem deskLong_un : (Rows.deskLongRow.unfollowed == Tryz.prog.unfollowed 3) = true := by kernel_rfl
set_option maxRecDepth 100000 in
theorem deskLong_re : (Rows.deskLongRow.recurses == Tryz.prog.recurses 3) = true := by kernel_rfl
set_option maxRecDepth 100000 in
theorem deskLong_va : (Rows.deskLongRow.named == Tryz.prog.varsNamed 3) = true := by kernel_rfl
set_option maxRecDepth 100000 in
theorem deskLong_facts : joinedFacts Tryz.prog 3 Tryz.f3 Rows.deskLongSpec Rows.deskLongRow = true := by
  unfold joinedFacts
  rw [deskLong_in, deskLong_un, deskLong_re, deskLong_va]
  kernel_rfl
set_option maxRecDepth 100000 in
theorem deskLong_stand : (Tryz.f3.params.toList.all fun u => !Tryz.prog.wantsStandIn u) = true := by kernel_rfl
set_option maxRecDepth 100000 in
theorem deskLong_look : true = Tryz.checked.prog.looks [] := by kernel_rfl
theorem goes_none {P : Program} {c : OpenClaim} (h : (P.funcs.toList.all fun f => !f.goes) = true) (hs : c.start = .entering) : false = c.goesBy P := by
  have h0 : ∀ f ∈ P.funcs.toList, f.goes = false := fun f hf => by simpa using List.all_eq_true.1 h f hf
  have ha : P.funcs.any Func.goes = false := by
    rw [← Array.any_toList, List.any_eq_false]
    exact fun f hf => by rw [h0 f hf]; exact Bool.false_ne_true
  have hb : ∀ g : Nat, (P.funcs[g]?).any Func.goes = false := fun g => by
    cases hg : P.funcs[g]? with
    | none => rfl
    | some f => exact h0 f (Array.mem_toList_iff.2 (Array.mem_of_getElem? hg))
  have h1 : ∀ f, P.goes f = false := fun f => by
    unfold Program.goes
    simp [hb, ha]
  unfold OpenClaim.goesBy Program.goesAt Program.goesFrom
  rw [hs]
  cases P.funcNamed c.func with
  | none => rfl
  | some f => simp [h1]
set_option maxRecDepth 100000 in
theorem deskLong_goes : false = Rows.deskLongRow.goesBy Tryz.checked.prog := goes_none (show (Tryz.prog.funcs.toList.all fun f => !f.goes) = true by kernel_rfl) rfl
set_option maxRecDepth 100000 in
theorem deskLong_wf : Rows.deskLongRow.wfByText (OpenSpec.ofChange Rows.deskLongSpec) = true := by kernel_rfl
set_option maxRecDepth 100000 in
theorem deskLong_row : Rows.DeskLongSaid :=
  OpenClaim.holds_of_wide 3 Tryz.f3 rfl rfl rfl rfl rfl rfl rfl ⟨rfl, rfl, rfl, rfl, rfl⟩ rfl rfl rfl rfl rfl (by kernel_rfl) Tryz.func3 deskLong_facts
    (of_decide_eq_true (by kernel_rfl)) (by unfold Func.isWrapper; first | (rw [if_pos (by decide +kernel)]; kernel_rfl) | (rw [if_neg (by decide +kernel)]; exact ⟨rfl, rfl⟩))
    (fun os started H enc _ => deskLong_lifted os started H enc)
set_option maxRecDepth 100000 in
theorem deskLong_holds : Rows.DeskLongCardSaid :=
  Claim7.holds_tied_plain_at .later [] [.data, .data, .data, .data, .sentinel, .sentinel, .pinned] true (true, "9107884afa5c15a7d68593d52cde91a1c7e1a439664920c1676b17a3531fdaaf") true deskLong_row (fun _ h => by cases h) deskLong_wf (fun _ h => by cases h) deskLong_row_tie rfl ⟨rfl, rfl⟩ (by kernel_rfl) rfl
    (fun f fn hf hfn => by
      obtain rfl : f = 3 := Option.some.inj ((show Tryz.prog.funcNamed "steamer/steamerlaw28.DeskLong" = some 3 by kernel_rfl).symm.trans hf) |>.symm
      obtain rfl : fn = Tryz.f3 := (Option.some.inj (Tryz.func3.symm.trans hfn)).symm
      exact ⟨deskLong_look, fun j t ht => by
        rw [Tryz.params3] at ht
        have hm := Array.mem_of_getElem? ht
        have hall := deskLong_stand
        rw [Tryz.params3] at hall
        exact (show Tryz.prog.wantsStandIn t = false by simpa using List.all_eq_true.1 hall t (by simpa using hm))⟩)
    deskLong_goes
#print axioms deskLong_holds
end Go.Proofs.YtalnkjpgnkfedaaGreatDoor
