/-
  Calls that were run beforehand, each by itself: their arguments, the blocks that they touch, what they give and what blocks there are then.
-/
import Derived.Test.YtalnkjpgnkfedaaGreatDoorEo
namespace Go.Proofs.YtalnkjpgnkfedaaGreatDoor
open Go.RowKit
namespace Eng
namespace Rn
/-- A block: its number, its elements' type, the depth of its table, its cells. -/
structure Eb where
  id : Nat
  e : TypeId
  d : Nat
  l : List SV
/-- A call: how many blocks there were, arguments, blocks; the value, how many blocks there are then, blocks. -/
structure Me where
  n : Nat
  al : List AV
  l0 : List Eb
  v : AV
  n1 : Nat
  l1 : List Eb
noncomputable def lnS (l : List SV) : Nat := List.rec (motive := fun _ => Nat) 0 (fun _ _ ih => Nat.add ih 1) l
theorem lnS_eq : ∀ l : List SV, lnS l = l.length
  | [] => rfl
  | _ :: l => by
    show Nat.add (lnS l) 1 = _
    rw [lnS_eq l]; rfl
noncomputable def ckE (σ : Mem) (x : Eb) (r : Rs) : Rs := obK σ x.id fun ob => okK (Nat.beq ob.e x.e) (rdT ob.d ob.m 0 (lnS x.l) fun l => okK (lE x.l l) r)
noncomputable def ckL (σ : Mem) (l : List Eb) (r : Rs) : Rs := List.rec (motive := fun _ => Rs) r (fun x _ ih => ckE σ x ih) l
noncomputable def seE (x : Eb) (h : Tr Ob) (c : Tr Ob → Rs) : Rs := fN (lnS x.l) fun q => fillT x.d 0 x.l .nil fun m => setK dI x.id ⟨x.e, x.d, q, m⟩ h c
noncomputable def seL (l : List Eb) (h : Tr Ob) (c : Tr Ob → Rs) : Rs := List.rec (motive := fun _ => Tr Ob → (Tr Ob → Rs) → Rs) (fun h c => c h) (fun x _ ih h c => seE x h fun h => ih h c) l h c
noncomputable def kiL (l : List Eb) (h : Tr Ob) (c : Tr Ob → Rs) : Rs := List.rec (motive := fun _ => Tr Ob → (Tr Ob → Rs) → Rs) (fun h c => c h) (fun x _ ih h c => setK dI x.id ⟨0, 0, 0, .nil⟩ h fun h => ih h c) l h c
noncomputable def tvE (x y : TV) : Bool := match x, y with
  | .v a, .v b => sE a b
  | .g a, .g b => lE a b
  | _, _ => false
noncomputable def tlE (a : List TV) : List TV → Bool := List.rec (motive := fun _ => List TV → Bool) (fun b => match b with
  | [] => true
  | _ :: _ => false) (fun x _ ih b => match b with
  | [] => false
  | y :: r => an (tvE x y) (ih r)) a
noncomputable def avE (x y : AV) : Bool := match x, y with
  | .v a, .v b => sE a b
  | .g a, .g b => lE a b
  | .t a, .t b => tlE a b
  | .f g a, .f g' b => an (Nat.beq g g') (lE a b)
  | _, _ => false
noncomputable def alE (a : List AV) : List AV → Bool := List.rec (motive := fun _ => List AV → Bool) (fun b => match b with
  | [] => true
  | _ :: _ => false) (fun x _ ih b => match b with
  | [] => false
  | y :: r => an (avE x y) (ih r)) a
noncomputable def meO (m : Me) (al : List AV) (σ : Mem) : Rs := okK (alE m.al al) (ckL σ m.l0 (kiL m.l0 σ.h fun h => seL m.l1 h fun h => .mk (.val m.v) e0 ⟨m.n1, h, []⟩))
noncomputable def memoO (es : List Me) (al : List AV) (σ : Mem) : Rs := List.rec (motive := fun _ => Rs) .no (fun m _ ih => ifK (Nat.beq m.n σ.n) (meO m al σ) ih) es
noncomputable def ranK (m : Me) (r : Rs) : Rs := Rs.rec (motive := fun _ => Rs) .no (fun x _ σ => Ex.rec (motive := fun _ => Rs) .no (fun _ => .no) (fun _ => .no) .no (fun v => okK (avE m.v v) (okK (Nat.beq m.n1 σ.n) (ckL σ m.l1 (.mk .ret e0 σ)))) x) r
/-- The call by itself comes to this. -/
noncomputable def ranB (tab : List (Nat × Fe)) (N f : Nat) (m : Me) : Bool := Rs.rec (motive := fun _ => Bool) false (fun _ _ _ => true) (seL m.l0 .nil fun h => ranK m (run tab N f m.al ⟨m.n, h, []⟩))
theorem tvE_eq {x y : TV} (h : tvE x y = true) : x = y := by
  cases x with
  | v a =>
    cases y with
    | v b => have h : sE a b = true := h; rw [sE_eq h]
    | g b => cases h
  | g a =>
    cases y with
    | v b => cases h
    | g b => have h : lE a b = true := h; rw [lE_eq h]
theorem tlE_eq : ∀ {a b : List TV}, tlE a b = true → a = b
  | [], [], _ => rfl
  | [], _ :: _, h => by cases h
  | _ :: _, [], h => by cases h
  | x :: a, y :: b, h => by
    obtain ⟨h1, h2⟩ := an_inv (show an (tvE x y) (tlE a b) = true from h)
    rw [tvE_eq h1, tlE_eq h2]
theorem avE_eq {x y : AV} (h : avE x y = true) : x = y := by
  cases x with
  | v a =>
    cases y with
    | v b => have h : sE a b = true := h; rw [sE_eq h]
    | _ => cases h
  | g a =>
    cases y with
    | g b => have h : lE a b = true := h; rw [lE_eq h]
    | _ => cases h
  | t a =>
    cases y with
    | t b => have h : tlE a b = true := h; rw [tlE_eq h]
    | _ => cases h
  | f g a =>
    cases y with
    | f g' b =>
      obtain ⟨h1, h2⟩ := an_inv (show an (Nat.beq g g') (lE a b) = true from h)
      rw [Nat.eq_of_beq_eq_true h1, lE_eq h2]
    | _ => cases h
theorem alE_eq : ∀ {a b : List AV}, alE a b = true → a = b
  | [], [], _ => rfl
  | [], _ :: _, h => by cases h
  | _ :: _, [], h => by cases h
  | x :: a, y :: b, h => by
    obtain ⟨h1, h2⟩ := an_inv (show an (avE x y) (alE a b) = true from h)
    rw [avE_eq h1, alE_eq h2]
/-- These blocks are known. -/
def Has (σ : Mem) (l : List Eb) : Prop := ∀ x ∈ l, ∃ ob, oget σ x.id = some ob ∧ ob.e = x.e ∧ ∀ i, i < x.l.length → tget ob.d i ob.m = x.l[i]?
/-- What a block is in a table. -/
def IsB (x : Eb) (id : Nat) (ob : Ob) : Prop := x.id = id ∧ ob.e = x.e ∧ ob.n = x.l.length ∧ ∀ o, tget ob.d o ob.m = x.l[o]?
section
variable {res : Rs} (hr : res ≠ .no)
include hr
theorem ckL_inv {σ : Mem} {r : Rs} : ∀ {l : List Eb}, ckL σ l r = res → Has σ l ∧ r = res
  | [], h => ⟨fun x hx => (by cases hx), h⟩
  | x :: l, h => by
    obtain ⟨ob, h1, h⟩ := obK_inv hr (show obK σ x.id (fun ob => okK (Nat.beq ob.e x.e) (rdT ob.d ob.m 0 (lnS x.l) fun l' => okK (lE x.l l') (ckL σ l r))) = res from h)
    obtain ⟨h2, h⟩ := okK_inv h hr
    obtain ⟨l', h3, h4, h⟩ := rdT_inv hr h
    obtain ⟨h5, h⟩ := okK_inv h hr
    have h5 := lE_eq h5
    obtain ⟨h6, h7⟩ := ckL_inv h
    rw [lnS_eq] at h3 h4
    refine ⟨fun y hy => ?_, h7⟩
    rcases List.mem_cons.1 hy with rfl | hy
    · exact ⟨ob, h1, Nat.eq_of_beq_eq_true h2, fun i hi => by have := h4 i hi; rw [Nat.zero_add] at this; rw [this, ← h5]⟩
    · exact h6 y hy
theorem seL_inv : ∀ {l : List Eb} {h : Tr Ob} {c : Tr Ob → Rs}, seL l h c = res → ∃ h', c h' = res ∧ ∀ id ob, tget dI id h' = some ob → (∃ x ∈ l, IsB x id ob) ∨ ((∀ x ∈ l, x.id ≠ id) ∧ tget dI id h = some ob)
  | [], h, c, hh => ⟨h, hh, fun id ob ho => .inr ⟨fun x hx => (by cases hx), ho⟩⟩
  | x :: l, h, c, hh => by
    have hh : fN (lnS x.l) (fun q => fillT x.d 0 x.l .nil fun m => setK dI x.id ⟨x.e, x.d, q, m⟩ h fun h => seL l h c) = res := hh
    rw [fN_eq, lnS_eq] at hh
    obtain ⟨m, h1, hh⟩ := fillT_inv hr hh
    obtain ⟨t', h2, hh⟩ := setK_inv hr hh
    obtain ⟨h', h3, h4⟩ := seL_inv hh
    refine ⟨h', h3, fun id ob ho => ?_⟩
    rcases h4 id ob ho with ⟨y, hy, h5⟩ | ⟨h5, h6⟩
    · exact .inl ⟨y, List.mem_cons_of_mem _ hy, h5⟩
    · by_cases hid : id = x.id
      · subst hid
        rw [h2.1] at h6
        obtain rfl := Option.some.inj h6
        refine .inl ⟨x, List.mem_cons_self, rfl, rfl, rfl, fun o => ?_⟩
        show tget x.d o m = _
        rw [h1 o, tget_nil]
        by_cases ho' : o < x.l.length
        · rw [if_pos ⟨Nat.zero_le _, by omega⟩, Nat.sub_zero]
        · rw [if_neg (fun hh => ho' (by omega)), List.getElem?_eq_none (by omega)]
      · refine .inr ⟨fun y hy => ?_, by rw [← h2.2 id hid]; exact h6⟩
        rcases List.mem_cons.1 hy with rfl | hy
        · exact fun e => hid e.symm
        · exact h5 y hy
theorem kiL_inv : ∀ {l : List Eb} {h : Tr Ob} {c : Tr Ob → Rs}, kiL l h c = res → ∃ h', c h' = res ∧ ∀ id ob, tget dI id h' = some ob → ob.m = .nil ∨ ((∀ x ∈ l, x.id ≠ id) ∧ tget dI id h = some ob)
  | [], h, c, hh => ⟨h, hh, fun id ob ho => .inr ⟨fun x hx => (by cases hx), ho⟩⟩
  | x :: l, h, c, hh => by
    obtain ⟨t', h2, hh⟩ := setK_inv hr (show setK dI x.id ⟨0, 0, 0, .nil⟩ h (fun h => kiL l h c) = res from hh)
    obtain ⟨h', h3, h4⟩ := kiL_inv hh
    refine ⟨h', h3, fun id ob ho => ?_⟩
    rcases h4 id ob ho with h5 | ⟨h5, h6⟩
    · exact .inl h5
    · by_cases hid : id = x.id
      · subst hid
        rw [h2.1] at h6
        obtain rfl := Option.some.inj h6
        exact .inl rfl
      · refine .inr ⟨fun y hy => ?_, by rw [← h2.2 id hid]; exact h6⟩
        rcases List.mem_cons.1 hy with rfl | hy
        · exact fun e => hid e.symm
        · exact h5 y hy
end
/-- A call told by what it came to by itself. -/
theorem me_sound {tab : List (Nat × Fe)} (ht : TabOK tab) {N f : Nat} {m : Me} (hm : ranB tab N f m = true) {w0 : Fm} {al : List AV} {σ σ' : Mem} {a : AV} {e' : En} {ρ : Pl} {vs : List Value} {w : World} (hn : m.n = σ.n) (hq : meO m al σ = .mk (.val a) e' σ') (ha : ARs ρ al vs) (hM : MR w0 ρ σ w) : Does Tryz.prog f vs.toArray w (fun val w' => ∃ ρ', Up ρ ρ' ∧ AR ρ' a val ∧ MR w0 ρ' σ' w') := by
  obtain ⟨h1, h⟩ := okK_inv hq val_ne
  clear hq
  have h1 := alE_eq h1
  subst h1
  obtain ⟨h2, h⟩ := ckL_inv val_ne h
  obtain ⟨hk, h, h3⟩ := kiL_inv val_ne h
  obtain ⟨hs, h, h4⟩ := seL_inv val_ne h
  injection h with h5 _ h7
  injection h5 with h5
  subst h5; subst h7
  -- the call by itself
  have hne : (seL m.l0 .nil fun h => ranK m (run tab N f m.al ⟨m.n, h, []⟩)) ≠ .no := fun hh => by
    unfold ranB at hm
    rw [hh] at hm; cases hm
  obtain ⟨hb, hrun, h8⟩ := seL_inv hne (l := m.l0) (h := .nil) (c := fun h => ranK m (run tab N f m.al ⟨m.n, h, []⟩)) rfl
  have h8 : ∀ id ob, tget dI id hb = some ob → ∃ x ∈ m.l0, IsB x id ob := fun id ob ho => by
    rcases h8 id ob ho with hh | ⟨_, hh⟩
    · exact hh
    · rw [tget_nil] at hh; cases hh
  have hrn : ranK m (run tab N f m.al ⟨m.n, hb, []⟩) ≠ .no := fun hh => hne (by rw [← hrun]; exact hh)
  obtain ⟨v1, e1, σ1, hr1, hv1, hn1, hl1⟩ : ∃ v1 e1 σ1, run tab N f m.al ⟨m.n, hb, []⟩ = .mk (.val v1) e1 σ1 ∧ m.v = v1 ∧ m.n1 = σ1.n ∧ Has σ1 m.l1 := by
    generalize hq : run tab N f m.al ⟨m.n, hb, []⟩ = q at hrn
    cases q with
    | no => exact absurd rfl hrn
    | mk x e1 σ1 =>
      cases x with
      | val v1 =>
        have g0 : okK (avE m.v v1) (okK (Nat.beq m.n1 σ1.n) (ckL σ1 m.l1 (.mk .ret e0 σ1))) ≠ .no := hrn
        obtain ⟨g1, g⟩ := okK_inv rfl g0
        obtain ⟨g2, g⟩ := okK_inv g g0
        obtain ⟨g3, _⟩ := ckL_inv g0 g
        exact ⟨v1, e1, σ1, rfl, avE_eq g1, Nat.eq_of_beq_eq_true g2, g3⟩
      | _ => exact absurd rfl hrn
  subst hv1
  have hsub : ∀ id o x, cget ⟨m.n, hb, []⟩ id o = some x → cget σ id o = some x ∧ ∃ y ∈ m.l0, y.id = id := fun id o x hx => by
    obtain ⟨ob, q1, q2⟩ := cget_iff.1 hx
    obtain ⟨y, hy, q3, _, _, q5⟩ := h8 id ob q1
    obtain ⟨ob2, q6, _, q8⟩ := h2 y hy
    rw [q5 o] at q2
    have hlt := (List.getElem?_eq_some_iff.1 q2).1
    exact ⟨cget_iff.2 ⟨ob2, by rw [← q3]; exact q6, by rw [q8 o hlt]; exact q2⟩, y, hy, q3⟩
  have hin : ∀ y ∈ m.l0, ∀ (i : Nat), i < y.l.length → (cget σ y.id i).isSome = true := fun y hy i hi => by
    obtain ⟨ob2, q6, _, q8⟩ := h2 y hy
    rw [cget_iff.2 ⟨ob2, q6, (q8 i hi).trans (List.getElem?_eq_getElem hi)⟩]; rfl
  have hok : TabI (fun b => ∃ id o p, (cget ⟨m.n, hb, []⟩ id o).isSome = true ∧ ρ[id]? = some p ∧ p.b = b) w := w0.ok.of hM.old fun b hb' => by
    obtain ⟨id, o, p, q1, q2, rfl⟩ := hb'
    obtain ⟨x, hx⟩ := Option.isSome_iff_exists.1 q1
    exact hM.far id o p (by rw [(hsub id o x hx).1]; rfl) q2
  have hM0 : MR ⟨fun b => ∃ id o p, (cget ⟨m.n, hb, []⟩ id o).isSome = true ∧ ρ[id]? = some p ∧ p.b = b, w, hok⟩ ρ ⟨m.n, hb, []⟩ w := {
    len := by rw [hM.len]; exact hn.symm
    blk := fun id ob q1 q2 => by
      obtain ⟨o, q2⟩ := q2
      obtain ⟨x, hx⟩ := Option.isSome_iff_exists.1 q2
      obtain ⟨y, hy, q3, q4, _, q5⟩ := h8 id ob q1
      obtain ⟨ob2, q6, q7, q8⟩ := h2 y hy
      have hcell : ∀ o x, tget ob.d o ob.m = some x → tget ob2.d o ob2.m = some x := fun o x hx => by
        rw [q5 o] at hx
        rw [q8 o (List.getElem?_eq_some_iff.1 hx).1]; exact hx
      obtain ⟨p, cs, r1, r2, r3, r4⟩ := hM.blk id ob2 (by rw [← q3]; exact q6) ⟨o, by rw [hcell o x hx]; rfl⟩
      exact ⟨p, cs, r1, by rw [q4, ← q7]; exact r2, r3, fun o x hx => r4 o x (hcell o x hx)⟩
    old := Fr.refl _ _
    far := fun id o p q1 q2 => .inr ⟨id, o, p, q1, q2, rfl⟩
    pre := fun id ob q1 o ho => by
      obtain ⟨y, hy, _, _, q4, q5⟩ := h8 id ob q1
      rw [q5 o, List.getElem?_eq_none (by omega)]
    apart := fun id id' o o' p p' hne q1 q2 q3 q4 => by
      obtain ⟨x, hx⟩ := Option.isSome_iff_exists.1 q1
      obtain ⟨x', hx'⟩ := Option.isSome_iff_exists.1 q2
      exact hM.apart id id' o o' p p' hne (by rw [(hsub id o x hx).1]; rfl) (by rw [(hsub id' o' x' hx').1]; rfl) q3 q4
    mps := Mps.nil _ _ _ }
  refine Does.mono (run_sound ht N _ f m.al ⟨m.n, hb, []⟩ _ e1 σ1 ρ vs w hr1 ha hM0) fun val w' hh => ?_
  obtain ⟨ρ', hu, hav, hM1⟩ := hh
  refine ⟨ρ', hu, hav, ?_⟩
  -- a block that the call does not touch
  have off : ∀ id o p, (cget σ id o).isSome = true → ρ[id]? = some p → (∀ x ∈ m.l0, x.id ≠ id) → ¬ ∃ id o p', (cget ⟨m.n, hb, []⟩ id o).isSome = true ∧ ρ[id]? = some p' ∧ p'.b = p.b := fun id o p q1 q2 q3 => by
    rintro ⟨id2, o2, p2, r1, r2, r3⟩
    obtain ⟨x, hx⟩ := Option.isSome_iff_exists.1 r1
    obtain ⟨r4, y, hy, r5⟩ := hsub id2 o2 x hx
    exact hM.apart id2 id o2 o p2 p (fun e => q3 y hy (r5.trans e)) (by rw [r4]; rfl) q1 r2 q2 r3
  have may1 : ∀ b, (Fm.mk (fun b => ∃ id o p, (cget ⟨m.n, hb, []⟩ id o).isSome = true ∧ ρ[id]? = some p ∧ p.b = b) w hok).may b → w0.may b := fun b hb' => by
    rcases hb' with hb' | ⟨id, o, p, r1, r2, rfl⟩
    · exact .inl (Nat.le_trans hM.old.size hb')
    · obtain ⟨x, hx⟩ := Option.isSome_iff_exists.1 r1
      exact hM.far id o p (by rw [(hsub id o x hx).1]; rfl) r2
  -- what is known then
  have cls : ∀ id ob, oget ⟨m.n1, hs, []⟩ id = some ob → (∃ o, (tget ob.d o ob.m).isSome = true) → (∃ x ∈ m.l1, IsB x id ob) ∨ ((∀ x ∈ m.l0, x.id ≠ id) ∧ oget σ id = some ob) := fun id ob q1 q2 => by
    rcases h4 id ob q1 with hh | ⟨_, hh⟩
    · exact .inl hh
    · rcases h3 id ob hh with hh | hh
      · obtain ⟨o, q2⟩ := q2
        rw [hh, tget_nil] at q2; cases q2
      · exact .inr hh
  have one : ∀ x ∈ m.l1, ∀ id ob, IsB x id ob → ∃ ob1, oget σ1 id = some ob1 ∧ ob1.e = ob.e ∧ ∀ o y, tget ob.d o ob.m = some y → tget ob1.d o ob1.m = some y := fun x hx id ob hi => by
    obtain ⟨i1, i2, _, i4⟩ := hi
    obtain ⟨ob1, r1, r2, r3⟩ := hl1 x hx
    refine ⟨ob1, by rw [← i1]; exact r1, by rw [r2, i2], fun o y hy => ?_⟩
    rw [i4 o] at hy
    rw [r3 o (List.getElem?_eq_some_iff.1 hy).1]; exact hy
  have cell : ∀ id o, (cget ⟨m.n1, hs, []⟩ id o).isSome = true → (cget σ1 id o).isSome = true ∨ ((∀ x ∈ m.l0, x.id ≠ id) ∧ (cget σ id o).isSome = true) := fun id o q => by
    obtain ⟨y, hy⟩ := Option.isSome_iff_exists.1 q
    obtain ⟨ob, q1, q2⟩ := cget_iff.1 hy
    rcases cls id ob q1 ⟨o, by rw [q2]; rfl⟩ with ⟨x, hx, hi⟩ | ⟨r1, r2⟩
    · obtain ⟨ob1, r1, _, r3⟩ := one x hx id ob hi
      exact .inl (by rw [cget_iff.2 ⟨ob1, r1, r3 o y q2⟩]; rfl)
    · exact .inr ⟨r1, by rw [cget_iff.2 ⟨ob, r2, q2⟩]; rfl⟩
  have old : ∀ id o p, (cget σ id o).isSome = true → ρ'[id]? = some p → ρ[id]? = some p := fun id o p q1 q2 => by
    obtain ⟨y, hy⟩ := Option.isSome_iff_exists.1 q1
    obtain ⟨p0, _, _, _, r1, _⟩ := hM.at_ hy
    have := hu _ _ r1
    rw [q2] at this
    rw [r1, Option.some.inj this]
  exact {
    len := hM1.len.trans hn1.symm
    blk := fun id ob q1 q2 => by
      rcases cls id ob q1 q2 with ⟨x, hx, hi⟩ | ⟨r1, r2⟩
      · obtain ⟨ob1, r1, r2, r3⟩ := one x hx id ob hi
        obtain ⟨o, q2⟩ := q2
        obtain ⟨y, hy⟩ := Option.isSome_iff_exists.1 q2
        obtain ⟨p, cs, s1, s2, s3, s4⟩ := hM1.blk id ob1 r1 ⟨o, by rw [r3 o y hy]; rfl⟩
        exact ⟨p, cs, s1, by rw [← r2]; exact s2, s3, fun o y hy => s4 o y (r3 o y hy)⟩
      · obtain ⟨p, cs, s1, s2, s3, s4⟩ := hM.blk id ob r2 q2
        obtain ⟨o, q2⟩ := q2
        obtain ⟨y, hy⟩ := Option.isSome_iff_exists.1 q2
        refine ⟨p, cs, hu _ _ s1, s2.fr hM1.old (off id o p (by rw [cget_iff.2 ⟨ob, r2, hy⟩]; rfl) s1 r1), s3, fun o y hy => ?_⟩
        obtain ⟨v, t1, t2⟩ := s4 o y hy
        exact ⟨v, t1, t2.up hu⟩
    old := hM.old.trans hM1.old fun j hj hS => by
      rcases may1 j (.inr hS) with hh | hh
      · have hh : w0.w.heap.size ≤ j := hh
        omega
      · exact hh
    far := fun id o p q1 q2 => by
      rcases cell id o q1 with hh | ⟨_, hh⟩
      · exact may1 _ (hM1.far id o p hh q2)
      · exact hM.far id o p hh (old id o p hh q2)
    pre := fun id ob q1 o ho => by
      cases hq : tget ob.d o ob.m with
      | none => rfl
      | some y =>
        rcases cls id ob q1 ⟨o, by rw [hq]; rfl⟩ with ⟨x, hx, _, _, i3, i4⟩ | ⟨_, r2⟩
        · rw [i4 o, List.getElem?_eq_none (by omega)] at hq; cases hq
        · rw [hM.pre id ob r2 o ho] at hq; cases hq
    apart := fun id id' o o' p p' hne q1 q2 q3 q4 => by
      have mix : ∀ id id' o o' p p', (cget σ1 id o).isSome = true → ρ'[id]? = some p → (∀ x ∈ m.l0, x.id ≠ id') → (cget σ id' o').isSome = true → ρ'[id']? = some p' → p.b ≠ p'.b := fun id id' o o' p p' r1 r2 r3 r4 r5 => by
        have r6 := old id' o' p' r4 r5
        rcases hM1.far id o p r1 r2 with hh | hh
        · have hh : w.heap.size ≤ p.b := hh
          have := hM.below id' o' p' r4 r6
          omega
        · intro e
          refine off id' o' p' r4 r6 r3 ?_
          rw [← e]; exact hh
      rcases cell id o q1 with hh | ⟨g1, hh⟩
      · rcases cell id' o' q2 with hh' | ⟨g1', hh'⟩
        · exact hM1.apart id id' o o' p p' hne hh hh' q3 q4
        · exact mix id id' o o' p p' hh q3 g1' hh' q4
      · rcases cell id' o' q2 with hh' | ⟨g1', hh'⟩
        · exact (mix id' id o' o p' p hh' q4 g1 hh q3).symm
        · exact hM.apart id id' o o' p p' hne hh hh' (old id o p hh q3) (old id' o' p' hh' q4)
    mps := Mps.nil _ _ _ }
theorem memo_orc {tab : List (Nat × Fe)} (ht : TabOK tab) {N f : Nat} : ∀ {es : List Me}, (∀ m ∈ es, ranB tab N f m = true) → OrcS f (memoO es)
  | [], _ => fun w0 al σ a e' σ' ρ vs w h ha hM => by cases h
  | m :: es, hm => fun w0 al σ a e' σ' ρ vs w h ha hM => by
    have h : ifK (Nat.beq m.n σ.n) (meO m al σ) (memoO es al σ) = .mk (.val a) e' σ' := h
    rw [ifK_eq] at h
    split at h
    · rename_i hb
      exact me_sound ht (hm m List.mem_cons_self) (Nat.eq_of_beq_eq_true hb) h ha hM
    · exact memo_orc ht (fun m' hm' => hm m' (List.mem_cons_of_mem _ hm')) w0 al σ a e' σ' ρ vs w h ha hM
theorem memo_nil {f : Nat} : OrcS f (memoO []) := fun w0 al σ a e' σ' ρ vs w h ha hM => by cases h
theorem memo_cons {tab : List (Nat × Fe)} (ht : TabOK tab) {N f : Nat} {m : Me} {es : List Me} (hm : ranB tab N f m = true) (h0 : OrcS f (memoO es)) : OrcS f (memoO (m :: es)) := fun w0 al σ a e' σ' ρ vs w h ha hM => by
  have h : ifK (Nat.beq m.n σ.n) (meO m al σ) (memoO es al σ) = .mk (.val a) e' σ' := h
  rw [ifK_eq] at h
  split at h
  · rename_i hb
    exact me_sound ht hm (Nat.eq_of_beq_eq_true hb) h ha hM
  · exact h0 w0 al σ a e' σ' ρ vs w h ha hM
def RanL (tab : List (Nat × Fe)) (N f : Nat) : List Me → Prop
  | [] => True
  | m :: es => ranB tab N f m = true ∧ RanL tab N f es
theorem memo_all {tab : List (Nat × Fe)} (ht : TabOK tab) {N f : Nat} {es : List Me} (h : RanL tab N f es) : OrcS f (memoO es) := memo_orc ht (by
  induction es with
  | nil => intro m hm; cases hm
  | cons x es ih =>
    intro m hm
    rcases List.mem_cons.1 hm with rfl | hm
    · exact h.1
    · exact ih h.2 m hm)
theorem tok_nil : TabOK [] := fun x hx => by cases hx
theorem tok_cons {f : Nat} {x : Fe} {l : List (Nat × Fe)} (h : FeOK f x) (t : TabOK l) : TabOK ((f, x) :: l) := fun y hy => by
  rcases List.mem_cons.1 hy with rfl | hy
  · exact h
  · exact t y hy
/-- Cells of numbers of one kind. -/
noncomputable def nv (k : IntKind) (l : List Nat) : List SV := List.rec (motive := fun _ => List SV) [] (fun x _ ih => .n k x :: ih) l
end Rn
end Eng
end Go.Proofs.YtalnkjpgnkfedaaGreatDoor
