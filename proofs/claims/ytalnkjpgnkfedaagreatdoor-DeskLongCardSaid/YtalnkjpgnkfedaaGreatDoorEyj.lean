/-
  Regions whose reads are held.
-/
import Derived.Test.YtalnkjpgnkfedaaGreatDoorEyg
namespace Go.Proofs.YtalnkjpgnkfedaaGreatDoor
open Go.RowKit
namespace Eng
namespace Rn
theorem kn_inj {k k' : IntKind} (h : Nat.beq (kn k) (kn k') = true) : k = k' := by
  cases k <;> cases k' <;> first | rfl | cases h
theorem eU_inj : ∀ {a b : List Nat}, eU a b = true → a = b
  | [], [], _ => rfl
  | [], _ :: _, h => by cases h
  | _ :: _, [], h => by cases h
  | x :: a, y :: b, h => by
    have h' : Bool.rec (motive := fun _ => Bool) false (eU a b) (Nat.beq x y) = true := h
    rcases beq_cases x y with ⟨h1, h2⟩ | ⟨h1, h2⟩
    · rw [h2] at h'
      rw [h1, eU_inj (a := a) (b := b) h']
    · rw [h2] at h'
      cases h'
theorem sE_eq {x y : SV} (h : sE x y = true) : x = y := by
  cases x with
  | n k a =>
    cases y <;> try cases h
    obtain ⟨h1, h2⟩ := an_inv h
    rw [kn_inj h1, Nat.eq_of_beq_eq_true h2]
  | m k a =>
    cases y <;> try cases h
    obtain ⟨h1, h2⟩ := an_inv h
    rw [kn_inj h1, Nat.eq_of_beq_eq_true h2]
  | b q =>
    cases y with
    | b q' =>
      have h : eB q q' = true := h
      rw [eB_eq] at h
      rw [eq_of_beq h]
    | _ => cases h
  | s l =>
    cases y with
    | s l' =>
      have h : eU l l' = true := h
      rw [eU_inj h]
    | _ => cases h
  | p0 => cases y <;> first | exact rfl | cases h
  | p i a =>
    cases y <;> try cases h
    obtain ⟨h1, h2⟩ := an_inv h
    rw [Nat.eq_of_beq_eq_true h1, Nat.eq_of_beq_eq_true h2]
  | l0 => cases y <;> first | exact rfl | cases h
  | l i a b c =>
    cases y <;> try cases h
    obtain ⟨h1, h2⟩ := an_inv h
    obtain ⟨h2, h3⟩ := an_inv h2
    obtain ⟨h3, h4⟩ := an_inv h3
    rw [Nat.eq_of_beq_eq_true h1, Nat.eq_of_beq_eq_true h2, Nat.eq_of_beq_eq_true h3, Nat.eq_of_beq_eq_true h4]
  | lx i a b c d =>
    cases y <;> try cases h
    obtain ⟨h1, h2⟩ := an_inv h
    obtain ⟨h2, h3⟩ := an_inv h2
    obtain ⟨h3, h4⟩ := an_inv h3
    obtain ⟨h4, h5⟩ := an_inv h4
    rw [Nat.eq_of_beq_eq_true h1, Nat.eq_of_beq_eq_true h2, Nat.eq_of_beq_eq_true h3, Nat.eq_of_beq_eq_true h4, Nat.eq_of_beq_eq_true h5]
  | fl a =>
    cases y <;> try cases h
    rw [Nat.eq_of_beq_eq_true h]
  | i0 => cases y <;> first | exact rfl | cases h
  | mp a =>
    cases y <;> try cases h
    rw [Nat.eq_of_beq_eq_true h]
  | cx a b =>
    cases y <;> try cases h
    obtain ⟨h1, h2⟩ := an_inv h
    rw [Nat.eq_of_beq_eq_true h1, Nat.eq_of_beq_eq_true h2]
  | le i a b c =>
    cases y <;> try cases h
    obtain ⟨h1, h2⟩ := an_inv h
    obtain ⟨h2, h3⟩ := an_inv h2
    obtain ⟨h3, h4⟩ := an_inv h3
    rw [Nat.eq_of_beq_eq_true h1, Nat.eq_of_beq_eq_true h2, Nat.eq_of_beq_eq_true h3, Nat.eq_of_beq_eq_true h4]
  | u => cases y <;> cases h
theorem lE_eq : ∀ {a b : List SV}, lE a b = true → a = b
  | [], [], _ => rfl
  | [], _ :: _, h => by cases h
  | _ :: _, [], h => by cases h
  | x :: a, y :: b, h => by
    have h' : an (sE x y) (lE a b) = true := h
    obtain ⟨h1, h2⟩ := an_inv h'
    rw [sE_eq h1, lE_eq h2]
theorem SRs.one {ρ : Pl} {l : List SV} {us vs : List Value} (h : SRs ρ l us) (h' : SRs ρ l vs) : us = vs := by
  induction h generalizing vs with
  | nil => cases h'; rfl
  | cons h1 _ ih =>
    cases h' with
    | cons h3 h4 => rw [SR.one h1.2 h3.2, ih h4]
/-- What is held of reads. -/
def Hold (σ0 : Mem) (ms : List Mem) (n : Nt) : Prop := n.1 < σ0.n ∧ ∀ s ∈ σ0 :: ms, ∀ i, i < n.2.2.length → cget s n.1 (n.2.1 + i) = n.2.2[i]?
section
variable {res : Rs} (hr : res ≠ .no)
include hr
theorem ckM_inv {n : Nt} {r : Rs} : ∀ {ms : List Mem}, ckM ms n r = res → r = res ∧ ∀ s ∈ ms, ∀ i, i < n.2.2.length → cget s n.1 (n.2.1 + i) = n.2.2[i]?
  | [], h => ⟨h, fun s hs => by cases hs⟩
  | σ :: ms, h => by
    obtain ⟨ob, l, h1, h2, h3, h4⟩ := rdK_inv hr (show rdK σ n.1 n.2.1 n.2.2.length (fun l => okK (lE n.2.2 l) (ckM ms n r)) = res from h)
    obtain ⟨h5, h6⟩ := okK_inv h4 hr
    have h7 := lE_eq h5
    obtain ⟨h9, h10⟩ := ckM_inv h6
    refine ⟨h9, fun s hs => ?_⟩
    rcases List.mem_cons.1 hs with rfl | hs
    · exact fun i hi => by rw [h3 i hi, h7]
    · exact h10 s hs
theorem ckA_inv {σ0 : Mem} {ms : List Mem} {r : Rs} : ∀ {hs : List Nt}, ckA σ0 ms hs r = res → r = res ∧ ∀ n ∈ hs, Hold σ0 ms n
  | [], h => ⟨h, fun s hs => by cases hs⟩
  | n :: hs, h => by
    obtain ⟨h1, h2⟩ := okK_inv (show okK (Nat.ble (Nat.add n.1 1) σ0.n) (ckM (σ0 :: ms) n (ckA σ0 ms hs r)) = res from h) hr
    obtain ⟨h3, h4⟩ := ckM_inv hr h2
    obtain ⟨h5, h6⟩ := ckA_inv h3
    refine ⟨h5, fun k hk => ?_⟩
    rcases List.mem_cons.1 hk with rfl | hk
    · exact ⟨Nat.le_of_ble_eq_true h1, fun s hs => h4 s hs⟩
    · exact h6 k hk
end
/-- The reads of hl give in this world what they gave at first. -/
def HH (ρ0 : Pl) (hl : List Nt) (w' : World) : Prop := ∀ n ∈ hl, ∀ p vs, ρ0[n.1]? = some p → SRs ρ0 n.2.2 vs → ∀ (j : Nat) u, vs[j]? = some u → w'.cell? ⟨p.b, n.2.1 + j, none⟩ = some u
theorem hold_at {w0 : Fm} {ρ0 ρ : Pl} {σ0 s : Mem} {ms : List Mem} {hl : List Nt} {w' : World} (hM : MR w0 ρ s w') (hu : Up ρ0 ρ) (hs : s ∈ σ0 :: ms) (hh : ∀ n ∈ hl, Hold σ0 ms n) : HH ρ0 hl w' := fun n hn p vs hp hv j u hj => by
  obtain ⟨_, h2⟩ := hh n hn
  obtain ⟨vs', h4, h5⟩ := hM.cells (hu _ _ hp) (l := n.2.2) (o := n.2.1) (fun i hi => h2 s hs i hi)
  have := SRs.one (hv.up hu) h4
  subst this
  exact (h5 j u hj).1
section
variable {w0 : Fm} {m : Nat} {ih : Cl} {e : En} {σ : Mem} {res : Rs} {ρ : Pl} {env : Env} {w : World} (hr : res ≠ .no)
include hr
theorem ldH_inv (hE : ER m ρ e env) {t : TypeId} {x : Operand} {k : AV → Nt → Rs} (h : (ldH m t x).f e σ k = res) : ∃ id o l av p, evo env x = some (.pointer (some ⟨p.b, o, none⟩)) ∧ ρ[id]? = some p ∧ (∀ i, i < l.length → cget σ id (o + i) = l[i]?) ∧ k av (id, o, l) = res ∧ ((one t = true ∧ ∃ y, l = [y] ∧ av = .v y) ∨ (get l_agg t = some l.length ∧ av = .g l)) := by
  unfold ldH at h
  split at h
  · rename_i ht
    obtain ⟨a, v, h1, h2, g1⟩ := gtW_inv hr hE h
    obtain ⟨id, o, e0, g2⟩ := onP_inv hr g1
    obtain ⟨ob, g3, g4⟩ := obK_inv hr g2
    obtain ⟨y, g5, g6⟩ := getK_inv hr g4
    subst e0
    obtain ⟨p, h3, rfl⟩ := h2
    refine ⟨id, o, [y], .v y, p, h1, h3, fun i hi => ?_, g6, .inl ⟨ht, y, rfl, rfl⟩⟩
    have hi : i = 0 := by
      have : i < 1 := hi
      omega
    subst hi
    exact cget_iff.2 ⟨ob, g3, g5⟩
  · split at h
    · rename_i n hn
      rw [cN_eq] at h
      obtain ⟨a, v, h1, h2, g1⟩ := gtW_inv hr hE h
      obtain ⟨id, o, e0, g2⟩ := onP_inv hr g1
      obtain ⟨ob, l, g3, g4, g5, g6⟩ := rdK_inv hr g2
      subst e0
      obtain ⟨p, h3, rfl⟩ := h2
      exact ⟨id, o, l, .g l, p, h1, h3, fun i hi => g5 i (by omega), g6, .inr ⟨by rw [g4]; exact hn, rfl⟩⟩
    · exact absurd h.symm hr
omit hr in
theorem memb_none {hs : List Nat} (h : memb hs none = true) : False := by
  cases hs <;> cases h
omit hr in
theorem isI_str {t : TypeId} (h : isS t = true) : isI t = false := by
  unfold isI
  cases hk : kindOf t with
  | none => rfl
  | some k =>
    have h1 := str_spec h
    rw [kind_spec hk] at h1
    cases h1
theorem cvN_inv (hM : MR w0 ρ σ w) {id z j n : Nat} {p : At} (hp : ρ[id]? = some p) {k : AV → Nt → Rs} (h : cvN σ k id z j n = res) : ∃ r l vs, z = 1 ∧ l.length = n ∧ r.length = n ∧ (∀ c ∈ r, c < 256) ∧ r.length ≤ maxLen ∧ (∀ i, i < l.length → cget σ id (j + i) = l[i]?) ∧ SRs ρ l vs ∧ vs = (uOf r).map (fun b => Value.int .u8 (b.toNat : Int)) ∧ (∀ (i : Nat) u, vs[i]? = some u → w.cell? ⟨p.b, j + i, none⟩ = some u) ∧ k (.v (.s r)) (id, j, l) = res := by
  obtain ⟨hz, h1⟩ := okK_inv (show okK (Nat.beq z 1) _ = res from h) hr
  have hz := Nat.eq_of_beq_eq_true hz
  obtain ⟨ob, l, g3, g4, g5, g6⟩ := rdK_inv hr h1
  have hc : ∀ i, i < l.length → cget σ id (j + i) = l[i]? := fun i hi => g5 i (by omega)
  obtain ⟨vs, h4, h5⟩ := hM.cells hp hc
  obtain ⟨r, f1, f2, f3, f4⟩ := byK_inv hr g6 h4
  obtain ⟨hb, f5⟩ := okK_inv f4 hr
  exact ⟨r, l, vs, hz, g4, by omega, f2, Nat.le_of_ble_eq_true hb, hc, h4, f3, fun i u hu => (h5 i u hu).1, f5⟩
/-- A text made of bytes, held. -/
theorem rdH_inv (hE : ER m ρ e env) (hM : MR w0 ρ σ w) {op : Op} {k : AV → Nt → Rs} (h : (rdH m op).f e σ k = res) : ∃ s t x el id j l vs r p c, op = .convert s t x ∧ Tryz.prog.underlying s = some (.slice el) ∧ Tryz.prog.underlying el = some (.int .u8) ∧ evo env x = some (.slice (some ⟨p.b, j, none⟩) (uOf r).length c) ∧ ρ[id]? = some p ∧ (∀ c ∈ r, c < 256) ∧ r.length ≤ maxLen ∧ (∀ i, i < l.length → cget σ id (j + i) = l[i]?) ∧ SRs ρ l vs ∧ vs = (uOf r).map (fun b => Value.int .u8 (b.toNat : Int)) ∧ (∀ (i : Nat) u, vs[i]? = some u → w.cell? ⟨p.b, j + i, none⟩ = some u) ∧ k (.v (.s r)) (id, j, l) = res := by
  have hu : ∀ r : List Nat, (uOf r).length = r.length := fun r => List.length_map _
  unfold rdH at h
  split at h
  · rename_i s t x
    split at h
    · rename_i el _ hel
      split at h
      · rename_i hk8
        obtain ⟨hus, _⟩ := elemOf_inv hel
        obtain ⟨a, v, h1, h2, g1⟩ := gtW_inv hr hE h
        rcases onL_inv hr g1 with ⟨e1, q⟩ | ⟨id, z, j, n, e1, q⟩ | ⟨id, z, j, n, c, e1, q⟩ | ⟨_, _, _, _, e1, q⟩ | ⟨l, e1, q⟩ | ⟨id, o, e1, q⟩
        · exact absurd q.symm hr
        · subst e1
          obtain ⟨p, hp, h3, hc, hmx, rfl⟩ := h2
          obtain ⟨r, l, vs, rfl, k1, k2, k3, k4, k5, k6, k7, k8, k9⟩ := cvN_inv hr hM hp q
          exact ⟨s, t, x, el, id, j, l, vs, r, p, _, rfl, hus, kind_spec hk8, by rw [h1, hu, k2, Nat.mul_one], hp, k3, k4, k5, k6, k7, k8, k9⟩
        · subst e1
          obtain ⟨p, hp, h3, hmx, rfl⟩ := h2
          obtain ⟨r, l, vs, rfl, k1, k2, k3, k4, k5, k6, k7, k8, k9⟩ := cvN_inv hr hM hp q
          exact ⟨s, t, x, el, id, j, l, vs, r, p, _, rfl, hus, kind_spec hk8, by rw [h1, hu, k2, Nat.mul_one], hp, k3, k4, k5, k6, k7, k8, k9⟩
        · exact absurd q.symm hr
        · exact absurd q.symm hr
        · exact absurd q.symm hr
      · exact absurd h.symm hr
    · exact absurd h.symm hr
  · exact absurd h.symm hr
omit hr in
theorem cls_r {s t : TypeId} {x : Operand} (h : cls isI isS (.convert s t x) = .r) : isS t = true := by
  simp only [cls] at h
  split at h
  · cases h
  · split at h
    · assumption
    · cases h
omit hr in
theorem run_cvH {s t el : TypeId} {p : At} {j c : Nat} {r : List UInt8} (h1 : Tryz.prog.underlying s = some (.slice el)) (h2 : Tryz.prog.underlying el = some (.int .u8)) (h3 : isS t = true) (hc : ∀ (i : Nat) u, (r.map (fun b => Value.int .u8 (b.toNat : Int)))[i]? = some u → w.cell? ⟨p.b, j + i, none⟩ = some u) : (convert s t (.slice (some ⟨p.b, j, none⟩) r.length c)).run Tryz.prog w = .ok (.string (su r)) w :=
  run_convert_bytes_back (P := Tryz.prog) w s t el ⟨p.b, j, none⟩ c r h1 h2 (str_spec h3) (fun i hi => by
    have := hc i (Value.int .u8 (r[i].toNat : Int)) (by rw [List.getElem?_map, List.getElem?_eq_getElem hi]; rfl)
    rw [Addr.add_lit]; exact this)
/-- What comes behind an operation, with what was noted. -/
def ThH (w0 : Fm) (m : Nat) (ρ : Pl) (e : En) (c : Kr) (res : Rs) : Env → World → Prop := fun env' w' => ∃ e' σ' ρ', c e' σ' = res ∧ Up ρ ρ' ∧ ER m ρ' e' env' ∧ MR w0 ρ' σ' w' ∧ (∀ n ∈ e.hs, n ∈ e'.hs) ∧ ∀ s ∈ e.ms, s ∈ e'.ms
omit hr in
theorem ER.same {e' : En} (h : ER m ρ e env) (h1 : e'.vs = e.vs) (h2 : e'.ts = e.ts) : ER m ρ e' env := fun t a ha => by
  refine h t a ?_
  unfold elk at ha ⊢
  rw [h1, h2] at ha
  exact ha
variable (hih : CallS w0 ih) (hE : ER m ρ e env) (hM : MR w0 ρ σ w)
include hih hE hM
/-- An operation of the kind that changes the world. -/
theorem s_wop {full : List Oper} {c : Kr} {d : Option Tmp} {op : Op} {ty : TypeId} {pos : String} {af : Array Edge} (hd : dsO d op = true) (h : (opW m op).f ih e σ (fun v σ => (puW m d).f e v fun e => c ⟨e.vs, e.ts, e.hs, σ :: e.ms⟩ σ) = res) :
    xs Tryz.prog isI isS [] Eng.noH full.toArray (fun env' w' => ∃ e' σ' ρ', c e' σ' = res ∧ Up ρ ρ' ∧ ER m ρ' e' env' ∧ MR w0 ρ' σ' w' ∧ (∀ n ∈ e.hs, n ∈ e'.hs) ∧ (∀ s ∈ e.ms, s ∈ e'.ms) ∧ σ' ∈ e'.ms) [⟨d, op, ty, pos, af, none⟩] env w := by
  refine xs_one (s_op hr hih hE hM hd h) (fun env' w' hg => ?_)
  obtain ⟨v, σ', ρ', val, g1, g2, g3, g4, rfl⟩ := hg
  obtain ⟨e', k1, k3, k4, k2⟩ := puW_inv g1
  refine ⟨_, σ', ρ', k1, g2, ((hE.up g2).put g3 k2).same rfl rfl, g4, fun n hn => ?_, fun s hs => ?_, List.mem_cons_self⟩
  · show n ∈ e'.hs
    rw [k3]; exact hn
  · show s ∈ σ' :: e'.ms
    rw [k4]; exact List.mem_cons_of_mem _ hs
theorem s_pop {full : List Oper} {c : Kr} {d : Option Tmp} {op : Op} {ty : TypeId} {pos : String} {af : Array Edge} (hd : dsO d op = true) (h : (opW m op).f ih e σ (fun v σ' => (puW m d).f e v fun e => c e σ') = res) :
    xs Tryz.prog isI isS [] Eng.noH full.toArray (ThH w0 m ρ e c res) [⟨d, op, ty, pos, af, none⟩] env w := by
  refine xs_one (s_op hr hih hE hM hd h) (fun env' w' hg => ?_)
  obtain ⟨v, σ', ρ', val, g1, g2, g3, g4, rfl⟩ := hg
  obtain ⟨e', k1, k3, k4, k2⟩ := puW_inv g1
  refine ⟨_, σ', ρ', k1, g2, (hE.up g2).put g3 k2, g4, fun n hn => ?_, fun s hs => ?_⟩
  · rw [k3]; exact hn
  · rw [k4]; exact hs
/-- An operation, nothing held. -/
theorem s_orH {hs : List Nat} {full : List Oper} {c : Kr} {o : Oper} (h : (orH m hs full o).f ih e σ c = res) : xs Tryz.prog isI isS [] Eng.noH full.toArray (ThH w0 m ρ e c res) [o] env w := by
  obtain ⟨d, op, ty, pos, af, gd⟩ := o
  unfold orH at h
  split at h
  · exact absurd h.symm hr
  · rename_i hd
    have no : ∀ e', c e' σ = res → e'.hs = e.hs → e'.ms = e.ms → ER m ρ e' (Eng.put env d undef) → ThH w0 m ρ e c res (Eng.put env d undef) w := fun e' k1 k3 k4 k2 => ⟨e', σ, ρ, k1, Up.refl ρ, k2, hM, fun n hn => by rw [k3]; exact hn, fun s hs => by rw [k4]; exact hs⟩
    split at h
    · rename_i t x hop
      have hop : op = .load t x := hop
      subst hop
      split at h
      · refine s_guard hr hE h (fun h => ?_) no
        cases d with
        | none => cases hd
        | some d =>
          obtain ⟨id, o', l, av, p, h1, h2, h3, h4, h5⟩ := ldH_inv hr hE h
          obtain ⟨e', k1, k3, k4, k2⟩ := puW_inv h4
          obtain ⟨vs, g1, g2⟩ := hM.cells h2 h3
          have fin : ∀ val, AR ρ av val → ThH w0 m ρ e c res (Eng.put env (some d) val) w := fun val hv => by
            refine ⟨_, σ, ρ, k1, Up.refl ρ, (hE.put hv k2).same rfl rfl, hM, fun n hn => ?_, fun s hs => ?_⟩
            · show n ∈ (id, o', l) :: e'.hs
              rw [k3]; exact List.mem_cons_of_mem _ hn
            · show s ∈ e'.ms
              rw [k4]; exact hs
          rcases h5 with ⟨ht, y, rfl, rfl⟩ | ⟨ht, rfl⟩
          · cases g1 with
            | cons q1 q2 =>
              cases q2
              exact xld h1 ht (g2 0 _ rfl).1 (fin _ q1.2)
          · exact xldz h1 (by rw [g1.len]; exact ht) (fun j u hu => (g2 j u hu).1) (fin _ ⟨vs, g1, rfl⟩)
      · exact s_guard hr hE h (fun h => s_pop hr hih hE hM hd h) no
    · split at h
      · refine s_guard hr hE h (fun h => ?_) no
        refine xs_one (s_wop hr hih hE hM hd h) (fun env' w' hg => ?_)
        obtain ⟨e', σ', ρ', g1, g2, g3, g4, g5, g6, _⟩ := hg
        exact ⟨e', σ', ρ', g1, g2, g3, g4, g5, g6⟩
      · exact s_guard hr hE h (fun h => s_pop hr hih hE hM hd h) no
      · rename_i hcl
        split at h
        · rename_i hmem
          refine s_guard hr hE h (fun h => ?_) no
          cases d with
          | none => exact (memb_none hmem).elim
          | some d =>
            obtain ⟨s, t, x, el, id, j, l, vs, r, p, cc, rfl, q1, q2, q3, q4, q5, q6, q7, q8, q9, q10, q11⟩ := rdH_inv hr hE hM h
            obtain ⟨e', k1, k3, k4, k2⟩ := puW_inv q11
            have hS := cls_r hcl
            have hcl' : clsO isI isS [] ⟨some d, .convert s t x, ty, pos, af, none⟩ = .r := by
              simp [clsO, hcl, memb]
            have hrun := run_cvH (w := w) (c := cc) q1 q2 hS (fun i u hu => q10 i u (by rw [q9]; exact hu))
            refine x_gen rfl (by simp [opsOK, Op.operands, q3]) ?_
            rw [hcl']
            refine ⟨.string (su (uOf r)), by simp [execOp, ev_of q3, hrun], _, σ, ρ, k1, Up.refl ρ, (hE.put (v := .v (.s r)) ⟨rfl, q5, q6⟩ k2).same rfl rfl, hM, fun n hn => ?_, fun s hs => ?_⟩
            · show n ∈ (id, j, l) :: e'.hs
              rw [k3]; exact List.mem_cons_of_mem _ hn
            · show s ∈ e'.ms
              rw [k4]; exact hs
        · exact s_guard hr hE h (fun h => s_pop hr hih hE hM hd h) no
      · exact absurd h.symm hr
end
theorem xs_some {full : Array Oper} {K : Env → World → Prop} {o : Oper} {env : Env} {w : World} (h : xs Tryz.prog isI isS [] Eng.noH full K [o] env w) : ∃ env' w', K env' w' := by
  obtain ⟨g, hg, h1, h2⟩ := h
  cases g with
  | true =>
    obtain ⟨v, w', _, h3⟩ := acts_some (H := Eng.noH) trivial (h1 rfl).2
    exact ⟨_, w', h3⟩
  | false => exact ⟨_, w, h2 rfl⟩
theorem xs_someL {full : Array Oper} {K : Env → World → Prop} : ∀ {l : List Oper} {env : Env} {w : World}, xs Tryz.prog isI isS [] Eng.noH full K l env w → ∃ env' w', K env' w'
  | [], env, w, h => ⟨env, w, h⟩
  | o :: l, env, w, h => by
    obtain ⟨env', w', h'⟩ := xs_some (o := o) (K := fun env' w' => xs Tryz.prog isI isS [] Eng.noH full K l env' w') h
    exact xs_someL h'
noncomputable def fin0 : Kr := fun e σ => .mk .nrm e σ
/-- The end of such a region: what was read is there throughout; then the second part. -/
noncomputable def finH (m : Nat) (ih : Cl) (full l2 : List Oper) (σ0 : Mem) : Kr := fun e' σ' => ckA σ0 e'.ms e'.hs ((regW m full l2).f ih e' σ' fin0)
theorem mono_H {w0 : Fm} {m : Nat} {ih : Cl} {res : Rs} {σ0 : Mem} (hr : res ≠ .no) (hih : CallS w0 ih) {hs : List Nat} {full l2 : List Oper} : ∀ {l : List Oper} {e : En} {σ : Mem} {ρ : Pl} {env : Env} {w : World}, ER m ρ e env → MR w0 ρ σ w → (regH m hs full l).f ih e σ (finH m ih full l2 σ0) = res → ∃ ef σf, res = .mk .nrm ef σf ∧ (∀ n ∈ e.hs, n ∈ ef.hs) ∧ (∀ s ∈ e.ms, s ∈ ef.ms) ∧ ∀ n ∈ ef.hs, Hold σ0 ef.ms n
  | [], e, σ, ρ, env, w, hE, hM, h => by
    obtain ⟨h1, h2⟩ := ckA_inv hr (show ckA σ0 e.ms e.hs ((regW m full l2).f ih e σ fin0) = res from h)
    obtain ⟨env', w', e', σ', ρ', k1, k2, k3, _⟩ := xs_someL (s_reg hr hih hE hM h1)
    exact ⟨e', σ', k1.symm, fun n hn => by rw [k2]; exact hn, fun s hs => by rw [k3]; exact hs, by rw [k2, k3]; exact h2⟩
  | o :: l, e, σ, ρ, env, w, hE, hM, h => by
    have h' : (orH m hs full o).f ih e σ (fun e σ => (regH m hs full l).f ih e σ (finH m ih full l2 σ0)) = res := h
    obtain ⟨env', w', e', σ', ρ', h1, _, h3, h4, h5, h6⟩ := xs_some (s_orH hr hih hE hM h')
    obtain ⟨ef, σf, g1, g2, g3, g4⟩ := mono_H hr hih h3 h4 h1
    exact ⟨ef, σf, g1, fun n hn => g2 n (h5 n hn), fun s hs => g3 s (h6 s hs), g4⟩
theorem acts_monoH {P : Program} {H : World → Prop} {c : Cls} {s : Sem Next} {w : World} {S S' : Value → World → Prop} (h : ∀ v w', S v w' → S' v w') (hh : acts P H c s w S) : acts P H c s w S' := by
  cases c with
  | p => obtain ⟨v, h1, h2⟩ := hh; exact ⟨v, h1, h v w h2⟩
  | r => obtain ⟨v, h1, h2⟩ := hh; exact ⟨v, h1, h v w h2⟩
  | h => obtain ⟨v, h1, h2⟩ := hh; exact ⟨v, h1, h v w h2⟩
  | w => exact out_mono (fun v w' hh => ⟨hh.1, h v w' hh.2⟩) hh
/-- From nothing held to something held. -/
theorem xs_held {hs : List Nat} {H : World → Prop} {full : Array Oper} {K : Env → World → Prop} {d : Option Tmp} {op : Op} {ty : TypeId} {pos : String} {af : Array Edge} {env : Env} {w : World} (h : xs Tryz.prog isI isS [] Eng.noH full K [⟨d, op, ty, pos, af, none⟩] env w) (hc : (cls isI isS op = .p) ∨ (cls isI isS op = .r ∧ memb hs d = false) ∨ (cls isI isS op = .w ∧ ∀ env' w', K env' w' → H w')) : xs Tryz.prog isI isS hs H full K [⟨d, op, ty, pos, af, none⟩] env w := by
  obtain ⟨g, hg, h1, h2⟩ := h
  refine ⟨g, hg, fun hh => ⟨(h1 hh).1, ?_⟩, fun hh => h2 hh⟩
  have ha := (h1 hh).2
  rcases hc with hc | ⟨hc, hm⟩ | ⟨hc, hk⟩
  · have e1 : ∀ hs, clsO isI isS hs ⟨d, op, ty, pos, af, none⟩ = .p := fun hs => by unfold clsO; rw [hc]
    rw [e1] at ha ⊢
    exact ha
  · have e1 : clsO isI isS hs ⟨d, op, ty, pos, af, none⟩ = .r := by unfold clsO; rw [hc]; dsimp only; rw [hm]
    have e2 : clsO isI isS [] ⟨d, op, ty, pos, af, none⟩ = .r := by unfold clsO; rw [hc]; cases d <;> rfl
    rw [e2] at ha
    rw [e1]
    exact ha
  · have e1 : ∀ hs, clsO isI isS hs ⟨d, op, ty, pos, af, none⟩ = .w := fun hs => by unfold clsO; rw [hc]
    rw [e1] at ha ⊢
    exact out_mono (fun v w' hh => ⟨hk _ _ hh.2, hh.2⟩) ha
theorem xs_monoH {hs : List Nat} {H : World → Prop} {full : Array Oper} {K K' : Env → World → Prop} (hk : ∀ env w, K env w → K' env w) : ∀ {l : List Oper} {env : Env} {w : World}, xs Tryz.prog isI isS hs H full K l env w → xs Tryz.prog isI isS hs H full K' l env w
  | [], _, _, h => hk _ _ h
  | _ :: _, _, _, ⟨g, hg, h1, h2⟩ => ⟨g, hg, fun hh => ⟨(h1 hh).1, acts_monoH (fun _ _ hs => xs_monoH hk hs) (h1 hh).2⟩, fun hh => xs_monoH hk (h2 hh)⟩
/-- One operation, and the others. -/
theorem xs_cons {hs : List Nat} {H : World → Prop} {full : Array Oper} {K : Env → World → Prop} {o : Oper} {rest : List Oper} {env : Env} {w : World} (h : xs Tryz.prog isI isS hs H full (fun env' w' => xs Tryz.prog isI isS hs H full K rest env' w') [o] env w) : xs Tryz.prog isI isS hs H full K (o :: rest) env w := h
/-- What was noted is still known at the end. -/
def Mono (w0 : Fm) (m : Nat) (res : Rs) (nh : List Nt) (nm : List Mem) (k : Kr) : Prop := ∀ (e : En) (σ : Mem) (ρ : Pl) (env : Env) (w : World), ER m ρ e env → MR w0 ρ σ w → k e σ = res → (∀ n ∈ e.hs, n ∈ nh) ∧ ∀ s ∈ e.ms, s ∈ nm
theorem Mono.op {w0 : Fm} {m : Nat} {ih : Cl} {res : Rs} {nh : List Nt} {nm : List Mem} {k : Kr} (hr : res ≠ .no) (hih : CallS w0 ih) {hs : List Nat} {full : List Oper} {o : Oper} (hk : Mono w0 m res nh nm k) : Mono w0 m res nh nm (fun e σ => (orH m hs full o).f ih e σ k) := fun e σ ρ env w hE hM h => by
  obtain ⟨env', w', e', σ', ρ', h1, _, h3, h4, h5, h6⟩ := xs_some (s_orH hr hih hE hM h)
  obtain ⟨g2, g3⟩ := hk e' σ' ρ' env' w' h3 h4 h1
  exact ⟨fun n hn => g2 n (h5 n hn), fun s hs => g3 s (h6 s hs)⟩
theorem Mono.reg {w0 : Fm} {m : Nat} {ih : Cl} {res : Rs} {nh : List Nt} {nm : List Mem} {k : Kr} (hr : res ≠ .no) (hih : CallS w0 ih) {hs : List Nat} {full : List Oper} (hk : Mono w0 m res nh nm k) : ∀ l : List Oper, Mono w0 m res nh nm (fun e σ => (regH m hs full l).f ih e σ k)
  | [] => hk
  | o :: l => Mono.op (o := o) hr hih (Mono.reg hr hih hk l)
theorem Mono.fin {w0 : Fm} {m : Nat} {ih : Cl} {res : Rs} {σ0 : Mem} {ef : En} {σf : Mem} (hr : res ≠ .no) (hih : CallS w0 ih) (hres : res = .mk .nrm ef σf) {full l2 : List Oper} : Mono w0 m res ef.hs ef.ms (finH m ih full l2 σ0) := fun e σ ρ env w hE hM h => by
  obtain ⟨ef', σf', k1, k2, k3, _⟩ := mono_H (hs := []) (l := []) hr hih hE hM h
  rw [hres] at k1
  injection k1 with _ k4 k5
  subst k4
  exact ⟨k2, k3⟩
/-- Some operations, their reads held. -/
theorem s_regK {w0 w00 : Fm} {m : Nat} {ih : Cl} {res : Rs} {σ0 : Mem} {ρ0 : Pl} {ws : World} {nh : List Nt} {nm : List Mem} {k : Kr} (hr : res ≠ .no) (hih : CallS w0 ih) (hk : Mono w0 m res nh nm k) (hho : ∀ n ∈ nh, Hold σ0 nm n) (hM0 : MR w00 ρ0 σ0 ws) {hs0 : List Nat} {full : List Oper} : ∀ {l : List Oper} {e : En} {σ : Mem} {ρ : Pl} {env : Env} {w : World}, Up ρ0 ρ → ER m ρ e env → MR w0 ρ σ w → (regH m hs0 full l).f ih e σ k = res → xs Tryz.prog isI isS hs0 (HH ρ0 nh) full.toArray (fun env' w' => ∃ e1 σ1 ρ', k e1 σ1 = res ∧ Up ρ ρ' ∧ ER m ρ' e1 env' ∧ MR w0 ρ' σ1 w') l env w
  | [], e, σ, ρ, env, w, hu, hE, hM, h => ⟨e, σ, ρ, h, Up.refl ρ, hE, hM⟩
  | o :: l, e, σ, ρ, env, w, hu, hE, hM, h => by
    have h' : (orH m hs0 full o).f ih e σ (fun e σ => (regH m hs0 full l).f ih e σ k) = res := h
    -- what follows
    have next : ∀ {ρ' e' σ' env' w'}, Up ρ ρ' → ER m ρ' e' env' → MR w0 ρ' σ' w' → (regH m hs0 full l).f ih e' σ' k = res → xs Tryz.prog isI isS hs0 (HH ρ0 nh) full.toArray (fun env' w' => ∃ e1 σ1 ρ', k e1 σ1 = res ∧ Up ρ ρ' ∧ ER m ρ' e1 env' ∧ MR w0 ρ' σ1 w') l env' w' := fun {ρ' e' σ' env' w'} hu' hE' hM' hh => by
      have := s_regK hr hih hk hho hM0 (l := l) (hu.trans hu') hE' hM' hh
      exact xs_monoH (fun env'' w'' ⟨e1, σ1, r, h0, h1, h2, h3⟩ => ⟨e1, σ1, r, h0, hu'.trans h1, h2, h3⟩) this
    have fins : ∀ {ρ' e' σ' env' w'}, ER m ρ' e' env' → MR w0 ρ' σ' w' → (regH m hs0 full l).f ih e' σ' k = res → (∀ n ∈ e'.hs, n ∈ nh) ∧ ∀ s ∈ e'.ms, s ∈ nm := fun {ρ' e' σ' env' w'} hE' hM' hh => Mono.reg hr hih hk l _ _ _ _ _ hE' hM' hh
    obtain ⟨d, op, ty, pos, af, gd⟩ := o
    unfold orH at h'
    split at h'
    · exact absurd h'.symm hr
    · rename_i hd
      have no : ∀ e', (regH m hs0 full l).f ih e' σ k = res → e'.hs = e.hs → e'.ms = e.ms → ER m ρ e' (Eng.put env d undef) → xs Tryz.prog isI isS hs0 (HH ρ0 nh) full.toArray (fun env' w' => ∃ e1 σ1 ρ', k e1 σ1 = res ∧ Up ρ ρ' ∧ ER m ρ' e1 env' ∧ MR w0 ρ' σ1 w') l (Eng.put env d undef) w := fun e' k1 _ _ k2 => next (Up.refl ρ) k2 hM k1
      split at h'
      · rename_i t x hop
        have hop : op = .load t x := hop
        subst hop
        split at h'
        · rename_i hmem
          refine xs_cons (s_guard hr hE h' (fun h => ?_) no)
          cases d with
          | none => cases hd
          | some d =>
            obtain ⟨id, o', l', av, p, h1, h2, h3, h4, h5⟩ := ldH_inv hr hE h
            obtain ⟨e', k1, k3, k4, k2⟩ := puW_inv h4
            obtain ⟨vs, g1, g2⟩ := hM.cells h2 h3
            -- what is read is there from the start
            have hn : (id, o', l') ∈ nh := by
              rcases h5 with ⟨ht, y, rfl, rfl⟩ | ⟨ht, rfl⟩
              · cases g1 with
                | cons q1 q2 => exact (fins ((hE.put (v := .v y) q1.2 k2).same (e' := ⟨e'.vs, e'.ts, (id, o', [y]) :: e'.hs, e'.ms⟩) rfl rfl) hM k1).1 _ List.mem_cons_self
              · exact (fins ((hE.put (v := .g l') (val := .agg vs.toArray) ⟨vs, g1, rfl⟩ k2).same (e' := ⟨e'.vs, e'.ts, (id, o', l') :: e'.hs, e'.ms⟩) rfl rfl) hM k1).1 _ List.mem_cons_self
            obtain ⟨q1, q2⟩ := hho _ hn
            have q1 : id < σ0.n := q1
            rw [← hM0.len] at q1
            have hp0 : ρ0[id]? = some ρ0[id] := List.getElem?_eq_getElem q1
            have hpp := hu _ _ hp0
            rw [h2] at hpp
            have hpe : ρ0[id] = p := (Option.some.inj hpp).symm
            rw [hpe] at hp0
            obtain ⟨vs0, g3, _⟩ := hM0.cells hp0 (l := l') (o := o') (fun i hi => q2 σ0 List.mem_cons_self i hi)
            have hcell : ∀ w', HH ρ0 nh w' → ∀ (j : Nat) u, vs0[j]? = some u → w'.cell? ⟨p.b, o' + j, none⟩ = some u := fun w' hw j u hj => hw _ hn p vs0 hp0 g3 j u hj
            have fin : ∀ val, AR ρ av val → xs Tryz.prog isI isS hs0 (HH ρ0 nh) full.toArray (fun env' w' => ∃ e1 σ1 ρ', k e1 σ1 = res ∧ Up ρ ρ' ∧ ER m ρ' e1 env' ∧ MR w0 ρ' σ1 w') l (Eng.put env (some d) val) w := fun val hv => next (Up.refl ρ) ((hE.put hv k2).same (e' := ⟨e'.vs, e'.ts, (id, o', l') :: e'.hs, e'.ms⟩) rfl rfl) hM k1
            rcases h5 with ⟨ht, y, rfl, rfl⟩ | ⟨ht, rfl⟩
            · cases g3 with
              | cons r1 r2 =>
                cases r2
                exact xldh h1 ht (fun w' hw => by have := hcell w' hw 0 _ rfl; exact this) (fin _ (r1.2.up hu)) hmem
            · exact xldzh h1 (by rw [g3.len]; exact ht) (fun w' hw => hcell w' hw) (fin _ ⟨vs0, g3.up hu, rfl⟩) hmem
        · rename_i hmem
          refine xs_cons (s_guard hr hE h' (fun h => ?_) no)
          refine xs_monoH (fun env' w' hh => ?_) (xs_held (s_pop (c := fun e σ => (regH m hs0 full l).f ih e σ k) hr hih hE hM hd h) (.inr (.inl ⟨rfl, hmem⟩)))
          obtain ⟨e', σ', ρ', g1, g2, g3, g4, _⟩ := hh
          exact next g2 g3 g4 g1
      · split at h'
        · rename_i hcl
          refine xs_cons (s_guard hr hE h' (fun h => ?_) no)
          refine xs_monoH (fun env' w' hh => ?_) (xs_held (s_wop (c := fun e σ => (regH m hs0 full l).f ih e σ k) hr hih hE hM hd h) (.inr (.inr ⟨hcl, fun env' w' hh => ?_⟩)))
          · obtain ⟨e', σ', ρ', g1, g2, g3, g4, _⟩ := hh
            exact next g2 g3 g4 g1
          · obtain ⟨e', σ', ρ', g1, g2, g3, g4, _, _, g7⟩ := hh
            exact hold_at g4 (hu.trans g2) (List.mem_cons_of_mem _ ((fins g3 g4 g1).2 σ' g7)) hho
        · rename_i hcl
          refine xs_cons (s_guard hr hE h' (fun h => ?_) no)
          refine xs_monoH (fun env' w' hh => ?_) (xs_held (s_pop (c := fun e σ => (regH m hs0 full l).f ih e σ k) hr hih hE hM hd h) (.inl hcl))
          obtain ⟨e', σ', ρ', g1, g2, g3, g4, _⟩ := hh
          exact next g2 g3 g4 g1
        · rename_i hcl
          split at h'
          · rename_i hmem
            refine xs_cons (s_guard hr hE h' (fun h => ?_) no)
            cases d with
            | none => exact (memb_none hmem).elim
            | some d =>
              obtain ⟨s, t, x, el, id, j, l', vs, r, p, cc, rfl, y1, y2, y3, y4, y5, y6, y7, y8, y9, y10, y11⟩ := rdH_inv hr hE hM h
              obtain ⟨e', k1, k3, k4, k2⟩ := puW_inv y11
              have hS := cls_r hcl
              have hE' : ER m ρ ⟨e'.vs, e'.ts, (id, j, l') :: e'.hs, e'.ms⟩ (Eng.put env (some d) (.string (su (uOf r)))) := (hE.put (v := .v (.s r)) ⟨rfl, y5, y6⟩ k2).same rfl rfl
              have hn : (id, j, l') ∈ nh := (fins hE' hM k1).1 _ List.mem_cons_self
              obtain ⟨q1, q2⟩ := hho _ hn
              have q1 : id < σ0.n := q1
              rw [← hM0.len] at q1
              have hp0 : ρ0[id]? = some ρ0[id] := List.getElem?_eq_getElem q1
              have hpp := hu _ _ hp0
              rw [y4] at hpp
              have hpe : ρ0[id] = p := (Option.some.inj hpp).symm
              rw [hpe] at hp0
              obtain ⟨vs0, g3, _⟩ := hM0.cells hp0 (l := l') (o := j) (fun i hi => q2 σ0 List.mem_cons_self i hi)
              have hvs := SRs.one (g3.up hu) y8
              have hcl' : clsO isI isS hs0 ⟨some d, .convert s t x, ty, pos, af, none⟩ = .h := by
                simp [clsO, hcl, hmem]
              refine x_gen rfl (by simp [opsOK, Op.operands, y3]) ?_
              rw [hcl']
              refine ⟨.string (su (uOf r)), fun w' hw => ?_, next (Up.refl ρ) hE' hM k1⟩
              have hrun := run_cvH (w := w') (c := cc) y1 y2 hS (fun i u hu => hw _ hn p vs0 hp0 g3 i u (by rw [hvs, y9]; exact hu))
              simp [execOp, ev_of y3, hrun]
          · rename_i hmem
            refine xs_cons (s_guard hr hE h' (fun h => ?_) no)
            refine xs_monoH (fun env' w' hh => ?_) (xs_held (s_pop (c := fun e σ => (regH m hs0 full l).f ih e σ k) hr hih hE hM hd h) (.inr (.inl ⟨hcl, hmem⟩)))
            obtain ⟨e', σ', ρ', g1, g2, g3, g4, _⟩ := hh
            exact next g2 g3 g4 g1
        · exact absurd h'.symm hr
/-- A whole region, its reads held. -/
theorem s_regH {w0 : Fm} {m : Nat} {ih : Cl} {res : Rs} {σ0 : Mem} {ρ0 : Pl} {ws : World} {ef : En} {σf : Mem} (hr : res ≠ .no) (hih : CallS w0 ih) (hres : res = .mk .nrm ef σf) (hho : ∀ n ∈ ef.hs, Hold σ0 ef.ms n) (hM0 : MR w0 ρ0 σ0 ws) {hs0 : List Nat} {full l2 l : List Oper} {e : En} {σ : Mem} {ρ : Pl} {env : Env} {w : World} (hu : Up ρ0 ρ) (hE : ER m ρ e env) (hM : MR w0 ρ σ w) (h : (regH m hs0 full l).f ih e σ (finH m ih full l2 σ0) = res) : xs Tryz.prog isI isS hs0 (HH ρ0 ef.hs) full.toArray (fun env' w' => ∃ e1 σ1 ρ', (regW m full l2).f ih e1 σ1 fin0 = res ∧ Up ρ ρ' ∧ ER m ρ' e1 env' ∧ MR w0 ρ' σ1 w') l env w := by
  refine xs_monoH (fun env' w' ⟨e1, σ1, ρ', h0, h1, h2, h3⟩ => ?_) (s_regK hr hih (Mono.fin hr hih hres) hho hM0 hu hE hM h)
  obtain ⟨g1, _⟩ := ckA_inv hr (show ckA σ0 e1.ms e1.hs ((regW m full l2).f ih e1 σ1 fin0) = res from h0)
  exact ⟨e1, σ1, ρ', g1, h1, h2, h3⟩
/-- A region that draws, in two parts. -/
theorem wp_cut {N : Nat} {id : Nat} {l : List Oper} {env : Env} {w : World} {a : Act} {K : Env → World → Prop} {Q : Exit → Act → World → Prop} (cut : Nat) (hs : List Nat) (H : World → Prop) (hd : dstOK N l.toArray = true) (hq : seqOK2 isI isS hs cut l.toArray (Region.before l.toArray) = true) (hw : H w.drew) (ha : Fits N env a)
    (hQ : ∀ a' env' w', Fits N env' a' → K env' w' → Q .normal a' w')
    (h : xs Tryz.prog isI isS hs H l.toArray (fun env' w' => xs Tryz.prog isI isS [] Eng.noH l.toArray K (l.drop cut) env' w') (l.take cut) env w.drew) : (Code.region id l.toArray true).wp Tryz.prog Q a w := by
  obtain ⟨hs', hd⟩ := dstOK_spec hd
  have hq' := seqOK2_spec hq
  have hle : cut ≤ l.length := by simpa using hq'.le
  have h1 := ss_of_xs2 (N := N) hs' hd (l.take cut) 0 env a w.drew (fun j o ho => by
    rw [Nat.zero_add]
    have hj : j < cut := by
      have := (List.getElem?_eq_some_iff.1 ho).1
      rw [List.length_take] at this; omega
    rw [List.getElem?_take_of_lt hj] at ho
    simpa using ho) hw ha h
  rw [List.length_take, Nat.min_eq_left hle] at h1
  have h2 : ss2 Tryz.prog isI isS hs H l.toArray (fun a' w' => ∃ env', Fits N env' a' ∧ K env' w') (List.range' 0 cut) (List.range' cut (l.length - cut)) a w.drew := by
    refine ss_app _ _ a _ hw (fun a' w' _ ⟨env', hf, hx⟩ => ?_) h1
    have := ss_of_xs2 (N := N) hs' hd (l.drop cut) cut env' a' w' (fun j o ho => by
      rw [List.getElem?_drop] at ho
      simpa using ho) trivial hf hx
    rwa [List.length_drop] at this
  refine wp_region_any mixed (wpAny_of_ss2 hq' (fun a' w' ⟨env', hf, ht⟩ => hQ a' env' w' hf ht) l.toArray.size _ (List.range' 0 cut) (List.range' cut (l.length - cut)) a _ (fun _ => hw) (by simp) (by simp; omega) ?_ (fun i hi => by rw [List.mem_range'_1] at hi; omega) (fun i hi => by rw [List.mem_range'_1] at hi; omega) (fun i => ?_) (fun i o ho hl => ?_) h2)
  · have e : List.range' 0 cut ++ List.range' cut (l.length - cut) = List.range l.length := by
      have := List.range'_append_1 (s := 0) (m := cut) (n := l.length - cut)
      rw [Nat.zero_add] at this
      rw [this, List.range_eq_range']
      congr 1; omega
    rw [e]; exact List.pairwise_lt_range
  · rw [List.mem_append, List.mem_range'_1, List.mem_range'_1]
    simp [Array.getD_eq_getD_getElem?]
    constructor
    · intro hh
      have : i < l.length := by omega
      exact ⟨this, by simp [this]⟩
    · intro hh; omega
  · exfalso
    rw [Array.getD_eq_getD_getElem?, Array.getElem?_replicate] at hl
    split at hl <;> simp at hl
theorem cutR_inv {ops : Array Oper} {k : Nat} : ∀ {l : List Nat}, cutR ops l = .held k → seqOK2 isI isS (ldK ops k) k ops (Region.before ops) = true
  | [], h => by cases h
  | q :: l, h => by
    have h' : cN q (fun k => (match seqOK2 isI isS (ldK ops k) k ops (Region.before ops) with
      | true => Rk.held k
      | false => cutR ops l : Rk)) = Rk.held k := h
    rw [cN_eq] at h'
    split at h'
    · rename_i hq
      injection h' with h'
      rw [← h']; exact hq
    · exact cutR_inv h'
theorem cutR_text {ops : Array Oper} : ∀ {l : List Nat}, cutR ops l ≠ .text
  | [], h => by cases h
  | q :: l, h => by
    have h' : cN q (fun k => (match seqOK2 isI isS (ldK ops k) k ops (Region.before ops) with
      | true => Rk.held k
      | false => cutR ops l : Rk)) = Rk.text := h
    rw [cN_eq] at h'
    split at h'
    · cases h'
    · exact cutR_text h'
end Rn
end Eng
end Go.Proofs.YtalnkjpgnkfedaaGreatDoor
