/-
  Parts of the proof: Eo, Eoa, Eob, Eoc, Eod, Eop.
-/
import Derived.Lib.Bytealg
import Derived.Test.YtpfelapckcojjaaGreatDoorQB0a
import Derived.Test.YtpfelapckcojjaaGreatDoorQB0d
import Derived.Test.YtpfelapckcojjaaGreatDoorQHf
set_option maxRecDepth 100000
set_option maxHeartbeats 64000000
namespace Go.Proofs.YtpfelapckcojjaaGreatDoor
open Go.RowKit
namespace Eng
namespace Rn
noncomputable def e0 : En := ⟨[], [], [], []⟩
noncomputable def nmK (q : IntKind) (l : List SV) (k : List Nat → Rs) : Rs := List.rec (motive := fun _ => (List Nat → Rs) → Rs) (fun k => k []) (fun x _ ih k => onN (.v x) fun q' a => kkK q' q (ih fun r => k (a :: r))) l k
noncomputable def inK (σ : Mem) (x : AV) (k : List Nat → Rs) : Rs := onL x (k []) (fun id z j n => rdK σ id (Nat.mul j z) n fun l => nmK .i64 l k) (fun id z j n _ => rdK σ id (Nat.mul j z) n fun l => nmK .i64 l k) (k []) (fun _ => .no) fun _ _ => .no
noncomputable def on1 (al : List AV) (k : AV → Rs) : Rs := List.rec (motive := fun _ => Rs) .no (fun x r _ => List.rec (motive := fun _ => Rs) (k x) (fun _ _ _ => .no) r) al
noncomputable def bR (σ : Mem) (b : Bool) : Rs := Bool.rec (motive := fun _ => Rs) (.mk (.val (.v (.b false))) e0 σ) (.mk (.val (.v (.b true))) e0 σ) b
noncomputable def lnN (l : List Nat) : Nat := List.rec (motive := fun _ => Nat) 0 (fun _ _ ih => Nat.add ih 1) l
theorem lnN_eq : ∀ l : List Nat, lnN l = l.length
 | [] => rfl
 | _ :: l => by
  show Nat.add (lnN l) 1 = _
  rw [lnN_eq l]; rfl
section
variable {w0 : Fm} {σ : Mem} {res : Rs} {ρ : Pl} {w : World} (hr : res ≠ .no)
include hr
theorem nmK_inv {q : IntKind} : ∀ {l : List SV} {vs : List Value} {k : List Nat → Rs}, nmK q l k = res → SRs ρ l vs → ∃ r : List Nat, r.length = l.length ∧ vs = r.map (fun a => Value.int q (Int.ofNat a)) ∧ k r = res
 | [], vs, k, h, hl => by
  cases hl
  exact ⟨[], rfl, rfl, h⟩
 | x :: l, vs, k, h, hl => by
  cases hl with
  | cons h1 h2 =>
   obtain ⟨q', a, e0, g1⟩ := onN_inv hr (show onN (.v x) (fun q' a => kkK q' q (nmK q l fun r => k (a :: r))) = res from h)
   obtain ⟨g2, g3⟩ := kkK_inv hr g1
   subst g2
   injection e0 with e0
   subst e0
   obtain ⟨r, g4, g5, g6⟩ := nmK_inv g3 h2
   exact ⟨a :: r, by simp [g4], by rw [h1.2.1, g5, List.map_cons], g6⟩
theorem inK_inv (hM : MR w0 ρ σ w) {x : AV} {vx : Value} {k : List Nat → Rs} (hx : AR ρ x vx) (h : inK σ x k = res) : ∃ r : List Nat, IRow w vx (r.map Int.ofNat) ∧ k r = res := by
 have row : ∀ {id o n cap : Nat} {p : At} {k : List Nat → Rs}, ρ[id]? = some p → n ≤ cap → cap ≤ maxLen → rdK σ id o n (fun l => nmK .i64 l k) = res → ∃ r : List Nat, IRow w (.slice (some ⟨p.b, o, none⟩) n cap) (r.map Int.ofNat) ∧ k r = res := fun {id o n cap p k} hp h1 h2 h => by
  obtain ⟨ob, l, g3, g4, g5, g6⟩ := rdK_inv hr h
  obtain ⟨vs, h4, h5⟩ := hM.cells hp (l := l) (o := o) (fun i hi => g5 i (by omega))
  obtain ⟨r, h6, h7, h8⟩ := nmK_inv hr g6 h4
  refine ⟨r, ⟨some ⟨p.b, o, none⟩, cap, by rw [List.length_map, h6, g4], by rw [List.length_map, h6, g4]; exact h1, h2, fun hn => ⟨p.b, o, rfl, ?_, fun j u hu => ?_⟩⟩, h8⟩
  ·rw [List.length_map] at hn
   have hv0 : vs[0]? = some (Value.int .i64 (Int.ofNat r[0])) := by rw [h7]; simp [hn]
   exact World.block_lt_of_cell? w ⟨p.b, o + 0, none⟩ (h5 0 _ hv0).1
  ·refine (h5 j u ?_).1
   rw [h7]
   rw [List.map_map] at hu
   exact hu
 rcases onL_inv hr h with ⟨e1, g1⟩ | ⟨id, z, j, n, e1, g1⟩ | ⟨id, z, j, n, c, e1, g1⟩ | ⟨_, _, _, _, e1, g1⟩ | ⟨l, e1, g1⟩ | ⟨id, o, e1, g1⟩ <;> subst e1
 ·have e2 : vx = .slice none 0 0 := hx
  subst e2
  exact ⟨[], ⟨none, 0, rfl, Nat.le_refl _, Nat.zero_le _, fun hn => absurd hn (by simp)⟩, g1⟩
 ·obtain ⟨p, hp, _, hc, hm, rfl⟩ := hx
  exact row hp (by omega) (by omega) g1
 ·obtain ⟨p, hp, hnc, hm, rfl⟩ := hx
  exact row hp hnc hm g1
 ·obtain ⟨p, hp, hm, rfl⟩ := hx
  exact ⟨[], ⟨_, _, rfl, Nat.zero_le _, by omega, fun hn => absurd hn (by simp)⟩, g1⟩
 ·exact absurd g1.symm hr
 ·exact absurd g1.symm hr
theorem on1_inv {al : List AV} {vs : List Value} {k : AV → Rs} (ha : ARs ρ al vs) (h : on1 al k = res) : ∃ x v, vs = [v] ∧ AR ρ x v ∧ k x = res := by
 cases ha with
 | nil => exact absurd h.symm hr
 | cons h1 h2 =>
  cases h2 with
  | nil => exact ⟨_, _, rfl, h1, h⟩
  | cons _ _ => exact absurd h.symm hr
end
theorem val_ne {v : AV} {e : En} {σ : Mem} : Rs.mk (.val v) e σ ≠ .no := fun h => by cases h
theorem bR_inv {σ σ' : Mem} {b : Bool} {v : AV} {e : En} (h : bR σ b = .mk (.val v) e σ') : v = .v (.b b) ∧ σ' = σ := by
 cases b <;> (injection h with h1 _ h3; injection h1 with h1; exact ⟨h1.symm, h3.symm⟩)
theorem orc_row {f : Nat} {o : List AV → Mem → Rs} {g : List Nat → Mem → Rs} (ho : ∀ al σ, o al σ = on1 al fun x => inK σ x fun l => g l σ) (hg : ∀ (r : List Nat) (v : Value) (σ : Mem) (w : World) (a : AV) e σ', IRow w v (r.map Int.ofNat) → g r σ = .mk (.val a) e σ' → σ' = σ ∧ Does Tryz.prog f #[v] w fun val w' => (∀ ρ, AR ρ a val) ∧ Ext w w') : OrcS f o := fun w0 al σ a e' σ' ρ vs w h ha hM => by
 rw [ho] at h
 obtain ⟨x, v, rfl, h1, h2⟩ := on1_inv val_ne ha h
 obtain ⟨r, h3, h4⟩ := inK_inv val_ne hM h1 h2
 obtain ⟨rfl, hd⟩ := hg r v σ w a e' σ' h3 h4
 exact Does.mono hd fun val w' hh => ⟨ρ, Up.refl ρ, hh.1 ρ, hM.ext hh.2⟩
noncomputable def mayGN (l : List Nat) (c s : Nat) : Bool := List.rec (motive := fun _ => Nat → Nat → Bool) (fun c s => Bool.rec (motive := fun _ => Bool) (Bool.rec (motive := fun _ => Bool) (Nat.beq s 4096) true (Nat.beq c 0)) (Nat.beq s 2048) (Nat.beq c 1)) (fun n _ ih c s => Bool.rec (motive := fun _ => Bool) false (Nat.rec (motive := fun _ => Bool) (ih c s) (fun _ _ => cN (Nat.add c 1) fun c => cN (Nat.add s (Nat.pow 2 (Nat.sub 12 n))) fun s => ih c s) n) (Nat.ble n 12)) l c s
noncomputable def mayN (l : List Nat) : Bool := an (Nat.ble (lnN l) 400) (mayGN l 0 0)
theorem beq_dec (a b : Nat) : Nat.beq a b = decide (a = b) := by
 rcases beq_cases a b with ⟨h1, h2⟩ | ⟨h1, h2⟩
 ·rw [h2]; simp [h1]
 ·rw [h2]; simp [h1]
theorem an_and (a b : Bool) : an a b = (a && b) := by cases a <;> rfl
theorem mayGN_eq : ∀ (l : List Nat) (c s : Nat), mayGN l c s = hmayGo (l.map Int.ofNat) c s
 | [], c, s => by
  show Bool.rec (motive := fun _ => Bool) (Bool.rec (motive := fun _ => Bool) (Nat.beq s 4096) true (Nat.beq c 0)) (Nat.beq s 2048) (Nat.beq c 1) = _
  rw [List.map_nil, hmayGo_nil]
  rcases beq_cases c 1 with ⟨h1, h2⟩ | ⟨h1, h2⟩
  ·have hc1 : (c : Int) = 1 := by omega
   rw [h2, if_pos hc1]
   show Nat.beq s 2048 = _
   rw [beq_dec]
   exact decide_eq_decide.2 (by omega)
  ·have hc1 : ¬ (c : Int) = 1 := by omega
   rw [h2, if_neg hc1]
   rcases beq_cases c 0 with ⟨h3, h4⟩ | ⟨h3, h4⟩
   ·rw [h4]
    have : decide ((c : Int) = 0) = true := by simp; exact h3
    rw [this]; rfl
   ·rw [h4]
    have : decide ((c : Int) = 0) = false := by simp; exact h3
    rw [this, Bool.false_or]
    show Nat.beq s 4096 = _
    rw [beq_dec]
    exact decide_eq_decide.2 (by omega)
 | n :: l, c, s => by
  have e1 : mayGN (n :: l) c s = Bool.rec (motive := fun _ => Bool) false (Nat.rec (motive := fun _ => Bool) (mayGN l c s) (fun _ _ => cN (Nat.add c 1) fun c => cN (Nat.add s (Nat.pow 2 (Nat.sub 12 n))) fun s => mayGN l c s) n) (Nat.ble n 12) := rfl
  rw [e1, List.map_cons, hmayGo_cons]
  cases hb : Nat.ble n 12 with
  | false =>
   have : ¬ n ≤ 12 := fun hh => by rw [Nat.ble_eq_true_of_le hh] at hb; cases hb
   rw [if_pos (.inr (by show (12 : Int) < (n : Int); omega))]
  | true =>
   have hle := Nat.le_of_ble_eq_true hb
   rw [if_neg (by show ¬ ((n : Int) < 0 ∨ (12 : Int) < (n : Int)); omega)]
   cases n with
   | zero =>
    rw [if_neg (by decide)]
    exact mayGN_eq l c s
   | succ m =>
    rw [if_pos (by show (0 : Int) < ((m + 1 : Nat) : Int); omega)]
    show cN (Nat.add c 1) (fun c => cN (Nat.add s (Nat.pow 2 (Nat.sub 12 (m + 1)))) fun s => mayGN l c s) = _
    rw [cN_eq, cN_eq, mayGN_eq]
    congr 1
    show ((s + 2 ^ (12 - (m + 1)) : Nat) : Int) = _
    have : p2 (12 - Int.ofNat (m + 1)) = ((2 ^ (12 - (m + 1)) : Nat) : Int) := by
     unfold p2
     have : (12 - Int.ofNat (m + 1)).toNat = 12 - (m + 1) := by show ((12 : Int) - ((m + 1 : Nat) : Int)).toNat = _; omega
     rw [this]; simp
    rw [this]; omega
theorem mayN_eq (l : List Nat) : mayN l = mayB (l.map Int.ofNat) := by
 unfold mayN mayB
 rw [an_and, mayGN_eq, ble_dec, lnN_eq, List.length_map]
 rfl
noncomputable def mayO (al : List AV) (σ : Mem) : Rs := on1 al fun x => inK σ x fun l => bR σ (mayN l)
theorem may_orc : OrcS 393 mayO := orc_row (g := fun l σ => bR σ (mayN l)) (fun _ _ => rfl) fun r v σ w a e σ' hv h => by
 obtain ⟨rfl, rfl⟩ := bR_inv h
 refine ⟨rfl, Does.mono (hmay_does w v _ hv) fun val w' hh => ?_⟩
 obtain ⟨rfl, rfl⟩ := hh
 exact ⟨fun ρ => by rw [mayN_eq]; rfl, Fr.refl _ _⟩
noncomputable def mxK (up : Bool) (l : List Nat) (a : Nat) (k : Nat → Rs) : Rs := List.rec (motive := fun _ => Nat → Rs) k (fun x _ ih a => ifK (eB up (Nat.ble a x)) (ih x) (ih a)) l a
theorem mxK_eq (up : Bool) : ∀ (l : List Nat) (a : Nat) (k : Nat → Rs), mxK up l a k = k (l.foldl (fun a x => if up then max a x else min a x) a)
 | [], _, _ => rfl
 | x :: l, a, k => by
  have e1 : mxK up (x :: l) a k = ifK (eB up (Nat.ble a x)) (mxK up l x k) (mxK up l a k) := rfl
  rw [e1, ifK_eq, eB_eq, mxK_eq, mxK_eq, ble_dec, List.foldl_cons]
  cases up with
  | true =>
   by_cases h : a ≤ x
   ·rw [if_pos (by simp [h])]; simp [Nat.max_eq_right h]
   ·rw [if_neg (by simp [h])]; simp [Nat.max_eq_left (Nat.le_of_not_le h)]
  | false =>
   by_cases h : a ≤ x
   ·rw [if_neg (by simp [h])]; simp [Nat.min_eq_left h]
   ·rw [if_pos (by simp [h])]; simp [Nat.min_eq_right (Nat.le_of_not_le h)]
noncomputable def mxO (up : Bool) (al : List AV) (σ : Mem) : Rs := on1 al fun x => inK σ x fun l => List.rec (motive := fun _ => Rs) .no (fun a r _ => okK (Nat.ble (lnN (a :: r)) 1000000) (mxK up r a fun m => okK (Nat.ble m 9223372036854775807) (.mk (.val (.v (.n .i64 m))) e0 σ))) l
theorem mx_inv {up : Bool} {σ σ' : Mem} {l : List Nat} {v : AV} {e : En} (h : (List.rec (motive := fun _ => Rs) .no (fun a r _ => okK (Nat.ble (lnN (a :: r)) 1000000) (mxK up r a fun m => okK (Nat.ble m 9223372036854775807) (.mk (.val (.v (.n .i64 m))) e0 σ))) l) = .mk (.val v) e σ') : ∃ a r, l = a :: r ∧ l.length ≤ 1000000 ∧ v = .v (.n .i64 (r.foldl (fun a x => if up then max a x else min a x) a)) ∧ r.foldl (fun a x => if up then max a x else min a x) a ≤ 9223372036854775807 ∧ σ' = σ := by
 cases l with
 | nil => cases h
 | cons a r =>
  obtain ⟨h1, h⟩ := okK_inv (show okK (Nat.ble (lnN (a :: r)) 1000000) (mxK up r a fun m => okK (Nat.ble m 9223372036854775807) (.mk (.val (.v (.n .i64 m))) e0 σ)) = _ from h) val_ne
  rw [mxK_eq] at h
  obtain ⟨h2, h⟩ := okK_inv h val_ne
  have h1 := Nat.le_of_ble_eq_true h1
  rw [lnN_eq] at h1
  injection h with h3 _ h5
  injection h3 with h3
  exact ⟨a, r, rfl, h1, h3.symm, Nat.le_of_ble_eq_true h2, h5.symm⟩
theorem fold_max : ∀ (r : List Nat) (a : Nat), (r.map Int.ofNat).foldl max (a : Int) = ((r.foldl (fun a x => if true then max a x else min a x) a : Nat) : Int)
 | [], _ => rfl
 | x :: r, a => by
  rw [List.map_cons, List.foldl_cons, List.foldl_cons]
  have : max (a : Int) (Int.ofNat x) = ((max a x : Nat) : Int) := by show max (a : Int) (x : Int) = _; omega
  rw [this]; exact fold_max r _
theorem fold_min : ∀ (r : List Nat) (a : Nat), (r.map Int.ofNat).foldl min (a : Int) = ((r.foldl (fun a x => if false then max a x else min a x) a : Nat) : Int)
 | [], _ => rfl
 | x :: r, a => by
  rw [List.map_cons, List.foldl_cons, List.foldl_cons]
  have : min (a : Int) (Int.ofNat x) = ((min a x : Nat) : Int) := by show min (a : Int) (x : Int) = _; omega
  rw [this]; exact fold_min r _
theorem max_orc : OrcS 390 (mxO true) := orc_row (g := fun l σ => List.rec (motive := fun _ => Rs) .no (fun a r _ => okK (Nat.ble (lnN (a :: r)) 1000000) (mxK true r a fun m => okK (Nat.ble m 9223372036854775807) (.mk (.val (.v (.n .i64 m))) e0 σ))) l) (fun _ _ => rfl) fun r v σ w a e σ' hv h => by
 obtain ⟨x, r, rfl, h1, rfl, h2, rfl⟩ := mx_inv h
 refine ⟨rfl, Does.mono (max_does w v _ hv (by simp) (by rw [List.length_map]; omega)) fun val w' hh => ?_⟩
 obtain ⟨rfl, rfl⟩ := hh
 exact ⟨fun ρ => ⟨by unfold maxL; rw [List.map_cons]; exact congrArg _ (fold_max r x), h2⟩, Fr.refl _ _⟩
theorem min_orc : OrcS 389 (mxO false) := orc_row (g := fun l σ => List.rec (motive := fun _ => Rs) .no (fun a r _ => okK (Nat.ble (lnN (a :: r)) 1000000) (mxK false r a fun m => okK (Nat.ble m 9223372036854775807) (.mk (.val (.v (.n .i64 m))) e0 σ))) l) (fun _ _ => rfl) fun r v σ w a e σ' hv h => by
 obtain ⟨x, r, rfl, h1, rfl, h2, rfl⟩ := mx_inv h
 refine ⟨rfl, Does.mono (min_does w v _ hv (by simp) (by rw [List.length_map]; omega)) fun val w' hh => ?_⟩
 obtain ⟨rfl, rfl⟩ := hh
 exact ⟨fun ρ => ⟨by unfold minL; rw [List.map_cons]; exact congrArg _ (fold_min r x), h2⟩, Fr.refl _ _⟩
end Rn
end Eng
end Go.Proofs.YtpfelapckcojjaaGreatDoor
namespace Go.Proofs.YtpfelapckcojjaaGreatDoor
open Go.RowKit
namespace Eng
namespace Rn
noncomputable def dg (T j : Nat) : Nat := Nat.mod (Nat.shiftRight T (Nat.mul 16 j)) 65536
noncomputable def bitN (x : Nat) : Nat := Nat.shiftLeft 1 (Nat.mul 16 x)
noncomputable def pkN (l : List Nat) : Nat := List.rec (motive := fun _ => Nat) 0 (fun x _ ih => Nat.add ih (bitN x)) l
def ofD : List Nat → Nat
 | [] => 0
 | d :: r => d + 65536 * ofD r
theorem bitN_eq (x : Nat) : bitN x = 65536 ^ x := by
 show 1 <<< (16 * x) = _
 rw [Nat.shiftLeft_eq, Nat.one_mul, Nat.pow_mul]
theorem dg_eq (T j : Nat) : dg T j = T / 65536 ^ j % 65536 := by
 show (T >>> (16 * j)) % 65536 = _
 rw [Nat.shiftRight_eq_div_pow, Nat.pow_mul]
theorem dg_of : ∀ {ds : List Nat} {j : Nat}, (∀ d ∈ ds, d < 65536) → dg (ofD ds) j = ds[j]?.getD 0
 | [], j, _ => by rw [dg_eq]; simp [ofD]
 | d :: r, 0, h => by
  have hd := h d (by simp)
  rw [dg_eq]
  show (d + 65536 * ofD r) / 65536 ^ 0 % 65536 = d
  rw [Nat.pow_zero, Nat.div_one]
  omega
 | d :: r, j + 1, h => by
  have hd := h d (by simp)
  have ih := dg_of (ds := r) (j := j) (fun x hx => h x (List.mem_cons_of_mem _ hx))
  rw [dg_eq] at ih ⊢
  rw [List.getElem?_cons_succ, ← ih]
  show (d + 65536 * ofD r) / 65536 ^ (j + 1) % 65536 = _
  have e3 : (d + 65536 * ofD r) / 65536 = ofD r := by omega
  have e4 : (65536 : Nat) ^ (j + 1) = 65536 * 65536 ^ j := by rw [Nat.pow_succ, Nat.mul_comm]
  rw [e4, ← Nat.div_div_eq_div_mul, e3]
theorem ofD_modify : ∀ {ds : List Nat} {j : Nat}, j < ds.length → ofD (ds.modify j (· + 1)) = ofD ds + 65536 ^ j
 | [], j, h => by cases h
 | d :: r, 0, _ => by
  show d + 1 + 65536 * ofD r = d + 65536 * ofD r + 1
  omega
 | d :: r, j + 1, h => by
  have ih := ofD_modify (ds := r) (j := j) (Nat.lt_of_succ_lt_succ h)
  show d + 65536 * ofD (r.modify j (· + 1)) = d + 65536 * ofD r + 65536 ^ (j + 1)
  rw [ih, Nat.pow_succ]; omega
def cnL (F : Nat → Nat) (l : List Nat) : List Nat := (List.range 13).map fun j => F j + l.count j
theorem cnL_snoc (F : Nat → Nat) (l : List Nat) {x : Nat} (hx : x ≤ 12) : ofD (cnL F (l ++ [x])) = ofD (cnL F l) + bitN x := by
 rw [bitN_eq, ← ofD_modify (by simp [cnL]; omega)]
 congr 1
 apply List.ext_getElem?
 intro i
 rw [List.getElem?_modify]
 unfold cnL
 rw [List.getElem?_map, List.getElem?_map]
 by_cases hi : i < 13
 ·rw [List.getElem?_range hi]
  simp only [Option.map_some, List.count_append, List.count_singleton]
  by_cases hxi : x = i
  ·subst hxi; simp; omega
  ·have : (x == i) = false := by simpa using hxi
   rw [this]
   show _ = some (if x = i then _ else _)
   rw [if_neg hxi]; simp
 ·rw [List.getElem?_eq_none (by simpa using hi)]
  simp
theorem pkN_eq : ∀ {l : List Nat}, (∀ x ∈ l, x ≤ 12) → pkN l = ofD (cnL (fun _ => 0) l)
 | [], _ => by
  show (0 : Nat) = _
  decide
 | x :: l, h => by
  have ih := pkN_eq (l := l) fun y hy => h y (List.mem_cons_of_mem _ hy)
  show pkN l + bitN x = _
  rw [ih, ← cnL_snoc _ _ (h x (by simp))]
  congr 1
  unfold cnL
  refine List.map_congr_left fun j _ => ?_
  rw [List.count_append, List.count_singleton, List.count_cons]
theorem cnL_get {F : Nat → Nat} {l : List Nat} {j : Nat} (hj : j ≤ 12) (hF : ∀ i, i ≤ 12 → F i + l.count i < 65536) : dg (ofD (cnL F l)) j = F j + l.count j := by
 rw [dg_of fun d hd => ?_]
 ·unfold cnL
  rw [List.getElem?_map, List.getElem?_range (by omega)]; rfl
 ·unfold cnL at hd
  obtain ⟨i, hi, rfl⟩ := List.mem_map.1 hd
  rw [List.mem_range] at hi
  exact hF i (by omega)
noncomputable def mN (T j : Nat) : Nat := Nat.rec (motive := fun _ => Nat) 0 (fun _ _ => dg T j) j
noncomputable def fsK (T n j f : Nat) (k : List Nat → Rs) : Rs := Nat.rec (motive := fun _ => Nat → Nat → (List Nat → Rs) → Rs) (fun _ _ k => k []) (fun _ ih j f k => fN (Nat.mul (Nat.add f (mN T j)) 2) fun f' => fN (Nat.add j 1) fun j' => ih j' f' fun r => k (f :: r)) n j f k
noncomputable def msK (T n j : Nat) (k : List Nat → Rs) : Rs := Nat.rec (motive := fun _ => Nat → (List Nat → Rs) → Rs) (fun _ k => k []) (fun _ ih j k => fN (mN T j) fun x => fN (Nat.add j 1) fun j' => ih j' fun r => k (x :: r)) n j k
noncomputable def uK (l : List Nat) (k : List SV → Rs) : Rs := List.rec (motive := fun _ => (List SV → Rs) → Rs) (fun k => k []) (fun x _ ih k => okK (Nat.ble x 60000) (ih fun r => k (.n .u64 x :: r))) l k
theorem uK_inv {res : Rs} (hr : res ≠ .no) : ∀ {l : List Nat} {k : List SV → Rs}, uK l k = res → (∀ x ∈ l, x ≤ 60000) ∧ k (l.map fun x => .n .u64 x) = res
 | [], k, h => ⟨fun x hx => (by cases hx), h⟩
 | x :: l, k, h => by
  obtain ⟨h1, h2⟩ := okK_inv (show okK (Nat.ble x 60000) (uK l fun r => k (.n .u64 x :: r)) = res from h) hr
  obtain ⟨h3, h4⟩ := uK_inv hr h2
  refine ⟨fun y hy => ?_, h4⟩
  rcases List.mem_cons.1 hy with rfl | hy
  ·exact Nat.le_of_ble_eq_true h1
  ·exact h3 y hy
theorem u_rel (ρ : Pl) : ∀ {l : List Nat}, (∀ x ∈ l, x ≤ 60000) → SRs ρ (l.map fun x => .n .u64 x) (l.map fun x => Value.int .u64 (Int.ofNat x))
 | [], _ => .nil
 | x :: l, h => .cons ⟨rfl, rfl, by
   have := h x (by simp)
   show x ≤ 18446744073709551615
   omega⟩ (u_rel ρ fun y hy => h y (List.mem_cons_of_mem _ hy))
theorem count_map (l : List Nat) (j : Nat) : (l.map Int.ofNat).count (j : Int) = l.count j := by
 induction l with
 | nil => rfl
 | cons x l ih =>
  rw [List.map_cons, List.count_cons, List.count_cons, ih]
  congr 1
  by_cases h : x = j
  ·subst h; simp
  ·have h1 : (Int.ofNat x == (j : Int)) = false := beq_eq_false_iff_ne.2 fun hh => h (Int.ofNat.inj hh)
   have h2 : (x == j) = false := beq_eq_false_iff_ne.2 h
   rw [h1, h2]
section
variable {l : List Nat} (hl : ∀ x ∈ l, x ≤ 12) (hn : l.length ≤ 400)
include hl hn
theorem mN_eq {j : Nat} (hj : j ≤ 12) : mN (pkN l) j = manyB (l.map Int.ofNat) j := by
 unfold manyB
 cases j with
 | zero => rfl
 | succ j =>
  rw [if_neg (by omega), count_map]
  show dg (pkN l) (j + 1) = _
  rw [pkN_eq hl, cnL_get (F := fun _ => 0) hj fun i _ => (by have := List.count_le_length (a := i) (l := l); omega)]
  exact Nat.zero_add _
theorem fsK_eq : ∀ (n j : Nat) (k : List Nat → Rs), j + n ≤ 13 → fsK (pkN l) n j (firstB (l.map Int.ofNat) j) k = k ((List.range' j n).map (firstB (l.map Int.ofNat)))
 | 0, _, _, _ => rfl
 | n + 1, j, k, h => by
  have e1 : fsK (pkN l) (n + 1) j (firstB (l.map Int.ofNat) j) k = fN (Nat.mul (Nat.add (firstB (l.map Int.ofNat) j) (mN (pkN l) j)) 2) fun f' => fN (Nat.add j 1) fun j' => fsK (pkN l) n j' f' fun r => k (firstB (l.map Int.ofNat) j :: r) := rfl
  rw [e1, fN_eq, fN_eq, mN_eq hl hn (by omega)]
  have e2 : Nat.mul (Nat.add (firstB (l.map Int.ofNat) j) (manyB (l.map Int.ofNat) j)) 2 = firstB (l.map Int.ofNat) (j + 1) := rfl
  rw [e2]
  exact fsK_eq n (j + 1) _ (by omega)
theorem msK_eq : ∀ (n j : Nat) (k : List Nat → Rs), j + n ≤ 13 → msK (pkN l) n j k = k ((List.range' j n).map (manyB (l.map Int.ofNat)))
 | 0, _, _, _ => rfl
 | n + 1, j, k, h => by
  have e1 : msK (pkN l) (n + 1) j k = fN (mN (pkN l) j) fun x => fN (Nat.add j 1) fun j' => msK (pkN l) n j' fun r => k (x :: r) := rfl
  rw [e1, fN_eq, fN_eq, mN_eq hl hn (by omega)]
  exact msK_eq n (j + 1) _ (by omega)
end
noncomputable def le12 (l : List Nat) : Bool := List.rec (motive := fun _ => Bool) true (fun x _ ih => an (Nat.ble x 12) ih) l
theorem le12_spec : ∀ {l : List Nat}, le12 l = true → ∀ x ∈ l, x ≤ 12
 | [], _, x, hx => by cases hx
 | y :: l, h, x, hx => by
  obtain ⟨h1, h2⟩ := an_inv (show an (Nat.ble y 12) (le12 l) = true from h)
  rcases List.mem_cons.1 hx with rfl | hx
  ·exact Nat.le_of_ble_eq_true h1
  ·exact le12_spec h2 x hx
theorem le_lens {l : List Nat} (h : ∀ x ∈ l, x ≤ 12) : Lens (l.map Int.ofNat) := fun z hz => by
 obtain ⟨x, hx, rfl⟩ := List.mem_map.1 hz
 have := h x hx
 exact ⟨Int.natCast_nonneg x, by show (x : Int) ≤ 12; omega⟩
noncomputable def tabK (l : List Nat) (k : List Nat → List Nat → Rs) : Rs := okK (le12 l) (okK (Nat.ble (lnN l) 400) (fN (pkN l) fun T => fsK T 13 0 0 fun F => msK T 13 0 fun M => k F M))
theorem tabK_inv {res : Rs} (hr : res ≠ .no) {l : List Nat} {k : List Nat → List Nat → Rs} (h : tabK l k = res) : (∀ x ∈ l, x ≤ 12) ∧ l.length ≤ 400 ∧ k ((List.range 13).map (firstB (l.map Int.ofNat))) ((List.range 13).map (manyB (l.map Int.ofNat))) = res := by
 obtain ⟨h1, h⟩ := okK_inv h hr
 obtain ⟨h2, h⟩ := okK_inv h hr
 have h1 := le12_spec h1
 have h2 := Nat.le_of_ble_eq_true h2
 rw [lnN_eq] at h2
 rw [fN_eq] at h
 have h : fsK (pkN l) 13 0 (firstB (l.map Int.ofNat) 0) (fun F => msK (pkN l) 13 0 fun M => k F M) = res := h
 rw [fsK_eq h1 h2 13 0 _ (by omega), msK_eq h1 h2 13 0 _ (by omega)] at h
 exact ⟨h1, h2, h⟩
noncomputable def countG (l : List Nat) (σ : Mem) : Rs := tabK l fun F M => uK (F ++ M) fun cs => .mk (.val (.g cs)) e0 σ
noncomputable def countO (al : List AV) (σ : Mem) : Rs := on1 al fun x => inK σ x fun l => countG l σ
theorem count_orc : OrcS 418 countO := orc_row (g := countG) (fun _ _ => rfl) fun r v σ w a e σ' hv h => by
 obtain ⟨h1, h2, h3⟩ := tabK_inv val_ne h
 obtain ⟨h4, h5⟩ := uK_inv val_ne h3
 injection h5 with h6 _ h8
 injection h6 with h6
 subst h8
 refine ⟨rfl, Does.mono (hcount_does w v _ hv (le_lens h1) (by rw [List.length_map]; exact h2)) fun val w' hh => ?_⟩
 obtain ⟨rfl, hE⟩ := hh
 refine ⟨fun ρ => ?_, hE⟩
 rw [← h6]
 refine ⟨_, u_rel ρ h4, ?_⟩
 unfold tabA tabL
 rw [List.map_append, List.map_map, List.map_map]
 rfl
noncomputable def pF (l : List Nat) : Nat := List.rec (motive := fun _ => Nat) 0 (fun x _ ih => Nat.add x (Nat.mul 65536 ih)) l
theorem pF_eq : ∀ l : List Nat, pF l = ofD l
 | [] => rfl
 | x :: l => by
  show x + 65536 * pF l = x + 65536 * ofD l
  rw [pF_eq l]
noncomputable def cdK (l : List Nat) (T : Nat) (k : List Nat → Rs) : Rs := List.rec (motive := fun _ => Nat → (List Nat → Rs) → Rs) (fun _ k => k []) (fun x _ ih T k => Nat.rec (motive := fun _ => Rs) (ih T fun r => k (0 :: r)) (fun _ _ => fN (dg T x) fun c => fN (Nat.add T (bitN x)) fun T => ih T fun r => k (c :: r)) x) l T k
theorem cdK_eq {zs : List Nat} (hz : ∀ x ∈ zs, x ≤ 12) (hF : ∀ i, i ≤ 12 → firstB (zs.map Int.ofNat) i ≤ 60000) (hn : zs.length ≤ 400) : ∀ {l pre q : List Nat} {k : List Nat → Rs}, zs = pre ++ l → (∀ j, 0 < j → q.count j = pre.count j) → q.length ≤ pre.length → cdK l (ofD (cnL (firstB (zs.map Int.ofNat)) q)) k = k ((List.range' pre.length l.length).map (codeB (zs.map Int.ofNat)))
 | [], _, _, _, _, _, _ => rfl
 | x :: l, pre, q, k, he, hq, hql => by
  have hget : zs[pre.length]? = some x := by rw [he]; simp
  have hx : x ≤ 12 := hz x (by rw [he]; simp)
  have htake : (zs.map Int.ofNat).take pre.length = pre.map Int.ofNat := by rw [he, List.map_append, List.take_left' (by simp)]
  have hlen : pre.length + l.length + 1 = zs.length := by rw [he]; simp; omega
  have hcode : codeB (zs.map Int.ofNat) pre.length = if 0 < x then firstB (zs.map Int.ofNat) x + pre.count x else 0 := by
   unfold codeB
   rw [List.getElem?_map, hget]
   show (if 0 < Int.ofNat x then firstB (zs.map Int.ofNat) (Int.ofNat x).toNat + ((zs.map Int.ofNat).take pre.length).count (Int.ofNat x) else 0) = _
   rw [htake]
   have := count_map pre x
   by_cases h0 : 0 < x
   ·have h1 : (0 : Int) < Int.ofNat x := by show (0 : Int) < (x : Int); omega
    rw [if_pos h0, if_pos h1]
    show firstB (zs.map Int.ofNat) x + _ = _
    rw [← this]; rfl
   ·have h1 : ¬ (0 : Int) < Int.ofNat x := by show ¬ (0 : Int) < (x : Int); omega
    rw [if_neg h0, if_neg h1]
  rw [List.length_cons, List.range'_succ, List.map_cons, hcode]
  have hne : pre.length + 1 = (pre ++ [x]).length := by simp
  cases x with
  | zero =>
   show cdK l (ofD (cnL (firstB (zs.map Int.ofNat)) q)) (fun r => k (0 :: r)) = _
   rw [cdK_eq hz hF hn (pre := pre ++ [0]) (q := q) (by rw [he]; simp) (fun j hj => by
    have h1 : (0 == j) = false := beq_eq_false_iff_ne.2 (by omega)
    rw [hq j hj, List.count_append, List.count_singleton, h1]; rfl) (by simp; omega), ← hne]
   rfl
  | succ m =>
   show fN (dg (ofD (cnL (firstB (zs.map Int.ofNat)) q)) (m + 1)) (fun c => fN (Nat.add (ofD (cnL (firstB (zs.map Int.ofNat)) q)) (bitN (m + 1))) fun T => cdK l T fun r => k (c :: r)) = _
   have hb : ∀ i, i ≤ 12 → firstB (zs.map Int.ofNat) i + q.count i < 65536 := fun i hi => by
    have h1 := hF i hi
    have h2 := List.count_le_length (a := i) (l := q)
    omega
   rw [fN_eq, fN_eq, cnL_get hx hb]
   ·have e2 : Nat.add (ofD (cnL (firstB (zs.map Int.ofNat)) q)) (bitN (m + 1)) = ofD (cnL (firstB (zs.map Int.ofNat)) (q ++ [m + 1])) := (cnL_snoc _ _ hx).symm
    rw [e2, cdK_eq hz hF hn (pre := pre ++ [m + 1]) (q := q ++ [m + 1]) (by rw [he]; simp) (fun j hj => by rw [List.count_append, List.count_append, hq j hj]) (by simp; omega), ← hne, if_pos (Nat.succ_pos m), hq _ (Nat.succ_pos m)]
noncomputable def codesG (l : List Nat) (σ : Mem) : Rs := okK (mayN l) (tabK l fun F _ => uK F fun _ => fN (pF F) fun T => cdK l T fun c => uK c fun cs => fN (lnN l) fun n => newK σ 23 cs fun id σ => .mk (.val (.v (.lx id 1 0 n n))) e0 σ)
noncomputable def codesO (al : List AV) (σ : Mem) : Rs := on1 al fun x => inK σ x fun l => codesG l σ
theorem codes_sound {f : Nat} (hf : ∀ (w : World) (v : Value) (zs : List Int), IRow w v zs → mayB zs = true → Does Tryz.prog f #[v] w fun r w' => ∃ b, r = .slice (some ⟨b, 0, none⟩) zs.length zs.length ∧ w.heap.size ≤ b ∧ UB w' b (codesB zs) ∧ Ext w w') : OrcS f codesO := fun w0 al σ a e' σ' ρ vs w h ha hM => by
 obtain ⟨x, v, rfl, h1, h2⟩ := on1_inv val_ne ha h
 obtain ⟨l, h3, h4⟩ := inK_inv val_ne hM h1 h2
 obtain ⟨h5, h6⟩ := okK_inv (show okK (mayN l) _ = _ from h4) val_ne
 rw [mayN_eq] at h5
 obtain ⟨h7, h8, h9⟩ := tabK_inv val_ne h6
 obtain ⟨h10, h11⟩ := uK_inv val_ne h9
 rw [fN_eq, pF_eq] at h11
 have hF : ∀ i, i ≤ 12 → firstB (l.map Int.ofNat) i ≤ 60000 := fun i hi => h10 _ (List.mem_map.2 ⟨i, List.mem_range.2 (by omega), rfl⟩)
 have e0 : (List.range 13).map (firstB (l.map Int.ofNat)) = cnL (firstB (l.map Int.ofNat)) [] := by
  unfold cnL
  exact List.map_congr_left fun j _ => by simp
 rw [e0, cdK_eq h7 hF h8 (l := l) (pre := []) (q := []) rfl (fun _ _ => rfl) (Nat.le_refl _)] at h11
 obtain ⟨h12, h13⟩ := uK_inv val_ne h11
 rw [fN_eq, lnN_eq] at h13
 obtain ⟨ob, σ2, k1, k2, k3, k4, k5, k6, k7⟩ := newK_inv val_ne h13
 injection k7 with k8 _ k10
 injection k8 with k8
 subst k10
 refine Does.mono (hf w v _ h3 h5) fun val w' hh => ?_
 obtain ⟨b, rfl, hb, hU, hE⟩ := hh
 have hcs : (codesB (l.map Int.ofNat)).map (Value.int .u64) = ((List.range' 0 l.length).map (codeB (l.map Int.ofNat))).map fun x => Value.int .u64 (Int.ofNat x) := by
  unfold codesB
  rw [List.map_map, List.map_map, List.length_map, List.range_eq_range']
  rfl
 have hU' : Blk w' b 23 ((((List.range' 0 l.length).map (codeB (l.map Int.ofNat))).map fun x => Value.int .u64 (Int.ofNat x))).toArray := by
  have := hU
  unfold UB at this
  rwa [hcs] at this
 have hu := u_rel ρ h12
 have hM2 := hM.more (S := noneB) l.length 1 (by simp) k1 k2 (fun o ho => by rw [k4 o]; exact List.getElem?_eq_none (by omega)) (fun o x hx => by
  rw [k4 o] at hx
  obtain ⟨v, q1, q2⟩ := hu.get o x hx
  exact ⟨v, by simpa using q1, q2⟩) k5 k6 (Blk.bk hU') hE (fun id o p s1 s2 => ⟨by have := hM.below id o p s1 s2; omega, fun hh => hh⟩) (fun b hh => hh.elim) (.inl (Nat.le_trans hM.old.size hb))
 refine ⟨_, Up.snoc ρ _, ?_, hM2⟩
 rw [← k8]
 refine ⟨⟨b, l.length, 1⟩, ?_, Nat.le_refl _, by unfold maxLen; omega, by rw [List.length_map, Nat.zero_mul]⟩
 rw [← hM.len]; simp
theorem codes_orc : OrcS 394 codesO := codes_sound codes_does
end Rn
end Eng
end Go.Proofs.YtpfelapckcojjaaGreatDoor
namespace Go.Proofs.YtpfelapckcojjaaGreatDoor
open Go.RowKit
namespace Eng
namespace Rn
structure Eb where
 id : Nat
 e : TypeId
 d : Nat
 l : List SV
structure Me where
 n : Nat
 al : List AV
 l0 : List Eb
 v : AV
 n1 : Nat
 l1 : List Eb
noncomputable def lnS (l : List SV) : Nat := List.rec (motive := fun _ => Nat) 0 (fun _ _ ih => Nat.add ih 1) l
theorem lnS_eq : ∀ l : List SV, lnS l = l.length
 | [] => rfl
 | _ :: l => by
  show Nat.add (lnS l) 1 = _
  rw [lnS_eq l]; rfl
noncomputable def ckE (σ : Mem) (x : Eb) (r : Rs) : Rs := obK σ x.id fun ob => okK (Nat.beq ob.e x.e) (rdT ob.d ob.m 0 (lnS x.l) fun l => okK (lE x.l l) r)
noncomputable def ckL (σ : Mem) (l : List Eb) (r : Rs) : Rs := List.rec (motive := fun _ => Rs) r (fun x _ ih => ckE σ x ih) l
noncomputable def seE (x : Eb) (h : Tr Ob) (c : Tr Ob → Rs) : Rs := fN (lnS x.l) fun q => fillT x.d 0 x.l .nil fun m => setK dI x.id ⟨x.e, x.d, q, m⟩ h c
noncomputable def seL (l : List Eb) (h : Tr Ob) (c : Tr Ob → Rs) : Rs := List.rec (motive := fun _ => Tr Ob → (Tr Ob → Rs) → Rs) (fun h c => c h) (fun x _ ih h c => seE x h fun h => ih h c) l h c
noncomputable def kiL (l : List Eb) (h : Tr Ob) (c : Tr Ob → Rs) : Rs := List.rec (motive := fun _ => Tr Ob → (Tr Ob → Rs) → Rs) (fun h c => c h) (fun x _ ih h c => setK dI x.id ⟨0, 0, 0, .nil⟩ h fun h => ih h c) l h c
noncomputable def tvE (x y : TV) : Bool := match x, y with
 | .v a, .v b => sE a b
 | .g a, .g b => lE a b
 | _, _ => false
noncomputable def tlE (a : List TV) : List TV → Bool := List.rec (motive := fun _ => List TV → Bool) (fun b => match b with
 | [] => true
 | _ :: _ => false) (fun x _ ih b => match b with
 | [] => false
 | y :: r => an (tvE x y) (ih r)) a
noncomputable def avE (x y : AV) : Bool := match x, y with
 | .v a, .v b => sE a b
 | .g a, .g b => lE a b
 | .t a, .t b => tlE a b
 | .f g a, .f g' b => an (Nat.beq g g') (lE a b)
 | _, _ => false
noncomputable def alE (a : List AV) : List AV → Bool := List.rec (motive := fun _ => List AV → Bool) (fun b => match b with
 | [] => true
 | _ :: _ => false) (fun x _ ih b => match b with
 | [] => false
 | y :: r => an (avE x y) (ih r)) a
noncomputable def meO (m : Me) (al : List AV) (σ : Mem) : Rs := okK (alE m.al al) (ckL σ m.l0 (kiL m.l0 σ.h fun h => seL m.l1 h fun h => .mk (.val m.v) e0 ⟨m.n1, h, []⟩))
noncomputable def memoO (es : List Me) (al : List AV) (σ : Mem) : Rs := List.rec (motive := fun _ => Rs) .no (fun m _ ih => ifK (Nat.beq m.n σ.n) (meO m al σ) ih) es
noncomputable def ranK (m : Me) (r : Rs) : Rs := Rs.rec (motive := fun _ => Rs) .no (fun x _ σ => Ex.rec (motive := fun _ => Rs) .no (fun _ => .no) (fun _ => .no) .no (fun v => okK (avE m.v v) (okK (Nat.beq m.n1 σ.n) (ckL σ m.l1 (.mk .ret e0 σ)))) x) r
noncomputable def ranB (tab : List (Nat × Fe)) (N f : Nat) (m : Me) : Bool := Rs.rec (motive := fun _ => Bool) false (fun _ _ _ => true) (seL m.l0 .nil fun h => ranK m (run tab N f m.al ⟨m.n, h, []⟩))
theorem tvE_eq {x y : TV} (h : tvE x y = true) : x = y := by
 cases x with
 | v a =>
  cases y with
  | v b => have h : sE a b = true := h; rw [sE_eq h]
  | g b => cases h
 | g a =>
  cases y with
  | v b => cases h
  | g b => have h : lE a b = true := h; rw [lE_eq h]
theorem tlE_eq : ∀ {a b : List TV}, tlE a b = true → a = b
 | [], [], _ => rfl
 | [], _ :: _, h => by cases h
 | _ :: _, [], h => by cases h
 | x :: a, y :: b, h => by
  obtain ⟨h1, h2⟩ := an_inv (show an (tvE x y) (tlE a b) = true from h)
  rw [tvE_eq h1, tlE_eq h2]
theorem avE_eq {x y : AV} (h : avE x y = true) : x = y := by
 cases x with
 | v a =>
  cases y with
  | v b => have h : sE a b = true := h; rw [sE_eq h]
  | _ => cases h
 | g a =>
  cases y with
  | g b => have h : lE a b = true := h; rw [lE_eq h]
  | _ => cases h
 | t a =>
  cases y with
  | t b => have h : tlE a b = true := h; rw [tlE_eq h]
  | _ => cases h
 | f g a =>
  cases y with
  | f g' b =>
   obtain ⟨h1, h2⟩ := an_inv (show an (Nat.beq g g') (lE a b) = true from h)
   rw [Nat.eq_of_beq_eq_true h1, lE_eq h2]
  | _ => cases h
theorem alE_eq : ∀ {a b : List AV}, alE a b = true → a = b
 | [], [], _ => rfl
 | [], _ :: _, h => by cases h
 | _ :: _, [], h => by cases h
 | x :: a, y :: b, h => by
  obtain ⟨h1, h2⟩ := an_inv (show an (avE x y) (alE a b) = true from h)
  rw [avE_eq h1, alE_eq h2]
def Has (σ : Mem) (l : List Eb) : Prop := ∀ x ∈ l, ∃ ob, oget σ x.id = some ob ∧ ob.e = x.e ∧ ∀ i, i < x.l.length → tget ob.d i ob.m = x.l[i]?
def IsB (x : Eb) (id : Nat) (ob : Ob) : Prop := x.id = id ∧ ob.e = x.e ∧ ob.n = x.l.length ∧ ∀ o, tget ob.d o ob.m = x.l[o]?
section
variable {res : Rs} (hr : res ≠ .no)
include hr
theorem ckL_inv {σ : Mem} {r : Rs} : ∀ {l : List Eb}, ckL σ l r = res → Has σ l ∧ r = res
 | [], h => ⟨fun x hx => (by cases hx), h⟩
 | x :: l, h => by
  obtain ⟨ob, h1, h⟩ := obK_inv hr (show obK σ x.id (fun ob => okK (Nat.beq ob.e x.e) (rdT ob.d ob.m 0 (lnS x.l) fun l' => okK (lE x.l l') (ckL σ l r))) = res from h)
  obtain ⟨h2, h⟩ := okK_inv h hr
  obtain ⟨l', h3, h4, h⟩ := rdT_inv hr h
  obtain ⟨h5, h⟩ := okK_inv h hr
  have h5 := lE_eq h5
  obtain ⟨h6, h7⟩ := ckL_inv h
  rw [lnS_eq] at h3 h4
  refine ⟨fun y hy => ?_, h7⟩
  rcases List.mem_cons.1 hy with rfl | hy
  ·exact ⟨ob, h1, Nat.eq_of_beq_eq_true h2, fun i hi => by have := h4 i hi; rw [Nat.zero_add] at this; rw [this, ← h5]⟩
  ·exact h6 y hy
theorem seL_inv : ∀ {l : List Eb} {h : Tr Ob} {c : Tr Ob → Rs}, seL l h c = res → ∃ h', c h' = res ∧ ∀ id ob, tget dI id h' = some ob → (∃ x ∈ l, IsB x id ob) ∨ ((∀ x ∈ l, x.id ≠ id) ∧ tget dI id h = some ob)
 | [], h, c, hh => ⟨h, hh, fun id ob ho => .inr ⟨fun x hx => (by cases hx), ho⟩⟩
 | x :: l, h, c, hh => by
  have hh : fN (lnS x.l) (fun q => fillT x.d 0 x.l .nil fun m => setK dI x.id ⟨x.e, x.d, q, m⟩ h fun h => seL l h c) = res := hh
  rw [fN_eq, lnS_eq] at hh
  obtain ⟨m, h1, hh⟩ := fillT_inv hr hh
  obtain ⟨t', h2, hh⟩ := setK_inv hr hh
  obtain ⟨h', h3, h4⟩ := seL_inv hh
  refine ⟨h', h3, fun id ob ho => ?_⟩
  rcases h4 id ob ho with ⟨y, hy, h5⟩ | ⟨h5, h6⟩
  ·exact .inl ⟨y, List.mem_cons_of_mem _ hy, h5⟩
  ·by_cases hid : id = x.id
   ·subst hid
    rw [h2.1] at h6
    obtain rfl := Option.some.inj h6
    refine .inl ⟨x, List.mem_cons_self, rfl, rfl, rfl, fun o => ?_⟩
    show tget x.d o m = _
    rw [h1 o, tget_nil]
    by_cases ho' : o < x.l.length
    ·rw [if_pos ⟨Nat.zero_le _, by omega⟩, Nat.sub_zero]
    ·rw [if_neg (fun hh => ho' (by omega)), List.getElem?_eq_none (by omega)]
   ·refine .inr ⟨fun y hy => ?_, by rw [← h2.2 id hid]; exact h6⟩
    rcases List.mem_cons.1 hy with rfl | hy
    ·exact fun e => hid e.symm
    ·exact h5 y hy
theorem kiL_inv : ∀ {l : List Eb} {h : Tr Ob} {c : Tr Ob → Rs}, kiL l h c = res → ∃ h', c h' = res ∧ ∀ id ob, tget dI id h' = some ob → ob.m = .nil ∨ ((∀ x ∈ l, x.id ≠ id) ∧ tget dI id h = some ob)
 | [], h, c, hh => ⟨h, hh, fun id ob ho => .inr ⟨fun x hx => (by cases hx), ho⟩⟩
 | x :: l, h, c, hh => by
  obtain ⟨t', h2, hh⟩ := setK_inv hr (show setK dI x.id ⟨0, 0, 0, .nil⟩ h (fun h => kiL l h c) = res from hh)
  obtain ⟨h', h3, h4⟩ := kiL_inv hh
  refine ⟨h', h3, fun id ob ho => ?_⟩
  rcases h4 id ob ho with h5 | ⟨h5, h6⟩
  ·exact .inl h5
  ·by_cases hid : id = x.id
   ·subst hid
    rw [h2.1] at h6
    obtain rfl := Option.some.inj h6
    exact .inl rfl
   ·refine .inr ⟨fun y hy => ?_, by rw [← h2.2 id hid]; exact h6⟩
    rcases List.mem_cons.1 hy with rfl | hy
    ·exact fun e => hid e.symm
    ·exact h5 y hy
end
theorem me_sound {tab : List (Nat × Fe)} (ht : TabOK tab) {N f : Nat} {m : Me} (hm : ranB tab N f m = true) {w0 : Fm} {al : List AV} {σ σ' : Mem} {a : AV} {e' : En} {ρ : Pl} {vs : List Value} {w : World} (hn : m.n = σ.n) (hq : meO m al σ = .mk (.val a) e' σ') (ha : ARs ρ al vs) (hM : MR w0 ρ σ w) : Does Tryz.prog f vs.toArray w (fun val w' => ∃ ρ', Up ρ ρ' ∧ AR ρ' a val ∧ MR w0 ρ' σ' w') := by
 obtain ⟨h1, h⟩ := okK_inv hq val_ne
 clear hq
 have h1 := alE_eq h1
 subst h1
 obtain ⟨h2, h⟩ := ckL_inv val_ne h
 obtain ⟨hk, h, h3⟩ := kiL_inv val_ne h
 obtain ⟨hs, h, h4⟩ := seL_inv val_ne h
 injection h with h5 _ h7
 injection h5 with h5
 subst h5; subst h7
 have hne : (seL m.l0 .nil fun h => ranK m (run tab N f m.al ⟨m.n, h, []⟩)) ≠ .no := fun hh => by
  unfold ranB at hm
  rw [hh] at hm; cases hm
 obtain ⟨hb, hrun, h8⟩ := seL_inv hne (l := m.l0) (h := .nil) (c := fun h => ranK m (run tab N f m.al ⟨m.n, h, []⟩)) rfl
 have h8 : ∀ id ob, tget dI id hb = some ob → ∃ x ∈ m.l0, IsB x id ob := fun id ob ho => by
  rcases h8 id ob ho with hh | ⟨_, hh⟩
  ·exact hh
  ·rw [tget_nil] at hh; cases hh
 have hrn : ranK m (run tab N f m.al ⟨m.n, hb, []⟩) ≠ .no := fun hh => hne (by rw [← hrun]; exact hh)
 obtain ⟨v1, e1, σ1, hr1, hv1, hn1, hl1⟩ : ∃ v1 e1 σ1, run tab N f m.al ⟨m.n, hb, []⟩ = .mk (.val v1) e1 σ1 ∧ m.v = v1 ∧ m.n1 = σ1.n ∧ Has σ1 m.l1 := by
  generalize hq : run tab N f m.al ⟨m.n, hb, []⟩ = q at hrn
  cases q with
  | no => exact absurd rfl hrn
  | mk x e1 σ1 =>
   cases x with
   | val v1 =>
    have g0 : okK (avE m.v v1) (okK (Nat.beq m.n1 σ1.n) (ckL σ1 m.l1 (.mk .ret e0 σ1))) ≠ .no := hrn
    obtain ⟨g1, g⟩ := okK_inv rfl g0
    obtain ⟨g2, g⟩ := okK_inv g g0
    obtain ⟨g3, _⟩ := ckL_inv g0 g
    exact ⟨v1, e1, σ1, rfl, avE_eq g1, Nat.eq_of_beq_eq_true g2, g3⟩
   | _ => exact absurd rfl hrn
 subst hv1
 have hsub : ∀ id o x, cget ⟨m.n, hb, []⟩ id o = some x → cget σ id o = some x ∧ ∃ y ∈ m.l0, y.id = id := fun id o x hx => by
  obtain ⟨ob, q1, q2⟩ := cget_iff.1 hx
  obtain ⟨y, hy, q3, _, _, q5⟩ := h8 id ob q1
  obtain ⟨ob2, q6, _, q8⟩ := h2 y hy
  rw [q5 o] at q2
  have hlt := (List.getElem?_eq_some_iff.1 q2).1
  exact ⟨cget_iff.2 ⟨ob2, by rw [← q3]; exact q6, by rw [q8 o hlt]; exact q2⟩, y, hy, q3⟩
 have hin : ∀ y ∈ m.l0, ∀ (i : Nat), i < y.l.length → (cget σ y.id i).isSome = true := fun y hy i hi => by
  obtain ⟨ob2, q6, _, q8⟩ := h2 y hy
  rw [cget_iff.2 ⟨ob2, q6, (q8 i hi).trans (List.getElem?_eq_getElem hi)⟩]; rfl
 have hok : TabI (fun b => ∃ id o p, (cget ⟨m.n, hb, []⟩ id o).isSome = true ∧ ρ[id]? = some p ∧ p.b = b) w := w0.ok.of hM.old fun b hb' => by
  obtain ⟨id, o, p, q1, q2, rfl⟩ := hb'
  obtain ⟨x, hx⟩ := Option.isSome_iff_exists.1 q1
  exact hM.far id o p (by rw [(hsub id o x hx).1]; rfl) q2
 have hM0 : MR ⟨fun b => ∃ id o p, (cget ⟨m.n, hb, []⟩ id o).isSome = true ∧ ρ[id]? = some p ∧ p.b = b, w, hok⟩ ρ ⟨m.n, hb, []⟩ w := {
  len := by rw [hM.len]; exact hn.symm
  blk := fun id ob q1 q2 => by
   obtain ⟨o, q2⟩ := q2
   obtain ⟨x, hx⟩ := Option.isSome_iff_exists.1 q2
   obtain ⟨y, hy, q3, q4, _, q5⟩ := h8 id ob q1
   obtain ⟨ob2, q6, q7, q8⟩ := h2 y hy
   have hcell : ∀ o x, tget ob.d o ob.m = some x → tget ob2.d o ob2.m = some x := fun o x hx => by
    rw [q5 o] at hx
    rw [q8 o (List.getElem?_eq_some_iff.1 hx).1]; exact hx
   obtain ⟨p, cs, r1, r2, r3, r4⟩ := hM.blk id ob2 (by rw [← q3]; exact q6) ⟨o, by rw [hcell o x hx]; rfl⟩
   exact ⟨p, cs, r1, by rw [q4, ← q7]; exact r2, r3, fun o x hx => r4 o x (hcell o x hx)⟩
  old := Fr.refl _ _
  far := fun id o p q1 q2 => .inr ⟨id, o, p, q1, q2, rfl⟩
  pre := fun id ob q1 o ho => by
   obtain ⟨y, hy, _, _, q4, q5⟩ := h8 id ob q1
   rw [q5 o, List.getElem?_eq_none (by omega)]
  apart := fun id id' o o' p p' hne q1 q2 q3 q4 => by
   obtain ⟨x, hx⟩ := Option.isSome_iff_exists.1 q1
   obtain ⟨x', hx'⟩ := Option.isSome_iff_exists.1 q2
   exact hM.apart id id' o o' p p' hne (by rw [(hsub id o x hx).1]; rfl) (by rw [(hsub id' o' x' hx').1]; rfl) q3 q4
  mps := Mps.nil _ _ _ }
 refine Does.mono (run_sound ht N _ f m.al ⟨m.n, hb, []⟩ _ e1 σ1 ρ vs w hr1 ha hM0) fun val w' hh => ?_
 obtain ⟨ρ', hu, hav, hM1⟩ := hh
 refine ⟨ρ', hu, hav, ?_⟩
 have off : ∀ id o p, (cget σ id o).isSome = true → ρ[id]? = some p → (∀ x ∈ m.l0, x.id ≠ id) → ¬ ∃ id o p', (cget ⟨m.n, hb, []⟩ id o).isSome = true ∧ ρ[id]? = some p' ∧ p'.b = p.b := fun id o p q1 q2 q3 => by
  rintro ⟨id2, o2, p2, r1, r2, r3⟩
  obtain ⟨x, hx⟩ := Option.isSome_iff_exists.1 r1
  obtain ⟨r4, y, hy, r5⟩ := hsub id2 o2 x hx
  exact hM.apart id2 id o2 o p2 p (fun e => q3 y hy (r5.trans e)) (by rw [r4]; rfl) q1 r2 q2 r3
 have may1 : ∀ b, (Fm.mk (fun b => ∃ id o p, (cget ⟨m.n, hb, []⟩ id o).isSome = true ∧ ρ[id]? = some p ∧ p.b = b) w hok).may b → w0.may b := fun b hb' => by
  rcases hb' with hb' | ⟨id, o, p, r1, r2, rfl⟩
  ·exact .inl (Nat.le_trans hM.old.size hb')
  ·obtain ⟨x, hx⟩ := Option.isSome_iff_exists.1 r1
   exact hM.far id o p (by rw [(hsub id o x hx).1]; rfl) r2
 have cls : ∀ id ob, oget ⟨m.n1, hs, []⟩ id = some ob → (∃ o, (tget ob.d o ob.m).isSome = true) → (∃ x ∈ m.l1, IsB x id ob) ∨ ((∀ x ∈ m.l0, x.id ≠ id) ∧ oget σ id = some ob) := fun id ob q1 q2 => by
  rcases h4 id ob q1 with hh | ⟨_, hh⟩
  ·exact .inl hh
  ·rcases h3 id ob hh with hh | hh
   ·obtain ⟨o, q2⟩ := q2
    rw [hh, tget_nil] at q2; cases q2
   ·exact .inr hh
 have one : ∀ x ∈ m.l1, ∀ id ob, IsB x id ob → ∃ ob1, oget σ1 id = some ob1 ∧ ob1.e = ob.e ∧ ∀ o y, tget ob.d o ob.m = some y → tget ob1.d o ob1.m = some y := fun x hx id ob hi => by
  obtain ⟨i1, i2, _, i4⟩ := hi
  obtain ⟨ob1, r1, r2, r3⟩ := hl1 x hx
  refine ⟨ob1, by rw [← i1]; exact r1, by rw [r2, i2], fun o y hy => ?_⟩
  rw [i4 o] at hy
  rw [r3 o (List.getElem?_eq_some_iff.1 hy).1]; exact hy
 have cell : ∀ id o, (cget ⟨m.n1, hs, []⟩ id o).isSome = true → (cget σ1 id o).isSome = true ∨ ((∀ x ∈ m.l0, x.id ≠ id) ∧ (cget σ id o).isSome = true) := fun id o q => by
  obtain ⟨y, hy⟩ := Option.isSome_iff_exists.1 q
  obtain ⟨ob, q1, q2⟩ := cget_iff.1 hy
  rcases cls id ob q1 ⟨o, by rw [q2]; rfl⟩ with ⟨x, hx, hi⟩ | ⟨r1, r2⟩
  ·obtain ⟨ob1, r1, _, r3⟩ := one x hx id ob hi
   exact .inl (by rw [cget_iff.2 ⟨ob1, r1, r3 o y q2⟩]; rfl)
  ·exact .inr ⟨r1, by rw [cget_iff.2 ⟨ob, r2, q2⟩]; rfl⟩
 have old : ∀ id o p, (cget σ id o).isSome = true → ρ'[id]? = some p → ρ[id]? = some p := fun id o p q1 q2 => by
  obtain ⟨y, hy⟩ := Option.isSome_iff_exists.1 q1
  obtain ⟨p0, _, _, _, r1, _⟩ := hM.at_ hy
  have := hu _ _ r1
  rw [q2] at this
  rw [r1, Option.some.inj this]
 exact {
  len := hM1.len.trans hn1.symm
  blk := fun id ob q1 q2 => by
   rcases cls id ob q1 q2 with ⟨x, hx, hi⟩ | ⟨r1, r2⟩
   ·obtain ⟨ob1, r1, r2, r3⟩ := one x hx id ob hi
    obtain ⟨o, q2⟩ := q2
    obtain ⟨y, hy⟩ := Option.isSome_iff_exists.1 q2
    obtain ⟨p, cs, s1, s2, s3, s4⟩ := hM1.blk id ob1 r1 ⟨o, by rw [r3 o y hy]; rfl⟩
    exact ⟨p, cs, s1, by rw [← r2]; exact s2, s3, fun o y hy => s4 o y (r3 o y hy)⟩
   ·obtain ⟨p, cs, s1, s2, s3, s4⟩ := hM.blk id ob r2 q2
    obtain ⟨o, q2⟩ := q2
    obtain ⟨y, hy⟩ := Option.isSome_iff_exists.1 q2
    refine ⟨p, cs, hu _ _ s1, s2.fr hM1.old (off id o p (by rw [cget_iff.2 ⟨ob, r2, hy⟩]; rfl) s1 r1), s3, fun o y hy => ?_⟩
    obtain ⟨v, t1, t2⟩ := s4 o y hy
    exact ⟨v, t1, t2.up hu⟩
  old := hM.old.trans hM1.old fun j hj hS => by
   rcases may1 j (.inr hS) with hh | hh
   ·have hh : w0.w.heap.size ≤ j := hh
    omega
   ·exact hh
  far := fun id o p q1 q2 => by
   rcases cell id o q1 with hh | ⟨_, hh⟩
   ·exact may1 _ (hM1.far id o p hh q2)
   ·exact hM.far id o p hh (old id o p hh q2)
  pre := fun id ob q1 o ho => by
   cases hq : tget ob.d o ob.m with
   | none => rfl
   | some y =>
    rcases cls id ob q1 ⟨o, by rw [hq]; rfl⟩ with ⟨x, hx, _, _, i3, i4⟩ | ⟨_, r2⟩
    ·rw [i4 o, List.getElem?_eq_none (by omega)] at hq; cases hq
    ·rw [hM.pre id ob r2 o ho] at hq; cases hq
  apart := fun id id' o o' p p' hne q1 q2 q3 q4 => by
   have mix : ∀ id id' o o' p p', (cget σ1 id o).isSome = true → ρ'[id]? = some p → (∀ x ∈ m.l0, x.id ≠ id') → (cget σ id' o').isSome = true → ρ'[id']? = some p' → p.b ≠ p'.b := fun id id' o o' p p' r1 r2 r3 r4 r5 => by
    have r6 := old id' o' p' r4 r5
    rcases hM1.far id o p r1 r2 with hh | hh
    ·have hh : w.heap.size ≤ p.b := hh
     have := hM.below id' o' p' r4 r6
     omega
    ·intro e
     refine off id' o' p' r4 r6 r3 ?_
     rw [← e]; exact hh
   rcases cell id o q1 with hh | ⟨g1, hh⟩
   ·rcases cell id' o' q2 with hh' | ⟨g1', hh'⟩
    ·exact hM1.apart id id' o o' p p' hne hh hh' q3 q4
    ·exact mix id id' o o' p p' hh q3 g1' hh' q4
   ·rcases cell id' o' q2 with hh' | ⟨g1', hh'⟩
    ·exact (mix id' id o' o p' p hh' q4 g1 hh q3).symm
    ·exact hM.apart id id' o o' p p' hne hh hh' (old id o p hh q3) (old id' o' p' hh' q4)
  mps := Mps.nil _ _ _ }
theorem memo_nil {f : Nat} : OrcS f (memoO []) := fun w0 al σ a e' σ' ρ vs w h ha hM => by cases h
theorem memo_cons {tab : List (Nat × Fe)} (ht : TabOK tab) {N f : Nat} {m : Me} {es : List Me} (hm : ranB tab N f m = true) (h0 : OrcS f (memoO es)) : OrcS f (memoO (m :: es)) := fun w0 al σ a e' σ' ρ vs w h ha hM => by
 have h : ifK (Nat.beq m.n σ.n) (meO m al σ) (memoO es al σ) = .mk (.val a) e' σ' := h
 rw [ifK_eq] at h
 split at h
 ·rename_i hb
  exact me_sound ht hm (Nat.eq_of_beq_eq_true hb) h ha hM
 ·exact h0 w0 al σ a e' σ' ρ vs w h ha hM
theorem tok_nil : TabOK [] := fun x hx => by cases hx
theorem tok_cons {f : Nat} {x : Fe} {l : List (Nat × Fe)} (h : FeOK f x) (t : TabOK l) : TabOK ((f, x) :: l) := fun y hy => by
 rcases List.mem_cons.1 hy with rfl | hy
 ·exact h
 ·exact t y hy
noncomputable def nv (k : IntKind) (l : List Nat) : List SV := List.rec (motive := fun _ => List SV) [] (fun x _ ih => .n k x :: ih) l
end Rn
end Eng
end Go.Proofs.YtpfelapckcojjaaGreatDoor
namespace Go.Proofs.YtpfelapckcojjaaGreatDoor
open Go.RowKit
namespace Eng
namespace Rn
noncomputable def on2 (al : List AV) (k : AV → AV → Rs) : Rs := List.rec (motive := fun _ => Rs) .no (fun x r _ => List.rec (motive := fun _ => Rs) .no (fun y r _ => List.rec (motive := fun _ => Rs) (k x y) (fun _ _ _ => .no) r) r) al
theorem on2_inv {res : Rs} {ρ : Pl} (hr : res ≠ .no) {al : List AV} {vs : List Value} {k : AV → AV → Rs} (ha : ARs ρ al vs) (h : on2 al k = res) : ∃ x y v u, vs = [v, u] ∧ AR ρ x v ∧ AR ρ y u ∧ k x y = res := by
 cases ha with
 | nil => exact absurd h.symm hr
 | cons h1 h2 =>
  cases h2 with
  | nil => exact absurd h.symm hr
  | cons h3 h4 =>
   cases h4 with
   | nil => exact ⟨_, _, _, _, rfl, h1, h3, h⟩
   | cons _ _ => exact absurd h.symm hr
noncomputable def ixN (a : Nat) (l : List Nat) : Nat → SV := List.rec (motive := fun _ => Nat → SV) (fun _ => .m .i64 0) (fun x _ ih i => Bool.rec (motive := fun _ => SV) (cN (Nat.add i 1) ih) (.n .i64 i) (Nat.beq x a)) l
noncomputable def ixbO (al : List AV) (σ : Mem) : Rs := on2 al fun x y => onS x fun l => onN y fun k a => kkK k .u8 (.mk (.val (.v (ixN a l 0))) e0 σ)
theorem u8_eq {x a : Nat} (hx : x < 256) (ha : a < 256) : (UInt8.ofNat x == UInt8.ofNat a) = decide (x = a) := by
 by_cases h : x = a
 ·subst h; simp
 ·rw [decide_eq_false h]
  simp only [beq_eq_false_iff_ne, ne_eq]
  intro hh
  have := congrArg UInt8.toNat hh
  simp only [UInt8.toNat_ofNat'] at this
  omega
theorem ixN_eq {ρ : Pl} {a : Nat} (ha : a < 256) : ∀ (l : List Nat) (i : Nat), (∀ c ∈ l, c < 256) → i + l.length ≤ 9223372036854775807 → SR ρ (ixN a l i) (.int .i64 (match (uOf l).findIdx? (· == UInt8.ofNat a) with
  | some j => ((i + j : Nat) : Int)
  | none => -1))
 | [], i, _, _ => ⟨rfl, Nat.zero_le _, rfl⟩
 | x :: l, i, hl, hi => by
  have hx := hl x List.mem_cons_self
  rw [List.length_cons] at hi
  have ih := ixN_eq (ρ := ρ) ha l (i + 1) (fun c hc => hl c (List.mem_cons_of_mem x hc)) (by omega)
  have e1 : uOf (x :: l) = UInt8.ofNat x :: uOf l := rfl
  rw [e1, List.findIdx?_cons, u8_eq hx ha]
  have e2 : ixN a (x :: l) i = Bool.rec (motive := fun _ => SV) (cN (Nat.add i 1) (ixN a l)) (.n .i64 i) (Nat.beq x a) := rfl
  rw [e2, beq_dec]
  by_cases h : x = a
  ·rw [decide_eq_true h]
   exact ⟨rfl, by show i ≤ 9223372036854775807; omega⟩
  ·rw [decide_eq_false h]
   show SR ρ (cN (Nat.add i 1) (ixN a l)) _
   rw [cN_eq]
   show SR ρ (ixN a l (i + 1)) _
   revert ih
   cases (uOf l).findIdx? (· == UInt8.ofNat a) with
   | none => exact fun ih => ih
   | some j =>
    intro ih
    show SR ρ _ (.int .i64 ((i + (j + 1) : Nat) : Int))
    rw [show i + (j + 1) = i + 1 + j from by omega]
    exact ih
theorem ixb_orc : OrcS 78 ixbO := fun w0 al σ v e' σ' ρ vs w h ha hM => by
 obtain ⟨x, y, vx, vy, rfl, hx, hy, h1⟩ := on2_inv val_ne ha h
 obtain ⟨l, rfl, h2⟩ := onS_inv val_ne h1
 obtain ⟨k, a, rfl, h3⟩ := onN_inv val_ne h2
 obtain ⟨rfl, h4⟩ := kkK_inv val_ne h3
 injection h4 with h5 _ h6
 injection h5 with h5
 subst h5; subst h6
 obtain ⟨rfl, hl, hm⟩ := hx
 obtain ⟨rfl, hk⟩ := hy
 have hk : a < 256 := by have : a ≤ 255 := hk; omega
 have ea : (Int.ofNat a) = ((UInt8.ofNat a).toNat : Int) := by
  rw [UInt8.toNat_ofNat', Nat.mod_eq_of_lt (by omega)]; rfl
 have hd := ixb_does w (uOf l) (UInt8.ofNat a)
 rw [← ea] at hd
 refine Does.mono hd fun val w' hh => ?_
 obtain ⟨rfl, rfl⟩ := hh
 refine ⟨ρ, Up.refl ρ, ?_, hM⟩
 have := ixN_eq (ρ := ρ) hk l 0 hl (by unfold maxLen at hm; omega)
 unfold idxI
 revert this
 cases (uOf l).findIdx? (· == UInt8.ofNat a) with
 | none => exact fun h => h
 | some j =>
  intro h
  have h : SR ρ (ixN a l 0) (.int .i64 ((0 + j : Nat) : Int)) := h
  rw [Nat.zero_add] at h
  exact h
end Rn
end Eng
end Go.Proofs.YtpfelapckcojjaaGreatDoor
namespace Go.Proofs.YtpfelapckcojjaaGreatDoor
open Go.RowKit
namespace Eng
namespace Rn
noncomputable def is1 (s : List Nat) (k : Nat → Rs) : Rs := List.rec (motive := fun _ => Rs) .no (fun x t _ => List.rec (motive := fun _ => Rs) (k x) (fun _ _ _ => .no) t) s
theorem is1_inv {s : List Nat} {res : Rs} {k : Nat → Rs} (hr : res ≠ .no) (h : is1 s k = res) : ∃ x, s = [x] ∧ k x = res := by
 cases s with
 | nil => exact absurd h.symm hr
 | cons x t =>
  cases t with
  | nil => exact ⟨x, rfl, h⟩
  | cons _ _ => exact absurd h.symm hr
noncomputable def cntN (a : Nat) (l : List Nat) : Nat := List.rec (motive := fun _ => Nat) 0 (fun x _ ih => Bool.rec (motive := fun _ => Nat) ih (Nat.add ih 1) (Nat.beq x a)) l
theorem cntN_eq {a : Nat} (ha : a < 256) : ∀ l : List Nat, (∀ c ∈ l, c < 256) → cntN a l = (uOf l).count (UInt8.ofNat a)
 | [], _ => rfl
 | x :: l, h => by
  have ih := cntN_eq ha l fun c hc => h c (List.mem_cons_of_mem x hc)
  have e1 : uOf (x :: l) = UInt8.ofNat x :: uOf l := rfl
  have e2 : cntN a (x :: l) = Bool.rec (motive := fun _ => Nat) (cntN a l) (Nat.add (cntN a l) 1) (Nat.beq x a) := rfl
  rw [e1, List.count_cons, e2, beq_dec, u8_eq (h x List.mem_cons_self) ha]
  by_cases hx : x = a
  ·rw [decide_eq_true hx, ih]; rfl
  ·rw [decide_eq_false hx, ih]; rfl
end Rn
theorem cnt1_does (w : World) (l : Str) (c : UInt8) : Does Tryz.prog 295 #[.string (su l), .string (su [c])] w fun r w' => r = .int .i64 (l.count c : Int) ∧ w = w' := by
 refine does2 Tryz.func295 rfl (by kernel_rfl) ?_
 repeat' (first | refine xui (z := c) 0 rfl rfl rfl rfl rfl ?_ | refine xuln1 rfl rfl ?_ | refine xuln rfl rfl ?_ | refine go1L ?_ | fail)
 refine xext (e := Extern.BytealgCount.count) Tryz.func337 (by kernel_rfl) (by kernel_rfl) (by kernel_rfl) (by kernel_rfl) rfl (Lib.run_countString (su l) _ w) ?_
 refine goL ?_
 refine tret1 rfl rfl ⟨?_, rfl⟩
 simp [Lib.countByte, su]
namespace Rn
noncomputable def cntO (al : List AV) (σ : Mem) : Rs := on2 al fun x y => onS x fun l => onS y fun s => is1 s fun a => .mk (.val (.v (.n .i64 (cntN a l)))) e0 σ
theorem cnt_orc : OrcS 295 cntO := fun w0 al σ v e' σ' ρ vs w h ha hM => by
 obtain ⟨x, y, vx, vy, rfl, hx, hy, h1⟩ := on2_inv val_ne ha h
 obtain ⟨l, rfl, h2⟩ := onS_inv val_ne h1
 obtain ⟨s, rfl, h3⟩ := onS_inv val_ne h2
 obtain ⟨a, rfl, h4⟩ := is1_inv val_ne h3
 injection h4 with h5 _ h6
 injection h5 with h5
 subst h5; subst h6
 obtain ⟨rfl, hl, hm⟩ := hx
 obtain ⟨rfl, hs, _⟩ := hy
 have ha := hs a List.mem_cons_self
 refine Does.mono (cnt1_does w (uOf l) (UInt8.ofNat a)) fun val w' hh => ?_
 obtain ⟨rfl, rfl⟩ := hh
 have hc : (uOf l).count (UInt8.ofNat a) ≤ (uOf l).length := List.count_le_length
 have hu : (uOf l).length = l.length := List.length_map _
 refine ⟨ρ, Up.refl ρ, ?_, hM⟩
 rw [cntN_eq ha l hl]
 exact ⟨rfl, by show (uOf l).count (UInt8.ofNat a) ≤ 9223372036854775807; unfold maxLen at hm; omega⟩
end Rn
end Eng
end Go.Proofs.YtpfelapckcojjaaGreatDoor
namespace Go.Proofs.YtpfelapckcojjaaGreatDoor
open Go.RowKit
namespace Eng
namespace Rn
noncomputable def retB (m t : Nat) (r : Rs) : Bool := Rs.rec (motive := fun _ => Bool) false (fun x e σ => Ex.rec (motive := fun _ => Bool) false (fun _ => false) (fun _ => false) (ok ((gtT m t).f e fun v => .mk (.val v) e σ)) (fun _ => false) x) r
theorem retB_inv {m t : Nat} {r : Rs} (h : retB m t r = true) : ∃ e σ, r = .mk .ret e σ ∧ elk m e t = some (.v (.b true)) := by
 cases r with
 | no => cases h
 | mk x e σ =>
  cases x with
  | ret =>
   have h : ok ((gtT m t).f e fun v => .mk (.val v) e σ) = true := h
   generalize hq : (gtT m t).f e (fun v => .mk (.val v) e σ) = q at h
   have hn : q ≠ .no := fun hh => by rw [hh] at h; cases h
   obtain ⟨v, h1, h2⟩ := gtT_inv hn hq
   refine ⟨e, σ, rfl, ?_⟩
   rw [← h2] at h
   cases v with
   | v x =>
    cases x with
    | b q => have h : q = true := h; subst h; exact h1
    | _ => cases h
   | _ => cases h
  | _ => cases h
theorem ER.z {m : Nat} {ρ : Pl} {env : Env} : ER m ρ ⟨[], [], [], []⟩ env := fun t a ha => by
 unfold elk at ha
 cases hk : kept m t <;> (rw [hk] at ha; have ha : alook t [] = some a := ha; cases ha)
theorem ER.c {m : Nat} {ρ : Pl} {env : Env} {t : Nat} {a : AV} {v : Value} {l : AEnv} (h : ER m ρ ⟨l, [], [], []⟩ env) (hv : look env t = some v) (ha : AR ρ a v) : ER m ρ ⟨(t, a) :: l, [], [], []⟩ env := fun t' a' h' => by
 unfold elk at h'
 cases hk : kept m t' with
 | true =>
  rw [hk] at h'
  have q1 : alook t' ((t, a) :: l) = some a' := h'
  clear h'
  simp only [alook] at q1
  split at q1
  ·rename_i ht
   subst ht
   have q2 := Option.some.inj q1
   subst q2
   exact ⟨v, hv, ha⟩
  ·refine h t' a' ?_
   unfold elk
   rw [hk]; exact q1
 | false =>
  rw [hk] at h'
  have q1 : alook t' [] = some a' := h'
  cases q1
theorem MR.z (w : World) (hT : TabI noneB w) : MR ⟨noneB, w, hT⟩ [] ⟨0, .nil, []⟩ w where
 len := rfl
 blk := fun id ob h1 _ => by
  have : oget ⟨0, .nil, []⟩ id = none := tget_nil _ _
  rw [this] at h1; cases h1
 old := Fr.refl _ _
 far := fun id o p _ hp => by cases hp
 pre := fun id ob h1 => by
  have : oget ⟨0, .nil, []⟩ id = none := tget_nil _ _
  rw [this] at h1; cases h1
 apart := fun id id' o o' p p' _ _ _ hp => by cases hp
 mps := Mps.nil _ _ _
theorem t_run {tab : List (Nat × Fe)} (ht : TabOK tab) {N n d m t : Nat} {fn : Func} {R : Value → World → Prop} {k : List It} {env : Env} {w : World} {c : Code} {e : En} {σ : Mem} {ρ : Pl} {w0 : Fm} (hr : fn.results = #[.tmp t]) (h : retB m t ((codW fn.ntmps m d c).f (run tab N) n e σ) = true) (hE : ER m ρ e env) (hM : MR w0 ρ σ w) (hR : ∀ w', Fr w0.S w0.w w' → R (.bool true) w') : T Tryz.prog fn R (.code c :: k) env w := fun a ha => by
 obtain ⟨e1, σ1, h1, h2⟩ := retB_inv h
 refine wp_mono (cod_run (w0 := w0) (N := fn.ntmps) (m := m) (fun F => run_sound ht N F) d c n e σ _ ρ a w (by rw [h1]; exact fun hh => by cases hh) rfl ⟨ρ, env, Up.refl ρ, hE, hM, ha⟩) ?_
 rintro ex a' w' ⟨x2, e2, σ2, k1, k2, ρ', env', k3, k4, k5, k6⟩
 rw [h1] at k1
 injection k1 with q1 q2 q3
 subst q1; subst q2; subst q3
 cases ex with
 | ret =>
  obtain ⟨v, q4, q5⟩ := k4 t _ h2
  have q5 : v = .bool true := q5
  subst q5
  exact sem_ret (show bodyPost Tryz.prog fn (Ret R) .ret a' w' from ⟨k6.1, _, by rw [results_tmp hr, Array.getD_eq_getD_getElem?, k6.2.2 t _ q4]; rfl, _, rfl, hR w' k5.old⟩) k
 | _ => cases k2
end Rn
end Eng
end Go.Proofs.YtpfelapckcojjaaGreatDoor
