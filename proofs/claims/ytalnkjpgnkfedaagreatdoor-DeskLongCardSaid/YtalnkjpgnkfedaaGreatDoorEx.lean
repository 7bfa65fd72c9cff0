/-
  Numbers: sums, products, comparisons.
-/
import Derived.Test.YtalnkjpgnkfedaaGreatDoorEu
namespace Go.Proofs.YtalnkjpgnkfedaaGreatDoor
open Go.RowKit
namespace Eng
namespace Rn
section
variable {res : Rs} (hr : res ≠ .no)
include hr
theorem gtT_inv {m t : Nat} {e : En} {k : AV → Rs} (h : (gtT m t).f e k = res) : ∃ a, elk m e t = some a ∧ k a = res := by
  unfold gtT at h
  unfold elk
  cases hk : kept m t with
  | true => rw [hk] at h; exact findK_inv hr h
  | false => rw [hk] at h; exact findK_inv hr h
theorem onN_inv {x : AV} {f : IntKind → Nat → Rs} (h : onN x f = res) : ∃ k a, x = .v (.n k a) ∧ f k a = res := by
  cases x with
  | v x => cases x <;> first | exact ⟨_, _, rfl, h⟩ | exact absurd h.symm hr
  | _ => exact absurd h.symm hr
theorem onB_inv {x : AV} {a b : Rs} (h : onB x a b = res) : (x = .v (.b true) ∧ a = res) ∨ (x = .v (.b false) ∧ b = res) := by
  cases x with
  | v x =>
    cases x with
    | b q =>
      cases q with
      | true => exact .inl ⟨rfl, h⟩
      | false => exact .inr ⟨rfl, h⟩
    | _ => exact absurd h.symm hr
  | _ => exact absurd h.symm hr
theorem onS_inv {x : AV} {f : List Nat → Rs} (h : onS x f = res) : ∃ l, x = .v (.s l) ∧ f l = res := by
  cases x with
  | v x => cases x <;> first | exact ⟨_, rfl, h⟩ | exact absurd h.symm hr
  | _ => exact absurd h.symm hr
theorem onP_inv {x : AV} {f : Nat → Nat → Rs} (h : onP x f = res) : ∃ id o, x = .v (.p id o) ∧ f id o = res := by
  cases x with
  | v x => cases x <;> first | exact ⟨_, _, rfl, h⟩ | exact absurd h.symm hr
  | _ => exact absurd h.symm hr
theorem onG_inv {x : AV} {f : List SV → Rs} (h : onG x f = res) : ∃ l, x = .g l ∧ f l = res := by
  cases x <;> first | exact ⟨_, rfl, h⟩ | exact absurd h.symm hr
theorem onT_inv {x : AV} {f : List TV → Rs} (h : onT x f = res) : ∃ l, x = .t l ∧ f l = res := by
  cases x <;> first | exact ⟨_, rfl, h⟩ | exact absurd h.symm hr
theorem onF_inv {x : AV} {f : Nat → List SV → Rs} (h : onF x f = res) : ∃ g l, x = .f g l ∧ f g l = res := by
  cases x <;> first | exact ⟨_, _, rfl, h⟩ | exact absurd h.symm hr
theorem onV_inv {x : AV} {f : SV → Rs} {g : List SV → Rs} (h : onV x f g = res) : (∃ y, x = .v y ∧ f y = res) ∨ ∃ l, x = .g l ∧ g l = res := by
  cases x with
  | v y => exact .inl ⟨y, rfl, h⟩
  | g l => exact .inr ⟨l, rfl, h⟩
  | _ => exact absurd h.symm hr
theorem onI_inv {x : AV} {f : IntKind → Int → Rs} (h : onI x f = res) : (∃ k a, x = .v (.n k a) ∧ f k (.ofNat a) = res) ∨ ∃ k a, x = .v (.m k a) ∧ f k (.negSucc a) = res := by
  cases x with
  | v x => cases x <;> first | exact .inl ⟨_, _, rfl, h⟩ | exact .inr ⟨_, _, rfl, h⟩ | exact absurd h.symm hr
  | _ => exact absurd h.symm hr
end
theorem fwB_eq {n : Nat} (h : n ≤ 1099511627776) : fwB n = fw n := by
  cases n with
  | zero => rw [fw_zero]; rfl
  | succ n =>
    rw [fw_pos (by omega) (by omega)]
    rfl
theorem onE_inv {res : Rs} (hr : res ≠ .no) {x : AV} {f : Nat → Rs} (h : onE x f = res) : ∃ a, x = .v (.fl a) ∧ f a = res := by
  cases x with
  | v x => cases x <;> first | exact ⟨_, rfl, h⟩ | exact absurd h.symm hr
  | _ => exact absurd h.symm hr
theorem onX_inv {res : Rs} (hr : res ≠ .no) {x : AV} {f : Nat → Nat → Rs} (h : onX x f = res) : ∃ a b, x = .v (.cx a b) ∧ f a b = res := by
  cases x with
  | v x => cases x <;> first | exact ⟨_, _, rfl, h⟩ | exact absurd h.symm hr
  | _ => exact absurd h.symm hr
theorem onJ_inv {res : Rs} (hr : res ≠ .no) {x : AV} {f : Rs} (h : onJ x f = res) : x = .v .i0 ∧ f = res := by
  cases x with
  | v x => cases x <;> first | exact ⟨rfl, h⟩ | exact absurd h.symm hr
  | _ => exact absurd h.symm hr
theorem cS_sound {ρ : Pl} {v : Value} {x : SV} (h : cS v = some x) : SR ρ x v := by
  unfold cS at h
  split at h
  · injection h with h; subst h; rfl
  · split at h
    · rename_i hb; injection h with h; subst h; exact ⟨rfl, Nat.le_of_ble_eq_true hb⟩
    · cases h
  · split at h
    · rename_i hb; injection h with h; subst h
      rw [Bool.and_eq_true] at hb
      exact ⟨rfl, Nat.le_of_ble_eq_true hb.2, hb.1⟩
    · cases h
  · split at h
    · rename_i hb; injection h with h; subst h
      refine ⟨?_, ?_, by simpa using Nat.le_of_ble_eq_true hb⟩
      · rename_i s _
        obtain ⟨l, rfl⟩ := su_of s
        have e : l.map (UInt8.ofNat ∘ UInt8.toNat) = l := by
          rw [show (UInt8.ofNat ∘ UInt8.toNat) = id from funext fun u => UInt8.ofNat_toNat]
          simp
        simp [uOf, su, e]
      · intro c hc
        simp only [List.mem_map] at hc
        obtain ⟨u, _, rfl⟩ := hc
        exact u.toNat_lt
    · cases h
  · injection h with h; subst h; rfl
  · split at h
    · rename_i hb
      injection h with h; subst h
      rw [Bool.and_eq_true] at hb
      have hb1 := Nat.le_of_ble_eq_true hb.1
      have hb2 := Nat.eq_of_beq_eq_true hb.2
      refine ⟨?_, hb1⟩
      rw [← fwB_eq hb1, hb2]
    · cases h
  · injection h with h; subst h; rfl
  · injection h with h; subst h; exact ⟨rfl, by decide, by decide⟩
  · injection h with h; subst h; rfl
  · cases h
theorem cS_nu {v : Value} {x : SV} (h : cS v = some x) : nu x = true := by
  unfold cS at h
  split at h <;> first | (injection h with h; subst h; rfl) | (split at h <;> first | (injection h with h; subst h; rfl) | cases h) | cases h
theorem cL_sound {ρ : Pl} : ∀ {l : List Value} {r : List SV}, cL l = some r → SRs ρ r l
  | [], r, h => by injection h with h; subst h; exact .nil
  | v :: l, r, h => by
    have h' : (match cS v, cL l with
      | some a, some r => some (a :: r)
      | _, _ => none) = some r := h
    split at h'
    · rename_i a r' h1 h2; injection h' with h'; subst h'
      exact .cons ⟨cS_nu h1, cS_sound h1⟩ (cL_sound h2)
    · cases h'
theorem cA_sound {ρ : Pl} {v : Value} {a : AV} (h : cA v = some a) : AR ρ a v := by
  unfold cA at h
  split at h
  · rename_i cs
    split at h
    · rename_i l hl; injection h with h; subst h
      exact ⟨cs.toList, cL_sound hl, by simp⟩
    · cases h
  · split at h
    · rename_i x hx; injection h with h; subst h
      exact cS_sound hx
    · cases h
section
variable {res : Rs} (hr : res ≠ .no)
include hr
theorem gtC_inv {a : AV} {e : En} {k : AV → Rs} (h : (gtC a).f e k = res) : k a = res := by
  unfold gtC at h
  cases a with
  | v x =>
    have h' : (cV x fun x => (⟨fun _ k => k (.v x)⟩ : Wg)).f e k = res := h
    rw [cV_eq] at h'
    exact h'
  | g l =>
    have h' : (cVs l fun l => (⟨fun _ k => k (.g l)⟩ : Wg)).f e k = res := h
    rw [cVs_eq] at h'
    exact h'
  | _ => exact absurd h.symm hr
theorem gtW_inv {m : Nat} {x : Operand} {e : En} {k : AV → Rs} {ρ : Pl} {env : Env} (hE : ER m ρ e env) (h : (gtW m x).f e k = res) : ∃ a v, evo env x = some v ∧ AR ρ a v ∧ k a = res := by
  unfold gtW at h
  cases x with
  | tmp t =>
    obtain ⟨a, h1, h2⟩ := gtT_inv hr h
    obtain ⟨v, h3, h4⟩ := hE t a h1
    exact ⟨a, v, h3, h4, h2⟩
  | const v =>
    cases ha : cA v with
    | none =>
      have h' : (match cA v with
        | some a => gtC a
        | none => noG).f e k = res := h
      rw [ha] at h'
      exact absurd h'.symm hr
    | some a =>
      have h' : (match cA v with
        | some a => gtC a
        | none => noG).f e k = res := h
      rw [ha] at h'
      exact ⟨a, v, rfl, cA_sound ha, gtC_inv hr h'⟩
  | global g => exact absurd h.symm hr
  | func f => exact ⟨.f f [], _, rfl, ⟨[], .nil, rfl⟩, h⟩
end
end Rn
end Eng
end Go.Proofs.YtalnkjpgnkfedaaGreatDoor

namespace Go.Proofs.YtalnkjpgnkfedaaGreatDoor
open Go.RowKit
namespace Eng
namespace Rn
/-- What an operation comes to stands for what it does. -/
def Good (w0 : Fm) (ρ : Pl) (c : Kt) (res : Rs) (env : Env) (dst : Option Tmp) : Env → World → Prop := fun env' w' => ∃ v σ' ρ' val, c v σ' = res ∧ Up ρ ρ' ∧ AR ρ' v val ∧ MR w0 ρ' σ' w' ∧ env' = Eng.put env dst val
section
variable {m : Nat} {ih : Cl} {e : En} {σ : Mem} {c : Kt} {res : Rs} {ρ : Pl} {env : Env} {w0 : Fm} {w : World} {full : Array Oper} {d : Tmp} {ty : TypeId} {pos : String} {af : Array Edge} (hr : res ≠ .no) (hE : ER m ρ e env) (hM : MR w0 ρ σ w)
include hr hE hM
theorem s_move {x : Operand} (h : (opW m (.move x)).f ih e σ c = res) : xs Tryz.prog isI isS [] Eng.noH full (Good w0 ρ c res env (some d)) [⟨some d, .move x, ty, pos, af, none⟩] env w := by
  obtain ⟨a, v, h1, h2, h3⟩ := gtW_inv hr hE h
  exact xmv h1 ⟨a, σ, ρ, v, h3, Up.refl ρ, h2, hM, rfl⟩
theorem s_assign {x : Operand} (h : (opW m (.assign x)).f ih e σ c = res) : xs Tryz.prog isI isS [] Eng.noH full (Good w0 ρ c res env (some d)) [⟨some d, .assign x, ty, pos, af, none⟩] env w := by
  obtain ⟨a, v, h1, h2, h3⟩ := gtW_inv hr hE h
  exact xas h1 ⟨a, σ, ρ, v, h3, Up.refl ρ, h2, hM, rfl⟩
theorem s_nilCheck {x : Operand} (h : (opW m (.nilCheck x)).f ih e σ c = res) : xs Tryz.prog isI isS [] Eng.noH full (Good w0 ρ c res env (some d)) [⟨some d, .nilCheck x, ty, pos, af, none⟩] env w := by
  obtain ⟨a, v, h1, h2, h3⟩ := gtW_inv hr hE h
  obtain ⟨id, o, rfl, h3⟩ := onP_inv hr h3
  have h2' := h2
  obtain ⟨p, h4, rfl⟩ := h2
  exact xnc h1 ⟨_, σ, ρ, _, h3, Up.refl ρ, h2', hM, rfl⟩
theorem s_pick {x a b : Operand} (h : (opW m (.pick x a b)).f ih e σ c = res) : xs Tryz.prog isI isS [] Eng.noH full (Good w0 ρ c res env (some d)) [⟨some d, .pick x a b, ty, pos, af, none⟩] env w := by
  obtain ⟨q, v, h1, h2, h⟩ := gtW_inv hr hE h
  obtain ⟨a', va, h3, h4, h⟩ := gtW_inv hr hE h
  obtain ⟨b', vb, h5, h6, h⟩ := gtW_inv hr hE h
  rcases onB_inv hr h with ⟨rfl, h⟩ | ⟨rfl, h⟩
  · have h2' : v = .bool true := h2
    subst h2'
    exact xpk h1 h3 h5 rfl ⟨_, σ, ρ, _, h, Up.refl ρ, h4, hM, rfl⟩
  · have h2' : v = .bool false := h2
    subst h2'
    exact xpk h1 h3 h5 rfl ⟨_, σ, ρ, _, h, Up.refl ρ, h6, hM, rfl⟩
end
end Rn
end Eng
end Go.Proofs.YtalnkjpgnkfedaaGreatDoor

namespace Go.Proofs.YtalnkjpgnkfedaaGreatDoor
open Go.RowKit
namespace Eng
namespace Rn
section
variable {σ : Mem} {c : Kt} {res : Rs} {ρ : Pl} (hr : res ≠ .no)
include hr
theorem wrN_inv {k : IntKind} {s : Nat} (h : wrN σ c k s = res) : ∃ v, c (.v v) σ = res ∧ SR ρ v (.int k (k.wrap (Int.ofNat s))) := by
  cases k
  case i8 | i16 | i32 | i64 =>
    obtain ⟨hb, h⟩ := okK_inv h hr
    have hb := Nat.le_of_ble_eq_true hb
    refine ⟨_, h, ?_, hb⟩
    simp [IntKind.wrap, IntKind.signed, IntKind.bits]
    omega
  case u8 | u16 | u32 | u64 =>
    have h' := (fN_eq _ _).symm.trans h
    refine ⟨_, h', ?_, ?_⟩
    · simp [IntKind.wrap, IntKind.signed, IntKind.bits]
      exact (Int.natCast_emod s _).symm
    · exact Nat.le_of_lt_succ (Nat.mod_lt s (by decide))
theorem wrM_inv {k : IntKind} {s : Nat} (h : wrM σ c k s = res) : ∃ v, c (.v v) σ = res ∧ SR ρ v (.int k (k.wrap (Int.negSucc s))) := by
  cases k
  case i8 | i16 | i32 | i64 =>
    obtain ⟨hb, h⟩ := okK_inv h hr
    have hb := Nat.le_of_ble_eq_true hb
    refine ⟨_, h, ?_, hb, rfl⟩
    have e : Int.negSucc s = -(s + 1 : Int) := rfl
    refine congrArg (Value.int _) ?_
    simp [IntKind.wrap, IntKind.signed, IntKind.bits, e]
    omega
  case u8 | u16 | u32 | u64 =>
    have h' := (fN_eq _ _).symm.trans h
    refine ⟨_, h', ?_, Nat.sub_le _ _⟩
    have e : Int.negSucc s = -(s + 1 : Int) := rfl
    refine congrArg (Value.int _) ?_
    have e2 : ∀ n, Nat.mod s n = s % n := fun _ => rfl
    simp [IntKind.wrap, IntKind.signed, IntKind.bits, e, e2]
    omega
theorem wrI_inv {k : IntKind} {s : Int} (h : wrI σ c k s = res) : ∃ v, c (.v v) σ = res ∧ SR ρ v (.int k (k.wrap s)) := by
  cases s with
  | ofNat s => exact wrN_inv hr ((fN_eq _ _).symm.trans h)
  | negSucc s => exact wrM_inv hr ((fN_eq _ _).symm.trans h)
theorem kkK_inv {k k' : IntKind} {r : Rs} (h : kkK k k' r = res) : k = k' ∧ r = res := by
  obtain ⟨hb, h⟩ := okK_inv h hr
  refine ⟨?_, h⟩
  cases k <;> cases k' <;> first | rfl | cases hb
/-- Two whole numbers of one kind. -/
theorem iiK_inv {f : IntKind → Nat → Nat → Rs} {g : IntKind → Int → Int → Rs} {x y : AV} {u v : Value} (hx : AR ρ x u) (hy : AR ρ y v) (h : iiK f g x y = res) :
    ∃ k, (∃ a b : Nat, u = .int k a ∧ v = .int k b ∧ a ≤ maxK k ∧ b ≤ maxK k ∧ f k a b = res) ∨ ∃ a b : Int, u = .int k a ∧ v = .int k b ∧ g k a b = res := by
  cases x with
  | v x =>
    cases x with
    | n k a =>
      obtain ⟨rfl, ha⟩ := hx
      cases y with
      | v y =>
        cases y with
        | n k' b =>
          obtain ⟨ek, h9⟩ := kkK_inv hr (show kkK k k' (f k a b) = res from h); clear h; subst ek; have h := h9
          obtain ⟨rfl, hb⟩ := hy
          exact ⟨k, .inl ⟨a, b, rfl, rfl, ha, hb, h⟩⟩
        | m k' b =>
          obtain ⟨ek, h9⟩ := kkK_inv hr (show kkK k k' (g k (.ofNat a) (.negSucc b)) = res from h); clear h; subst ek; have h := h9
          obtain ⟨rfl, _⟩ := hy
          exact ⟨k, .inr ⟨_, _, rfl, rfl, h⟩⟩
        | _ => exact absurd h.symm hr
      | _ => exact absurd h.symm hr
    | m k a =>
      obtain ⟨rfl, _⟩ := hx
      rcases onI_inv hr (show onI y (fun k' b => kkK k k' (g k (.negSucc a) b)) = res from h) with ⟨k', b, rfl, h⟩ | ⟨k', b, rfl, h⟩
      · obtain ⟨ek, h9⟩ := kkK_inv hr h; clear h; subst ek; have h := h9
        obtain ⟨rfl, _⟩ := hy
        exact ⟨k, .inr ⟨_, _, rfl, rfl, h⟩⟩
      · obtain ⟨ek, h9⟩ := kkK_inv hr h; clear h; subst ek; have h := h9
        obtain ⟨rfl, _⟩ := hy
        exact ⟨k, .inr ⟨_, _, rfl, rfl, h⟩⟩
    | _ => exact absurd h.symm hr
  | _ => exact absurd h.symm hr
end
end Rn
end Eng
end Go.Proofs.YtalnkjpgnkfedaaGreatDoor
