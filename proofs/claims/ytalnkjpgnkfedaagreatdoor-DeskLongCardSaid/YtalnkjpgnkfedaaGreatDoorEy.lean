/-
  Operations on numbers, texts and truth values.
-/
import Derived.Test.YtalnkjpgnkfedaaGreatDoorEx
namespace Go.Proofs.YtalnkjpgnkfedaaGreatDoor
open Go.RowKit
namespace Eng
namespace Rn
theorem wrap_id {k : IntKind} {n : Nat} (h : n ≤ maxK k) : k.wrap (n : Int) = n := by
  cases k <;> simp [maxK] at h <;> simp [IntKind.wrap, IntKind.signed, IntKind.bits] <;> omega
theorem maxK_lt (k : IntKind) : ∃ q, maxK k + 1 = 2 ^ q ∧ q ≤ k.bits := by
  cases k
  · exact ⟨7, by decide, by decide⟩
  · exact ⟨15, by decide, by decide⟩
  · exact ⟨31, by decide, by decide⟩
  · exact ⟨63, by decide, by decide⟩
  · exact ⟨8, by decide, by decide⟩
  · exact ⟨16, by decide, by decide⟩
  · exact ⟨32, by decide, by decide⟩
  · exact ⟨64, by decide, by decide⟩
theorem kb_eq (k : IntKind) : kb k = k.bits := by cases k <;> rfl
theorem nbits {k : IntKind} {a b : Nat} (ha : a ≤ maxK k) (hb : b ≤ maxK k) : bits .and k a b = ((a &&& b : Nat) : Int) ∧ bits .or k a b = ((a ||| b : Nat) : Int) ∧ bits .xor k a b = ((a ^^^ b : Nat) : Int) ∧ (a &&& b) ≤ maxK k ∧ (a ||| b) ≤ maxK k ∧ (a ^^^ b) ≤ maxK k := by
  obtain ⟨q, hq, hk⟩ := maxK_lt k
  have ha' : a < 2 ^ q := by omega
  have hb' : b < 2 ^ q := by omega
  have hle : (2 : Nat) ^ q ≤ 2 ^ k.bits := Nat.pow_le_pow_right (by decide) hk
  have e : ∀ n : Nat, n < 2 ^ k.bits → (BitVec.ofInt k.bits (n : Int)).toNat = n := fun n hn => by
    rw [BitVec.toNat_ofInt]
    rw [← Int.natCast_emod]
    simp [Nat.mod_eq_of_lt hn]
  have h1 : (a &&& b) ≤ maxK k := by have := @Nat.and_le_left a b; omega
  have h2 : (a ||| b) ≤ maxK k := by have := Nat.or_lt_two_pow ha' hb'; omega
  have h3 : (a ^^^ b) ≤ maxK k := by have := Nat.xor_lt_two_pow ha' hb'; omega
  refine ⟨?_, ?_, ?_, h1, h2, h3⟩
  · simp only [bits, BitVec.toNat_and]
    rw [e a (by omega), e b (by omega)]
    exact wrap_id h1
  · simp only [bits, BitVec.toNat_or]
    rw [e a (by omega), e b (by omega)]
    exact wrap_id h2
  · simp only [bits, BitVec.toNat_xor]
    rw [e a (by omega), e b (by omega)]
    exact wrap_id h3
theorem nandn {k : IntKind} {a b : Nat} (ha : a ≤ maxK k) (hb : b ≤ maxK k) : bits .andNot k a b = ((anN a b : Nat) : Int) ∧ anN a b ≤ maxK k := by
  obtain ⟨q, hq, hk⟩ := maxK_lt k
  have ha' : a < 2 ^ q := by omega
  have hle : (2 : Nat) ^ q ≤ 2 ^ k.bits := Nat.pow_le_pow_right (by decide) hk
  have e : ∀ n : Nat, n < 2 ^ k.bits → (BitVec.ofInt k.bits (n : Int)).toNat = n := fun n hn => by
    rw [BitVec.toNat_ofInt]
    rw [← Int.natCast_emod]
    simp [Nat.mod_eq_of_lt hn]
  have h1 : a ^^^ (a &&& b) ≤ maxK k := by have h2 := @Nat.and_le_left a b; have := Nat.xor_lt_two_pow (y := a &&& b) ha' (by omega); omega
  have e2 : ∀ x y : BitVec k.bits, x &&& ~~~y = x ^^^ (x &&& y) := fun x y => by
    apply BitVec.eq_of_getLsbD_eq
    intro i hi
    simp [hi]
    cases x[i] <;> cases y[i] <;> rfl
  refine ⟨?_, h1⟩
  simp only [bits, e2, BitVec.toNat_xor, BitVec.toNat_and]
  rw [e a (by omega), e b (by omega)]
  exact wrap_id h1
theorem xanN {hs : List Nat} {H : World → Prop} {full : Array Oper} {K : Env → World → Prop} {rest : List Oper} {env : Env} {w : World} {d : Tmp} {ty : TypeId} {pos : String} {af : Array Edge} {t yt : TypeId} {x y : Operand} {k : IntKind} {a b : Int} (hx : evo env x = some (.int k a)) (hy : evo env y = some (.int k b)) (h : xs Tryz.prog isI isS hs H full K rest ((d, .int k (bits .andNot k a b)) :: env) w) : xs Tryz.prog isI isS hs H full K (⟨some d, .binOp .andNot t x y yt, ty, pos, af, none⟩ :: rest) env w := by
  refine x_bin hx hy (eqGuard_at_int ..) (fun w' => ?_) h
  rw [binOp_andNot, intBits_andNot]
  rfl
theorem bl_tot : ∀ a b : List UInt8, Op.bytesLess b a = !(Op.bytesLess a b || decide (a = b))
  | [], [] => rfl
  | [], _ :: _ => rfl
  | _ :: _, [] => rfl
  | x :: a, y :: b => by
    have ih := bl_tot a b
    simp only [Op.bytesLess, ih]
    by_cases h : x = y
    · subst h
      simp
    · have h' : ¬ y = x := fun e => h e.symm
      have hn : x.toNat ≠ y.toNat := fun e => h (UInt8.toNat_inj.1 e)
      simp only [beq_eq_false_iff_ne.2 h, beq_eq_false_iff_ne.2 h', Bool.false_and, Bool.or_false, List.cons.injEq, h, false_and, decide_false, UInt8.lt_iff_toNat_lt]
      by_cases h2 : x.toNat < y.toNat
      · simp [h2, Nat.not_lt.2 (Nat.le_of_lt h2)]
      · have : y.toNat < x.toNat := by omega
        simp [h2, this]
theorem ble_dec (a b : Nat) : Nat.ble a b = decide (a ≤ b) := by
  cases h : Nat.ble a b with
  | true => exact (decide_eq_true (Nat.le_of_ble_eq_true h)).symm
  | false => exact (decide_eq_false fun hh => by rw [Nat.ble_eq_true_of_le hh] at h; cases h).symm
theorem beq_dcd (a b : Nat) : Nat.beq a b = decide (a = b) := by
  rcases beq_cases a b with ⟨h1, h2⟩ | ⟨h1, h2⟩
  · rw [h2]; exact (decide_eq_true h1).symm
  · rw [h2]; exact (decide_eq_false h1).symm
theorem bI_eq (a b : Int) : bI a b = decide (a < b) := by
  cases a with
  | ofNat m =>
    cases b with
    | ofNat n =>
      show Nat.ble (m + 1) n = _
      rw [ble_dec]
      congr 1
      simp only [eq_iff_iff]
      show m + 1 ≤ n ↔ (m : Int) < (n : Int)
      omega
    | negSucc n => exact (decide_eq_false (by show ¬ (m : Int) < -(n + 1 : Int); omega)).symm
  | negSucc m =>
    cases b with
    | ofNat n => exact (decide_eq_true (by show -(m + 1 : Int) < (n : Int); omega)).symm
    | negSucc n =>
      show Nat.ble (n + 1) m = _
      rw [ble_dec]
      congr 1
      simp only [eq_iff_iff]
      show n + 1 ≤ m ↔ -(m + 1 : Int) < -(n + 1 : Int)
      omega
theorem eI_eq (a b : Int) : eI a b = decide (a = b) := by
  cases a with
  | ofNat m =>
    cases b with
    | ofNat n =>
      show Nat.beq m n = _
      rw [beq_dcd]
      congr 1
      simp only [eq_iff_iff]
      show m = n ↔ (m : Int) = (n : Int)
      omega
    | negSucc n => exact (decide_eq_false (by show ¬ (m : Int) = -(n + 1 : Int); omega)).symm
  | negSucc m =>
    cases b with
    | ofNat n => exact (decide_eq_false (by show ¬ -(m + 1 : Int) = (n : Int); omega)).symm
    | negSucc n =>
      show Nat.beq m n = _
      rw [beq_dcd]
      congr 1
      simp only [eq_iff_iff]
      show m = n ↔ -(m + 1 : Int) = -(n + 1 : Int)
      omega
theorem u8_inj {a b : Nat} (ha : a < 256) (hb : b < 256) : UInt8.ofNat a = UInt8.ofNat b ↔ a = b := by
  constructor
  · intro h
    have := congrArg UInt8.toNat h
    simp only [UInt8.toNat_ofNat'] at this
    omega
  · intro h; rw [h]
theorem eU_eq : ∀ {a b : List Nat}, (∀ c ∈ a, c < 256) → (∀ c ∈ b, c < 256) → eU a b = decide (uOf a = uOf b)
  | [], [], _, _ => rfl
  | [], _ :: _, _, _ => rfl
  | _ :: _, [], _, _ => rfl
  | x :: a, y :: b, ha, hb => by
    have h' : eU (x :: a) (y :: b) = Bool.rec (motive := fun _ => Bool) false (eU a b) (Nat.beq x y) := rfl
    have ih := eU_eq (fun c hc => ha c (List.mem_cons_of_mem _ hc)) (fun c hc => hb c (List.mem_cons_of_mem _ hc))
    have h8 := u8_inj (ha x (by simp)) (hb y (by simp))
    rw [h']
    rcases beq_cases x y with ⟨h1, h2⟩ | ⟨h1, h2⟩
    · rw [h2]
      subst h1
      show eU a b = _
      rw [ih]
      exact decide_eq_decide.2 (by simp only [uOf, List.map_cons, List.cons.injEq, true_and])
    · rw [h2]
      show false = _
      have : ¬ UInt8.ofNat x = UInt8.ofNat y := fun e => h1 (h8.1 e)
      exact (decide_eq_false (by simp [uOf, this])).symm
theorem ltU_eq : ∀ {a b : List Nat}, (∀ c ∈ a, c < 256) → (∀ c ∈ b, c < 256) → ltU a b = Op.bytesLess (uOf a) (uOf b)
  | [], [], _, _ => rfl
  | [], _ :: _, _, _ => rfl
  | _ :: _, [], _, _ => rfl
  | x :: a, y :: b, ha, hb => by
    have h' : ltU (x :: a) (y :: b) = Bool.rec (motive := fun _ => Bool) (Nat.ble (x + 1) y) (ltU a b) (Nat.beq x y) := rfl
    have ih := ltU_eq (fun c hc => ha c (List.mem_cons_of_mem _ hc)) (fun c hc => hb c (List.mem_cons_of_mem _ hc))
    have hx := ha x (by simp)
    have hy := hb y (by simp)
    have h8 := u8_inj hx hy
    have hl : (UInt8.ofNat x < UInt8.ofNat y) = (x < y) := by
      rw [UInt8.lt_iff_toNat_lt]
      simp only [UInt8.toNat_ofNat']
      rw [Nat.mod_eq_of_lt hx, Nat.mod_eq_of_lt hy]
    rw [h']
    show _ = (decide (UInt8.ofNat x < UInt8.ofNat y) || (UInt8.ofNat x == UInt8.ofNat y && Op.bytesLess (uOf a) (uOf b)))
    simp only [hl]
    rcases beq_cases x y with ⟨h1, h2⟩ | ⟨h1, h2⟩
    · rw [h2]
      subst h1
      show ltU a b = _
      rw [ih]
      simp
    · rw [h2]
      show Nat.ble (x + 1) y = _
      have : ¬ UInt8.ofNat x = UInt8.ofNat y := fun e => h1 (h8.1 e)
      rw [ble_dec, beq_eq_false_iff_ne.2 this]
      simp
      rfl
theorem bK_eq (σ : Mem) (c : Kt) (b : Bool) : bK σ c b = c (.v (.b b)) σ := by cases b <;> rfl
theorem eB_eq (a b : Bool) : eB a b = (a == b) := by cases a <;> cases b <;> rfl
section
variable {m : Nat} {ih : Cl} {e : En} {σ : Mem} {c : Kt} {res : Rs} {ρ : Pl} {env : Env} {w0 : Fm} {w : World} {full : Array Oper} {d : Tmp} {ty : TypeId} {pos : String} {af : Array Edge} (hr : res ≠ .no)
include hr
theorem nkK_inv {f : IntKind → Nat → Nat → Rs} {x y : AV} {u v : Value} (hx : AR ρ x u) (hy : AR ρ y v) (h : nkK f x y = res) : ∃ k, ∃ a b : Nat, u = .int k a ∧ v = .int k b ∧ a ≤ maxK k ∧ b ≤ maxK k ∧ f k a b = res := by
  obtain ⟨k, a, e1, h1⟩ := onN_inv hr h
  obtain ⟨k', b, e2, h2⟩ := onN_inv hr h1
  obtain ⟨e3, h3⟩ := kkK_inv hr h2
  subst e1; subst e2; subst e3
  exact ⟨k, a, b, hx.1, hy.1, hx.2, hy.2, h3⟩
theorem nnK_inv {f : IntKind → Nat → Nat → Rs} {x y : AV} {u v : Value} (hx : AR ρ x u) (hy : AR ρ y v) (h : nnK f x y = res) : ∃ k k', ∃ a b : Nat, u = .int k a ∧ v = .int k' b ∧ a ≤ maxK k ∧ f k a b = res := by
  obtain ⟨k, a, e1, h1⟩ := onN_inv hr h
  obtain ⟨k', b, e2, h2⟩ := onN_inv hr h1
  subst e1; subst e2
  exact ⟨k, k', a, b, hx.1, hy.1, hx.2, h2⟩
/-- Compared: numbers, or texts. -/
theorem cmK_inv {fI : Int → Int → Bool} {fU : List Nat → List Nat → Bool} {q : Bool} {x y : AV} {u v : Value} (hx : AR ρ x u) (hy : AR ρ y v) (h : cmK fI fU q σ c x y = res) :
    (∃ k a b, u = .int k a ∧ v = .int k b ∧ c (.v (.b (q == fI a b))) σ = res) ∨ (∃ a b, u = .string (su (uOf a)) ∧ v = .string (su (uOf b)) ∧ (∀ c ∈ a, c < 256) ∧ (∀ c ∈ b, c < 256) ∧ c (.v (.b (q == fU a b))) σ = res) ∨ ∃ a b : Nat, u = .float .f64 (fw a) ∧ v = .float .f64 (fw b) ∧ a ≤ 1099511627776 ∧ b ≤ 1099511627776 ∧ c (.v (.b (q == fI a b))) σ = res := by
  cases x with
  | v x =>
    cases x with
    | n k a =>
      obtain ⟨rfl, ha⟩ := hx
      rcases onI_inv hr (show onI y (fun k' b => kkK k k' (bK σ c (eB q (fI (.ofNat a) b)))) = res from h) with ⟨k', b, e1, h1⟩ | ⟨k', b, e1, h1⟩
      · obtain ⟨ek, h9⟩ := kkK_inv hr h1
        rw [bK_eq, eB_eq] at h9
        subst ek; subst e1
        exact .inl ⟨k, _, _, rfl, hy.1, h9⟩
      · obtain ⟨ek, h9⟩ := kkK_inv hr h1
        rw [bK_eq, eB_eq] at h9
        subst ek; subst e1
        exact .inl ⟨k, _, _, rfl, hy.1, h9⟩
    | m k a =>
      obtain ⟨rfl, _⟩ := hx
      rcases onI_inv hr (show onI y (fun k' b => kkK k k' (bK σ c (eB q (fI (.negSucc a) b)))) = res from h) with ⟨k', b, e1, h1⟩ | ⟨k', b, e1, h1⟩
      · obtain ⟨ek, h9⟩ := kkK_inv hr h1
        rw [bK_eq, eB_eq] at h9
        subst ek; subst e1
        exact .inl ⟨k, _, _, rfl, hy.1, h9⟩
      · obtain ⟨ek, h9⟩ := kkK_inv hr h1
        rw [bK_eq, eB_eq] at h9
        subst ek; subst e1
        exact .inl ⟨k, _, _, rfl, hy.1, h9⟩
    | s a =>
      obtain ⟨b, e1, h1⟩ := onS_inv hr (show onS y (fun b => bK σ c (eB q (fU a b))) = res from h)
      rw [bK_eq, eB_eq] at h1
      subst e1
      exact .inr (.inl ⟨a, b, hx.1, hy.1, hx.2.1, hy.2.1, h1⟩)
    | fl a =>
      obtain ⟨b, e1, h1⟩ := onE_inv hr (show onE y (fun b => bK σ c (eB q (fI (.ofNat a) (.ofNat b)))) = res from h)
      rw [bK_eq, eB_eq] at h1
      subst e1
      exact .inr (.inr ⟨a, b, hx.1, hy.1, hx.2, hy.2, h1⟩)
    | _ => exact absurd h.symm hr
  | _ => exact absurd h.symm hr
theorem onQ_inv {x : AV} {f0 : Rs} {f : Nat → Nat → Rs} (h : onQ x f0 f = res) : (x = .v .p0 ∧ f0 = res) ∨ ∃ id o, x = .v (.p id o) ∧ f id o = res := by
  cases x with
  | v x => cases x <;> first | exact .inl ⟨rfl, h⟩ | exact .inr ⟨_, _, rfl, h⟩ | exact absurd h.symm hr
  | _ => exact absurd h.symm hr
/-- A slice taken apart. -/
theorem onL_inv {x : AV} {f0 : Rs} {fl : Nat → Nat → Nat → Nat → Rs} {fx : Nat → Nat → Nat → Nat → Nat → Rs} {fe : Rs} {fs : List Nat → Rs} {fp : Nat → Nat → Rs} (h : onL x f0 fl fx fe fs fp = res) :
    (x = .v .l0 ∧ f0 = res) ∨ (∃ id z j n, x = .v (.l id z j n) ∧ fl id z j n = res) ∨ (∃ id z j n k, x = .v (.lx id z j n k) ∧ fx id z j n k = res) ∨ (∃ id z j a, x = .v (.le id z j a) ∧ fe = res) ∨ (∃ l, x = .v (.s l) ∧ fs l = res) ∨ ∃ id o, x = .v (.p id o) ∧ fp id o = res := by
  cases x with
  | v x =>
    cases x with
    | l0 => exact .inl ⟨rfl, h⟩
    | l id z j n => exact .inr (.inl ⟨_, _, _, _, rfl, h⟩)
    | lx id z j n k => exact .inr (.inr (.inl ⟨_, _, _, _, _, rfl, h⟩))
    | le id z j a => exact .inr (.inr (.inr (.inl ⟨_, _, _, _, rfl, h⟩)))
    | s l => exact .inr (.inr (.inr (.inr (.inl ⟨_, rfl, h⟩))))
    | p id o => exact .inr (.inr (.inr (.inr (.inr ⟨_, _, rfl, h⟩))))
    | _ => exact absurd h.symm hr
  | _ => exact absurd h.symm hr
variable (hE : ER m ρ e env) (hM : MR w0 ρ σ w)
include hE
theorem two {x y : Operand} {f : AV → AV → Rs} (h : ((gtW m x).f e fun x => (gtW m y).f e fun y => f x y) = res) : ∃ a b va vb, evo env x = some va ∧ evo env y = some vb ∧ AR ρ a va ∧ AR ρ b vb ∧ f a b = res := by
  obtain ⟨a, va, h1, h2, h⟩ := gtW_inv hr hE h
  obtain ⟨b, vb, h3, h4, h⟩ := gtW_inv hr hE h
  exact ⟨a, b, va, vb, h1, h3, h2, h4, h⟩
include hM
theorem s_ar {op : BinOp} {t yt : TypeId} {x y : Operand} {f : Nat → Nat → Nat} {g : Int → Int → Int} (ho : ∀ k a b w', (binOp op t (.int k a) (.int k b)).run Tryz.prog w' = .ok (.int k (k.wrap (g a b))) w') (hfg : ∀ a b : Nat, g a b = f a b)
    (h : (arW f g m x y).f ih e σ c = res) : xs Tryz.prog isI isS [] Eng.noH full (Good w0 ρ c res env (some d)) [⟨some d, .binOp op t x y yt, ty, pos, af, none⟩] env w := by
  obtain ⟨a, b, va, vb, h1, h2, h3, h4, h⟩ := two hr hE h
  obtain ⟨k, ⟨a, b, rfl, rfl, _, _, h⟩ | ⟨a, b, rfl, rfl, h⟩⟩ := iiK_inv hr h3 h4 h
  · rw [fN_eq] at h
    obtain ⟨v, h, hv⟩ := wrN_inv (ρ := ρ) hr h
    exact x_bin h1 h2 (eqGuard_at_int ..) (fun w' => ho k _ _ w') ⟨_, σ, ρ, _, h, Up.refl ρ, by rw [hfg]; exact hv, hM, rfl⟩
  · obtain ⟨v, h, hv⟩ := wrI_inv (ρ := ρ) hr h
    exact x_bin h1 h2 (eqGuard_at_int ..) (fun w' => ho k _ _ w') ⟨_, σ, ρ, _, h, Up.refl ρ, hv, hM, rfl⟩
theorem s_sub {t yt : TypeId} {x y : Operand} (h : (suW m x y).f ih e σ c = res) : xs Tryz.prog isI isS [] Eng.noH full (Good w0 ρ c res env (some d)) [⟨some d, .binOp .sub t x y yt, ty, pos, af, none⟩] env w := by
  obtain ⟨a, b, va, vb, h1, h2, h3, h4, h⟩ := two hr hE h
  have ho : ∀ k a b w', (binOp .sub t (.int k a) (.int k b)).run Tryz.prog w' = .ok (.int k (k.wrap (a - b))) w' := fun k a b w' => by simp [binOp, Op.intArith]
  obtain ⟨k, ⟨a, b, rfl, rfl, ha, _, h⟩ | ⟨a, b, rfl, rfl, h⟩⟩ := iiK_inv hr h3 h4 h
  · unfold suK at h
    rw [ifK_eq] at h
    split at h
    · rename_i hb
      have hb := Nat.le_of_ble_eq_true hb
      rw [fN_eq] at h
      refine x_bin h1 h2 (eqGuard_at_int ..) (fun w' => ho k _ _ w') ⟨_, σ, ρ, _, h, Up.refl ρ, ⟨?_, ?_⟩, hM, rfl⟩
      · have e1 : ((a : Int) - (b : Int)) = ((a - b : Nat) : Int) := by omega
        rw [e1, wrap_id (by omega)]
        rfl
      · show a - b ≤ _
        omega
    · rename_i hb
      have hb : a < b := by
        rw [ble_dec] at hb
        simpa using hb
      rw [fN_eq] at h
      obtain ⟨v, h, hv⟩ := wrM_inv (ρ := ρ) hr h
      refine x_bin h1 h2 (eqGuard_at_int ..) (fun w' => ho k _ _ w') ⟨_, σ, ρ, _, h, Up.refl ρ, ?_, hM, rfl⟩
      have e1 : ((a : Int) - (b : Int)) = Int.negSucc (Nat.sub (Nat.sub b a) 1) := by
        show _ = -(((b - a - 1 : Nat) : Int) + 1)
        omega
      rw [e1]
      exact hv
  · obtain ⟨v, h, hv⟩ := wrI_inv (ρ := ρ) hr h
    exact x_bin h1 h2 (eqGuard_at_int ..) (fun w' => ho k _ _ w') ⟨_, σ, ρ, _, h, Up.refl ρ, hv, hM, rfl⟩
theorem s_quo {t yt : TypeId} {x y : Operand} (h : (dvW Nat.div m x y).f ih e σ c = res) : xs Tryz.prog isI isS [] Eng.noH full (Good w0 ρ c res env (some d)) [⟨some d, .binOp .quo t x y yt, ty, pos, af, none⟩] env w := by
  obtain ⟨a, b, va, vb, h1, h2, h3, h4, h⟩ := two hr hE h
  obtain ⟨k, a, b, rfl, rfl, ha, hb, h⟩ := nkK_inv hr h3 h4 h
  obtain ⟨hb1, h⟩ := okK_inv h hr
  have hb1 := Nat.le_of_ble_eq_true hb1
  rw [fN_eq] at h
  have hle : a / b ≤ maxK k := Nat.le_trans (Nat.div_le_self _ _) ha
  refine xdv (r := ((a / b : Nat) : Int)) h1 h2 ?_ (by omega) (by omega) (wrap_id ha) ⟨_, σ, ρ, _, h, Up.refl ρ, ⟨rfl, hle⟩, hM, rfl⟩
  simp [dvI]
theorem s_rem {t yt : TypeId} {x y : Operand} (h : (dvW Nat.mod m x y).f ih e σ c = res) : xs Tryz.prog isI isS [] Eng.noH full (Good w0 ρ c res env (some d)) [⟨some d, .binOp .rem t x y yt, ty, pos, af, none⟩] env w := by
  obtain ⟨a, b, va, vb, h1, h2, h3, h4, h⟩ := two hr hE h
  obtain ⟨k, a, b, rfl, rfl, ha, hb, h⟩ := nkK_inv hr h3 h4 h
  obtain ⟨hb1, h⟩ := okK_inv h hr
  have hb1 := Nat.le_of_ble_eq_true hb1
  rw [fN_eq] at h
  have hle : a % b ≤ maxK k := Nat.le_trans (Nat.mod_le _ _) ha
  refine xdv (r := ((a % b : Nat) : Int)) h1 h2 ?_ (by omega) (by omega) (wrap_id ha) ⟨_, σ, ρ, _, h, Up.refl ρ, ⟨rfl, hle⟩, hM, rfl⟩
  simp [dvI]
theorem s_bit {op : BinOp} {t yt : TypeId} {x y : Operand} {f : Nat → Nat → Nat} (ho : op = .and ∨ op = .or ∨ op = .xor ∨ op = .andNot) (hf : ∀ {k : IntKind} {a b : Nat}, a ≤ maxK k → b ≤ maxK k → bits op k a b = (f a b : Int) ∧ f a b ≤ maxK k)
    (h : (btW f m x y).f ih e σ c = res) : xs Tryz.prog isI isS [] Eng.noH full (Good w0 ρ c res env (some d)) [⟨some d, .binOp op t x y yt, ty, pos, af, none⟩] env w := by
  obtain ⟨a, b, va, vb, h1, h2, h3, h4, h⟩ := two hr hE h
  obtain ⟨k, a, b, rfl, rfl, ha, hb, h⟩ := nkK_inv hr h3 h4 h
  rw [fN_eq] at h
  obtain ⟨e1, e2⟩ := hf ha hb
  have hh : Good w0 ρ c res env (some d) ((d, .int k (f a b : Int)) :: env) w := ⟨_, σ, ρ, _, h, Up.refl ρ, ⟨rfl, e2⟩, hM, rfl⟩
  rcases ho with ho | ho | ho | rfl
  · exact xbits h1 h2 (.inl ho) e1 hh
  · exact xbits h1 h2 (.inr (.inl ho)) e1 hh
  · exact xbits h1 h2 (.inr (.inr ho)) e1 hh
  · exact xanN h1 h2 (by rw [e1]; exact hh)
theorem s_shl {t yt : TypeId} {x y : Operand} (h : (shW m x y).f ih e σ c = res) : xs Tryz.prog isI isS [] Eng.noH full (Good w0 ρ c res env (some d)) [⟨some d, .binOp .shl t x y yt, ty, pos, af, none⟩] env w := by
  obtain ⟨a, b, va, vb, h1, h2, h3, h4, h⟩ := two hr hE h
  obtain ⟨k, k', a, b, rfl, rfl, ha, h⟩ := nnK_inv hr h3 h4 h
  obtain ⟨hb1, h⟩ := okK_inv h hr
  have hb1 := Nat.le_of_ble_eq_true hb1
  rw [kb_eq] at hb1
  rw [fN_eq] at h
  obtain ⟨v, h, hv⟩ := wrN_inv (ρ := ρ) hr h
  refine xshl h1 h2 (by omega) (by omega) rfl ⟨_, σ, ρ, _, h, Up.refl ρ, ?_, hM, rfl⟩
  have e1 : ((a : Int) * 2 ^ (b : Int).toNat) = Int.ofNat (Nat.shiftLeft a b) := by
    show _ = ((a <<< b : Nat) : Int)
    rw [Nat.shiftLeft_eq]
    simp
  rw [e1]
  exact hv
theorem s_shr {t yt : TypeId} {x y : Operand} (h : (srW m x y).f ih e σ c = res) : xs Tryz.prog isI isS [] Eng.noH full (Good w0 ρ c res env (some d)) [⟨some d, .binOp .shr t x y yt, ty, pos, af, none⟩] env w := by
  obtain ⟨a, b, va, vb, h1, h2, h3, h4, h⟩ := two hr hE h
  obtain ⟨k, k', a, b, rfl, rfl, ha, h⟩ := nnK_inv hr h3 h4 h
  obtain ⟨hb1, h⟩ := okK_inv h hr
  have hb1 := Nat.le_of_ble_eq_true hb1
  rw [kb_eq] at hb1
  rw [fN_eq] at h
  have e2 : Nat.shiftRight a b = a / 2 ^ b := Nat.shiftRight_eq_div_pow a b
  refine xshr h1 h2 (by omega) (by omega) ⟨_, σ, ρ, _, h, Up.refl ρ, ⟨?_, ?_⟩, hM, rfl⟩
  · rw [e2]
    simp
  · rw [e2]
    exact Nat.le_trans (Nat.div_le_self _ _) ha
theorem s_add {t yt : TypeId} {x y : Operand} (h : (adW m x y).f ih e σ c = res) : xs Tryz.prog isI isS [] Eng.noH full (Good w0 ρ c res env (some d)) [⟨some d, .binOp .add t x y yt, ty, pos, af, none⟩] env w := by
  obtain ⟨a, b, va, vb, h1, h2, h3, h4, h⟩ := two hr hE h
  have ho : ∀ k a b w', (binOp .add t (.int k a) (.int k b)).run Tryz.prog w' = .ok (.int k (k.wrap (a + b))) w' := fun k a b w' => by simp [binOp, Op.intArith]
  cases a with
  | v a =>
    cases a with
    | n k a =>
      obtain ⟨rfl, ha⟩ := h3
      cases b with
      | v b =>
        cases b with
        | n k' b =>
          obtain ⟨ek, h9⟩ := kkK_inv hr (show kkK k k' (fN (Nat.add a b) fun s => wrN σ c k s) = res from h); clear h; subst ek; have h := h9
          obtain ⟨rfl, hb⟩ := h4
          rw [fN_eq] at h
          obtain ⟨v, h, hv⟩ := wrN_inv (ρ := ρ) hr h
          exact x_bin h1 h2 (eqGuard_at_int ..) (fun w' => ho k _ _ w') ⟨_, σ, ρ, _, h, Up.refl ρ, hv, hM, rfl⟩
        | m k' b =>
          obtain ⟨ek, h9⟩ := kkK_inv hr (show kkK k k' (wrI σ c k (Int.add (.ofNat a) (.negSucc b))) = res from h); clear h; subst ek; have h := h9
          obtain ⟨rfl, hb⟩ := h4
          obtain ⟨v, h, hv⟩ := wrI_inv (ρ := ρ) hr h
          exact x_bin h1 h2 (eqGuard_at_int ..) (fun w' => ho k _ _ w') ⟨_, σ, ρ, _, h, Up.refl ρ, hv, hM, rfl⟩
        | _ => exact absurd h.symm hr
      | _ => exact absurd h.symm hr
    | m k a =>
      obtain ⟨rfl, ha⟩ := h3
      rcases onI_inv hr (show onI b (fun k' b => kkK k k' (wrI σ c k (Int.add (.negSucc a) b))) = res from h) with ⟨k', b, rfl, h⟩ | ⟨k', b, rfl, h⟩
      · obtain ⟨ek, h9⟩ := kkK_inv hr h; clear h; subst ek; have h := h9
        obtain ⟨rfl, hb⟩ := h4
        obtain ⟨v, h, hv⟩ := wrI_inv (ρ := ρ) hr h
        exact x_bin h1 h2 (eqGuard_at_int ..) (fun w' => ho k _ _ w') ⟨_, σ, ρ, _, h, Up.refl ρ, hv, hM, rfl⟩
      · obtain ⟨ek, h9⟩ := kkK_inv hr h; clear h; subst ek; have h := h9
        obtain ⟨rfl, hb, _⟩ := h4
        obtain ⟨v, h, hv⟩ := wrI_inv (ρ := ρ) hr h
        exact x_bin h1 h2 (eqGuard_at_int ..) (fun w' => ho k _ _ w') ⟨_, σ, ρ, _, h, Up.refl ρ, hv, hM, rfl⟩
    | s a =>
      obtain ⟨rfl, ha, hla⟩ := h3
      obtain ⟨b, rfl, h⟩ := onS_inv hr (show onS b (fun b => okK (Nat.ble (a ++ b).length maxLen) (fP (a ++ b) fun s => c (.v (.s s)) σ)) = res from h)
      obtain ⟨rfl, hb, hlb⟩ := h4
      obtain ⟨hq, h⟩ := okK_inv h hr
      have hq := Nat.le_of_ble_eq_true hq
      rw [fP_eq] at h
      have hq' : (uOf a).length + (uOf b).length ≤ maxLen := by
        have : (a ++ b).length ≤ maxLen := hq
        simpa [uOf] using this
      refine xuadd h1 h2 hq' ⟨_, σ, ρ, _, h, Up.refl ρ, ⟨by simp [uOf], fun q hq => ?_, hq⟩, hM, rfl⟩
      rcases List.mem_append.1 hq with hq | hq
      · exact ha q hq
      · exact hb q hq
    | _ => exact absurd h.symm hr
  | _ => exact absurd h.symm hr
/-- Numbers or texts in order. -/
theorem s_cm {op : BinOp} {t yt : TypeId} {x y : Operand} {fI : Int → Int → Bool} {fU : List Nat → List Nat → Bool} {q : Bool} (hI : ∀ k a b w', (binOp op t (.int k a) (.int k b)).run Tryz.prog w' = .ok (.bool (q == fI a b)) w') (hU : ∀ a b : List Nat, (∀ c ∈ a, c < 256) → (∀ c ∈ b, c < 256) → cmpU op (uOf a) (uOf b) = some (q == fU a b)) (hF : ∀ a b : Nat, a ≤ 1099511627776 → b ≤ 1099511627776 → ∀ w', (binOp op t (.float .f64 (fw a)) (.float .f64 (fw b))).run Tryz.prog w' = .ok (.bool (q == fI a b)) w')
    (h : (cmW fI fU q m x y).f ih e σ c = res) : xs Tryz.prog isI isS [] Eng.noH full (Good w0 ρ c res env (some d)) [⟨some d, .binOp op t x y yt, ty, pos, af, none⟩] env w := by
  obtain ⟨a, b, va, vb, h1, h2, h3, h4, h⟩ := two hr hE h
  rcases cmK_inv hr h3 h4 h with ⟨k, a, b, rfl, rfl, h⟩ | ⟨a, b, rfl, rfl, ha, hb, h⟩ | ⟨a, b, rfl, rfl, ha, hb, h⟩
  · exact x_bin h1 h2 (eqGuard_at_int ..) (fun w' => hI k _ _ w') ⟨_, σ, ρ, _, h, Up.refl ρ, rfl, hM, rfl⟩
  · exact xucmp h1 h2 (hU a b ha hb) ⟨_, σ, ρ, _, h, Up.refl ρ, rfl, hM, rfl⟩
  · exact x_bin h1 h2 (by cases op <;> rfl) (fun w' => hF a b ha hb w') ⟨_, σ, ρ, _, h, Up.refl ρ, rfl, hM, rfl⟩
/-- The same, the values in the other order. -/
theorem s_mc {op : BinOp} {t yt : TypeId} {x y : Operand} {fI : Int → Int → Bool} {fU : List Nat → List Nat → Bool} {q : Bool} (hI : ∀ k a b w', (binOp op t (.int k a) (.int k b)).run Tryz.prog w' = .ok (.bool (q == fI b a)) w') (hU : ∀ a b : List Nat, (∀ c ∈ a, c < 256) → (∀ c ∈ b, c < 256) → cmpU op (uOf a) (uOf b) = some (q == fU b a)) (hF : ∀ a b : Nat, a ≤ 1099511627776 → b ≤ 1099511627776 → ∀ w', (binOp op t (.float .f64 (fw a)) (.float .f64 (fw b))).run Tryz.prog w' = .ok (.bool (q == fI b a)) w')
    (h : (cmW fI fU q m y x).f ih e σ c = res) : xs Tryz.prog isI isS [] Eng.noH full (Good w0 ρ c res env (some d)) [⟨some d, .binOp op t x y yt, ty, pos, af, none⟩] env w := by
  obtain ⟨b, a, vb, va, h2, h1, h4, h3, h⟩ := two hr hE h
  rcases cmK_inv hr h4 h3 h with ⟨k, b, a, rfl, rfl, h⟩ | ⟨b, a, rfl, rfl, hb, ha, h⟩ | ⟨b, a, rfl, rfl, hb, ha, h⟩
  · exact x_bin h1 h2 (eqGuard_at_int ..) (fun w' => hI k _ _ w') ⟨_, σ, ρ, _, h, Up.refl ρ, rfl, hM, rfl⟩
  · exact xucmp h1 h2 (hU a b ha hb) ⟨_, σ, ρ, _, h, Up.refl ρ, rfl, hM, rfl⟩
  · exact x_bin h1 h2 (by cases op <;> rfl) (fun w' => hF a b ha hb w') ⟨_, σ, ρ, _, h, Up.refl ρ, rfl, hM, rfl⟩
theorem s_not {t : TypeId} {x : Operand} (h : (unW m .not x).f ih e σ c = res) : xs Tryz.prog isI isS [] Eng.noH full (Good w0 ρ c res env (some d)) [⟨some d, .unOp .not t x, ty, pos, af, none⟩] env w := by
  obtain ⟨q, v, h1, h2, h⟩ := gtW_inv hr hE (show (gtW m x).f e _ = res from h)
  rcases onB_inv hr h with ⟨rfl, h⟩ | ⟨rfl, h⟩
  · have h2' : v = .bool true := h2
    subst h2'
    exact xnot h1 ⟨_, σ, ρ, _, h, Up.refl ρ, rfl, hM, rfl⟩
  · have h2' : v = .bool false := h2
    subst h2'
    exact xnot h1 ⟨_, σ, ρ, _, h, Up.refl ρ, rfl, hM, rfl⟩
theorem s_neg {t : TypeId} {x : Operand} (h : (unW m .neg x).f ih e σ c = res) : xs Tryz.prog isI isS [] Eng.noH full (Good w0 ρ c res env (some d)) [⟨some d, .unOp .neg t x, ty, pos, af, none⟩] env w := by
  obtain ⟨q, v, h1, h2, h⟩ := gtW_inv hr hE (show (gtW m x).f e _ = res from h)
  have key : ∀ k (n : Int), v = .int k n → wrI σ c k (Int.neg n) = res → xs Tryz.prog isI isS [] Eng.noH full (Good w0 ρ c res env (some d)) [⟨some d, .unOp .neg t x, ty, pos, af, none⟩] env w := fun k n hv h => by
    subst hv
    obtain ⟨v, h, hv⟩ := wrI_inv (ρ := ρ) hr h
    refine x_gen rfl (by simp [opsOK, Op.operands, h1]) ⟨.int k (k.wrap (-n)), fun w' => ?_, _, σ, ρ, _, h, Up.refl ρ, hv, hM, rfl⟩
    simp [execOp, ev_of h1, Op.unary, Op.intArith]
  rcases onI_inv hr h with ⟨k, a, rfl, h⟩ | ⟨k, a, rfl, h⟩
  · exact key k _ h2.1 h
  · exact key k _ h2.1 h
end
end Rn
end Eng
end Go.Proofs.YtalnkjpgnkfedaaGreatDoor
