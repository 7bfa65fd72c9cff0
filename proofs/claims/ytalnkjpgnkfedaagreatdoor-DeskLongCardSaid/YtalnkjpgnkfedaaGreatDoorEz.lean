/-
  Comparisons of values that are neither numbers nor texts; all operations on two values.
-/
import Derived.Test.YtalnkjpgnkfedaaGreatDoorEy
import Derived.Laws.StructEq
import Derived.ChangeKeysEq
namespace Go.Proofs.YtalnkjpgnkfedaaGreatDoor
open Go.RowKit
namespace Eng
namespace Rn
theorem eN_inv {k k' : IntKind} {b r : Bool} (h : eN k k' b = some r) : k = k' ∧ b = r := by
  unfold eN at h
  cases hb : Nat.beq (kn k) (kn k') with
  | false => rw [hb] at h; cases h
  | true =>
    rw [hb] at h
    injection h with h
    refine ⟨?_, h⟩
    cases k <;> cases k' <;> first | rfl | cases hb
theorem int_beq (a b : Nat) : (Int.ofNat a == Int.ofNat b) = decide (a = b) := by
  by_cases h : a = b
  · subst h; simp
  · have : ¬ (a : Int) = (b : Int) := fun e => h (Int.ofNat.inj e)
    simp [h, this]
theorem neg_beq (a b : Nat) : (Int.negSucc a == Int.negSucc b) = decide (a = b) := by
  by_cases h : a = b
  · subst h; simp
  · have : ¬ Int.negSucc a = Int.negSucc b := fun e => h (Int.negSucc.inj e)
    simp [h, this]
set_option maxRecDepth 20000 in
/-- One cell compared. -/
theorem eF_run {ρ : Pl} {f : Bool} {x y : SV} {u v : Value} {r : Bool} {t : TypeId} (h : eF f x y = some r) (hx : SR ρ x u) (hy : SR ρ y v) (ht : (f = true ∧ isS t = true) ∨ (f = false ∧ ∃ k, kindOf t = some k)) (dd : Nat) (w' : World) : (Op.equalIn (dd + 1) t u v).run Tryz.prog w' = .ok r w' := by
  have hi : ∀ (k : IntKind) (a b : Int), (∃ k, kindOf t = some k) → (Op.equalIn (dd + 1) t (.int k a) (.int k b)).run Tryz.prog w' = .ok (a == b) w' := fun k a b hk => by
    obtain ⟨k0, hk⟩ := hk
    exact run_equalIn_int w' dd t k k0 a b (kind_spec hk)
  rcases ht with ⟨rfl, ht⟩ | ⟨rfl, ht⟩
  · cases x with
    | s a =>
      cases y with
      | s b =>
        have h : some (eU a b) = some r := h
        injection h with h
        obtain ⟨rfl, ha, hm⟩ := hx
        obtain ⟨rfl, hb, hm'⟩ := hy
        rw [run_equalIn_string w' dd t _ _ (str_spec ht), su_list, su_list, beq_dec, ← eU_eq ha hb, h]
      | _ => cases h
    | _ => cases h
  · cases x with
    | n k a =>
      cases y with
      | n k' b =>
        obtain ⟨ek, h9⟩ := eN_inv (show eN k k' (Nat.beq a b) = some r from h)
        subst ek
        rw [hx.1, hy.1, hi k _ _ ht, ← h9, beq_dcd]
        exact congrArg (Result.ok · w') (int_beq a b)
      | m k' b =>
        obtain ⟨ek, h9⟩ := eN_inv (show eN k k' (false) = some r from h)
        subst ek
        rw [hx.1, hy.1, hi k _ _ ht, ← h9]
        rfl
      | _ => cases h
    | m k a =>
      cases y with
      | n k' b =>
        obtain ⟨ek, h9⟩ := eN_inv (show eN k k' (false) = some r from h)
        subst ek
        rw [hx.1, hy.1, hi k _ _ ht, ← h9]
        rfl
      | m k' b =>
        obtain ⟨ek, h9⟩ := eN_inv (show eN k k' (Nat.beq a b) = some r from h)
        subst ek
        rw [hx.1, hy.1, hi k _ _ ht, ← h9, beq_dcd]
        exact congrArg (Result.ok · w') (neg_beq a b)
      | _ => cases h
    | _ => cases h
theorem eT_cons {f : Bool} {fl : List Bool} {a b : List SV} {r : Bool} (h : eT (f :: fl) a b = some r) : ∃ x a' y b' p q, a = x :: a' ∧ b = y :: b' ∧ eF f x y = some p ∧ eT fl a' b' = some q ∧ r = (p && q) := by
  cases a with
  | nil => cases b <;> cases h
  | cons x a =>
    cases b with
    | nil => cases h
    | cons y b =>
      have h' : (match eF f x y, eT fl a b with
        | some p, some q => some (p && q)
        | _, _ => none) = some r := h
      split at h'
      · rename_i p q h1 h2
        injection h' with h'
        exact ⟨x, a, y, b, p, q, rfl, rfl, h1, h2, h'.symm⟩
      · cases h'
theorem drop_head {α : Type} {xs : List α} {k : Nat} {v : α} {r : List α} (h : xs.drop k = v :: r) : xs[k]? = some v ∧ xs.drop (k + 1) = r := by
  have h1 : (xs.drop k)[0]? = some v := by rw [h]; rfl
  refine ⟨by simpa using h1, ?_⟩
  rw [← List.drop_drop, h]
  rfl
theorem fields_run {ρ : Pl} {xs ys : List Value} (dd : Nat) (w' : World) : ∀ {fs : List Field} {k : Nat} {fl : List Bool} {la lb : List SV} {va vb : List Value} {r : Bool}, flat fs k = some fl → SRs ρ la va → SRs ρ lb vb → xs.drop k = va → ys.drop k = vb → eT fl la lb = some r → (Op.eqFields (dd + 1) xs.toArray ys.toArray fs).run Tryz.prog w' = .ok r w'
  | [], k, fl, la, lb, va, vb, r, hf, ha, hb, hxa, hyb, h => by
    obtain rfl := Option.some.inj hf
    cases la with
    | nil =>
      cases lb with
      | nil =>
        have h : some true = some r := h
        obtain rfl := Option.some.inj h; simp [Op.eqFields]
      | cons _ _ => cases h
    | cons _ _ => cases lb <;> cases h
  | f :: fs, k, fl, la, lb, va, vb, r, hf, ha, hb, hxa, hyb, h => by
    have hf' : (match Nat.beq f.offset k && f.name != "_" && Tryz.prog.plainKey f.type, flat fs (Nat.add k 1) with
      | true, some r => match kindOf f.type, isS f.type with
        | some _, _ => some (false :: r)
        | none, true => some (true :: r)
        | none, false => none
      | _, _ => none) = some fl := hf
    split at hf'
    · rename_i r0 hc hr0
      simp only [Bool.and_eq_true, bne_iff_ne, ne_eq] at hc
      obtain ⟨⟨hoff, hn⟩, hp⟩ := hc
      have hoff := Nat.eq_of_beq_eq_true hoff
      have key : ∃ g, fl = g :: r0 ∧ ((g = true ∧ isS f.type = true) ∨ (g = false ∧ ∃ k, kindOf f.type = some k)) := by
        split at hf'
        · rename_i k0 hk0; injection hf' with hf'; exact ⟨false, hf'.symm, .inr ⟨rfl, _, hk0⟩⟩
        · rename_i hs0; injection hf' with hf'; exact ⟨true, hf'.symm, .inl ⟨rfl, hs0⟩⟩
        · cases hf'
      obtain ⟨g, rfl, hg⟩ := key
      obtain ⟨x, a', y, b', p, q, rfl, rfl, h1, h2, rfl⟩ := eT_cons h
      cases ha with
      | cons hx1 ha =>
        cases hb with
        | cons hy1 hb =>
          obtain ⟨gx, dx⟩ := drop_head hxa
          obtain ⟨gy, dy⟩ := drop_head hyb
          rw [← hoff] at gx gy
          have ih := fields_run dd w' (fs := fs) (k := k + 1) hr0 ha hb dx dy h2
          have he := eF_run h1 hx1.2 hy1.2 hg dd w'
          rw [Op.eqFields, if_pos hn]
          simp only [Sem.run_bind, run_part_plain w' hp (xs := xs.toArray) (by simpa using gx), run_part_plain w' hp (xs := ys.toArray) (by simpa using gy), Result.andThen_ok, he]
          cases p <;> simp [ih]
    · cases hf'
theorem items_run {ρ : Pl} {xs ys : List Value} {e : TypeId} (hk : ∃ k, kindOf e = some k) (hp : Tryz.prog.plainKey e = true) (dd : Nat) (w' : World) : ∀ {n k : Nat} {la lb : List SV} {va vb : List Value} {r : Bool}, SRs ρ la va → SRs ρ lb vb → xs.drop k = va → ys.drop k = vb → eT (List.replicate n false) la lb = some r → (Op.eqItems (dd + 1) e 1 xs.toArray ys.toArray (List.range' k n)).run Tryz.prog w' = .ok r w'
  | 0, k, la, lb, va, vb, r, ha, hb, hxa, hyb, h => by
    cases la with
    | nil =>
      cases lb with
      | nil =>
        have h : some true = some r := h
        obtain rfl := Option.some.inj h; simp [Op.eqItems]
      | cons _ _ => cases h
    | cons _ _ => cases lb <;> cases h
  | n + 1, k, la, lb, va, vb, r, ha, hb, hxa, hyb, h => by
    rw [List.replicate_succ] at h
    obtain ⟨x, a', y, b', p, q, rfl, rfl, h1, h2, rfl⟩ := eT_cons h
    cases ha with
    | cons hx1 ha =>
      cases hb with
      | cons hy1 hb =>
        obtain ⟨gx, dx⟩ := drop_head hxa
        obtain ⟨gy, dy⟩ := drop_head hyb
        have ih := items_run hk hp dd w' (n := n) (k := k + 1) ha hb dx dy h2
        have he := eF_run h1 hx1.2 hy1.2 (.inr ⟨rfl, hk⟩) dd w'
        rw [List.range'_succ]
        simp only [Op.eqItems, Nat.mul_one, Sem.run_bind, run_part_plain w' hp (xs := xs.toArray) (off := k) (by simpa using gx), run_part_plain w' hp (xs := ys.toArray) (off := k) (by simpa using gy), Result.andThen_ok, he]
        cases p <;> simp [ih]
set_option maxRecDepth 20000 in
/-- Structs and rows compared. -/
theorem peq_run {ρ : Pl} {t : TypeId} {fl : List Bool} (h : peq t = some fl) {la lb : List SV} {va vb : List Value} {r : Bool} (ha : SRs ρ la va) (hb : SRs ρ lb vb) (he : eT fl la lb = some r) (w' : World) : Tryz.prog.eqGuardType Tryz.prog.depth t = false ∧ (Op.equalIn 10000 t (.agg va.toArray) (.agg vb.toArray)).run Tryz.prog w' = .ok r w' := by
  unfold peq at h
  split at h
  · cases h
  · rename_i h1
    refine ⟨h1, ?_⟩
    split at h
    · cases h
    · rename_i h2
      split at h
      · rename_i fs h3
        have hf : Tryz.prog.fieldsOf t = fs := by
          unfold Program.fieldsOf
          rw [h3]
        rw [run_equalIn_agg w' 9999 t _ _ (by rw [hf]; exact h3) h2, hf]
        exact fields_run 9998 w' (xs := va) (ys := vb) h ha hb rfl rfl he
      · rename_i n e h3
        split at h
        · rename_i hc
          obtain rfl := Option.some.inj h
          simp only [Bool.and_eq_true] at hc
          obtain ⟨⟨hk, ho⟩, hp⟩ := hc
          obtain ⟨_, i, hi, hs⟩ := one_spec ho
          have hcell : Tryz.prog.cellsOf e = 1 := by
            unfold Program.cellsOf
            rw [hi]
            exact hs
          rw [run_equalIn_array w' 9999 _ _ h3 hi, hcell, List.range_eq_range']
          exact items_run (Option.isSome_iff_exists.1 hk) hp 9998 w' (xs := va) (ys := vb) ha hb rfl rfl he
        · cases h
      · cases h
def ptrEq : Option Addr → Option Addr → Option Bool
  | none, b => some b.isNone
  | some _, none => some false
  | some _, some _ => none
theorem eqp_run {t el : TypeId} {r : Bool} (ht : Tryz.prog.underlying t = some (.pointer el)) (dd : Nat) (a b : Option Addr) (hr : ptrEq a b = some r) (w' : World) : (Op.equalIn (dd + 1) t (.pointer a) (.pointer b)).run Tryz.prog w' = .ok r w' := by
  cases a with
  | none =>
    obtain rfl := Option.some.inj hr
    cases b <;> simp [Op.equalIn, run_underlying ht]
  | some a =>
    cases b with
    | none =>
      obtain rfl := Option.some.inj hr
      simp [Op.equalIn, run_underlying ht]
    | some b => cases hr
theorem eqj_run {t : TypeId} {ms : Array (String × TypeId)} (ht : Tryz.prog.underlying t = some (.interface ms)) (d : Nat) (w : World) : (Op.equalIn (d + 1) t .nilIface .nilIface).run Tryz.prog w = .ok true w := by simp [Op.equalIn, run_underlying ht]
theorem eqs_run {t el : TypeId} (ht : Tryz.prog.underlying t = some (.slice el)) (dd : Nat) (A : Option Addr) (n k n' k' : Nat) (w' : World) : (Op.equalIn (dd + 1) t (.slice A n k) (.slice none n' k')).run Tryz.prog w' = .ok A.isNone w' := by
  cases A <;> simp [Op.equalIn, run_underlying ht]
theorem run_flt {op : BinOp} {t : TypeId} {a b : Nat} {r : Bool} (h : binOp op t (.float .f64 (fw a)) (.float .f64 (fw b)) = pure (.bool r)) {r' : Bool} (hr : r = r') (w' : World) : (binOp op t (.float .f64 (fw a)) (.float .f64 (fw b))).run Tryz.prog w' = .ok (.bool r') w' := by
  rw [h, hr]; rfl
theorem flt_ord {a b : Nat} (ha : a ≤ 1099511627776) (hb : b ≤ 1099511627776) : FloatKind.f64.format.order (fw a) (fw b) = some (compare a b) := fw_ord (by omega) (by omega)
theorem cmp_lt {a b : Nat} : (compare a b == .lt) = decide ((a : Int) < (b : Int)) := by
  rcases Nat.lt_trichotomy a b with h | h | h
  · rw [Nat.compare_eq_lt.2 h, decide_eq_true (by omega)]; rfl
  · rw [Nat.compare_eq_eq.2 h, decide_eq_false (by omega)]; rfl
  · rw [Nat.compare_eq_gt.2 h, decide_eq_false (by omega)]; rfl
theorem cmp_gt {a b : Nat} : (compare a b == .gt) = decide ((b : Int) < (a : Int)) := by
  rcases Nat.lt_trichotomy a b with h | h | h
  · rw [Nat.compare_eq_lt.2 h, decide_eq_false (by omega)]; rfl
  · rw [Nat.compare_eq_eq.2 h, decide_eq_false (by omega)]; rfl
  · rw [Nat.compare_eq_gt.2 h, decide_eq_true (by omega)]; rfl
theorem cmp_eq {a b : Nat} : (compare a b == .eq) = decide ((a : Int) = (b : Int)) := by
  rcases Nat.lt_trichotomy a b with h | h | h
  · rw [Nat.compare_eq_lt.2 h, decide_eq_false (by omega)]; rfl
  · rw [Nat.compare_eq_eq.2 h, decide_eq_true (by omega)]; rfl
  · rw [Nat.compare_eq_gt.2 h, decide_eq_false (by omega)]; rfl
section
variable {m : Nat} {ih : Cl} {e : En} {σ : Mem} {c : Kt} {res : Rs} {ρ : Pl} {env : Env} {w0 : Fm} {w : World} {full : Array Oper} {d : Tmp} {ty : TypeId} {pos : String} {af : Array Edge} (hr : res ≠ .no) (hE : ER m ρ e env) (hM : MR w0 ρ σ w)
/-- Equality, or the contrary. -/
def eqOp (q : Bool) : BinOp := match q with
  | true => .eql
  | false => .neq
include hM
set_option maxRecDepth 20000 in
/-- What is found by Op.equal. -/
theorem x_eq {q r : Bool} {t yt : TypeId} {x y : Operand} {va vb : Value} (h1 : evo env x = some va) (h2 : evo env y = some vb) (hg : eqGuard (eqOp q) t x y va vb = pure ()) (hn : binOp .eql t va vb = (do pure (.bool (← Op.equal t va vb)))) (hn' : binOp .neq t va vb = (do pure (.bool (!(← Op.equal t va vb)))))
    (he : ∀ w', (Op.equalIn (9999 + 1) t va vb).run Tryz.prog w' = .ok r w') (h : c (.v (.b (q == r))) σ = res) : xs Tryz.prog isI isS [] Eng.noH full (Good w0 ρ c res env (some d)) [⟨some d, .binOp (eqOp q) t x y yt, ty, pos, af, none⟩] env w := by
  refine x_bin (v := .bool (q == r)) h1 h2 hg (fun w' => ?_) ⟨_, σ, ρ, _, h, Up.refl ρ, rfl, hM, rfl⟩
  have he' : (Op.equal t va vb).run Tryz.prog w' = .ok r w' := he w'
  cases q with
  | true =>
    show (binOp .eql t va vb).run Tryz.prog w' = _
    rw [hn]
    simp [he']
  | false =>
    show (binOp .neq t va vb).run Tryz.prog w' = _
    rw [hn']
    simp [he']
include hr hE
theorem s_eqC {q : Bool} {t yt : TypeId} {x y : Operand} (ht : Tryz.prog.underlying t = some .bool) (h : (eq2 (eqC q) m x y).f ih e σ c = res) : xs Tryz.prog isI isS [] Eng.noH full (Good w0 ρ c res env (some d)) [⟨some d, .binOp (eqOp q) t x y yt, ty, pos, af, none⟩] env w := by
  obtain ⟨a, b, va, vb, h1, h2, h3, h4, h⟩ := two hr hE h
  have key : ∀ p r : Bool, va = .bool p → vb = .bool r → c (.v (.b (q == (p == r)))) σ = res → xs Tryz.prog isI isS [] Eng.noH full (Good w0 ρ c res env (some d)) [⟨some d, .binOp (eqOp q) t x y yt, ty, pos, af, none⟩] env w := fun p r e1 e2 h => by
    subst e1; subst e2
    exact x_eq hM h1 h2 (eqGuard_at_bool ..) rfl rfl (fun w' => run_equalIn_bool w' 9999 t p r ht) h
  rcases onB_inv hr h with ⟨e1, h5⟩ | ⟨e1, h5⟩ <;> rcases onB_inv hr h5 with ⟨e2, h6⟩ | ⟨e2, h6⟩ <;> rw [bK_eq] at h6 <;> subst e1 <;> subst e2
  · exact key true true h3 h4 (by cases q <;> exact h6)
  · exact key true false h3 h4 (by cases q <;> exact h6)
  · exact key false true h3 h4 (by cases q <;> exact h6)
  · exact key false false h3 h4 (by cases q <;> exact h6)
theorem s_eqQ {q : Bool} {t yt el : TypeId} {x y : Operand} (ht : Tryz.prog.underlying t = some (.pointer el)) (h : (eq2 (eqQ q) m x y).f ih e σ c = res) : xs Tryz.prog isI isS [] Eng.noH full (Good w0 ρ c res env (some d)) [⟨some d, .binOp (eqOp q) t x y yt, ty, pos, af, none⟩] env w := by
  obtain ⟨a, b, va, vb, h1, h2, h3, h4, h⟩ := two hr hE h
  rcases onQ_inv hr h with ⟨e3, h5⟩ | ⟨id, o, e3, h5⟩ <;> rcases onQ_inv hr h5 with ⟨e4, h6⟩ | ⟨id', o', e4, h6⟩ <;> subst e3 <;> subst e4
  · have e1 : va = .pointer none := h3
    have e2 : vb = .pointer none := h4
    subst e1; subst e2
    rw [bK_eq] at h6
    exact x_eq (r := true) hM h1 h2 (by cases q <;> simp [eqGuard, eqOp]) rfl rfl (fun w' => eqp_run ht 9999 _ _ rfl w') (by cases q <;> exact h6)
  · obtain ⟨p, _, rfl⟩ := h4
    have e1 : va = .pointer none := h3
    subst e1
    rw [bK_eq] at h6
    exact x_eq (r := false) hM h1 h2 (by cases q <;> simp [eqGuard, eqOp]) rfl rfl (fun w' => eqp_run ht 9999 _ _ rfl w') (by cases q <;> exact h6)
  · obtain ⟨p, _, rfl⟩ := h3
    have e2 : vb = .pointer none := h4
    subst e2
    rw [bK_eq] at h6
    exact x_eq (r := false) hM h1 h2 (by cases q <;> simp [eqGuard, eqOp]) rfl rfl (fun w' => eqp_run ht 9999 _ _ rfl w') (by cases q <;> exact h6)
  · exact absurd h6.symm hr
theorem s_eqJ {q : Bool} {t yt : TypeId} {x y : Operand} {ms : Array (String × TypeId)} (ht : Tryz.prog.underlying t = some (.interface ms)) (h : (eqJW q m x y).f ih e σ c = res) : xs Tryz.prog isI isS [] Eng.noH full (Good w0 ρ c res env (some d)) [⟨some d, .binOp (eqOp q) t x y yt, ty, pos, af, none⟩] env w := by
  unfold eqJW at h
  split at h
  · obtain ⟨a, v, h1, h2, h3⟩ := gtW_inv hr hE h
    obtain ⟨e3, h6⟩ := onJ_inv hr h3
    subst e3
    have e1 : v = .nilIface := h2
    subst e1
    rw [bK_eq] at h6
    exact x_eq (r := true) hM h1 rfl (by cases q <;> cases x <;> rfl) rfl rfl (fun w' => eqj_run ht 9999 w') (by cases q <;> exact h6)
  · exact absurd h.symm hr
theorem s_eqZ {q : Bool} {t yt el : TypeId} {x y : Operand} (ht : Tryz.prog.underlying t = some (.slice el)) (h : (eq2 (eqZ q) m x y).f ih e σ c = res) : xs Tryz.prog isI isS [] Eng.noH full (Good w0 ρ c res env (some d)) [⟨some d, .binOp (eqOp q) t x y yt, ty, pos, af, none⟩] env w := by
  obtain ⟨a, b, va, vb, h1, h2, h3, h4, h⟩ := two hr hE h
  rcases onL_inv hr h with ⟨e3, h5⟩ | ⟨id, z, j, n, e3, h5⟩ | ⟨id, z, j, n, k, e3, h5⟩ | ⟨_, _, _, _, e3, h5⟩ | ⟨l, e3, h5⟩ | ⟨id, o, e3, h5⟩
  · subst e3
    have e2 : vb = .slice none 0 0 := h4
    subst e2
    have key : ∀ (A : Option Addr) (n k : Nat), va = .slice A n k → c (.v (.b (q == A.isNone))) σ = res → xs Tryz.prog isI isS [] Eng.noH full (Good w0 ρ c res env (some d)) [⟨some d, .binOp (eqOp q) t x y yt, ty, pos, af, none⟩] env w := fun A n k e1 h => by
      subst e1
      exact x_eq (r := A.isNone) hM h1 h2 (eqGuard_at_slice ..) rfl rfl (fun w' => eqs_run ht 9999 _ _ _ _ _ w') h
    rcases onL_inv hr h5 with ⟨e4, h6⟩ | ⟨id, z, j, n, e4, h6⟩ | ⟨id, z, j, n, k, e4, h6⟩ | ⟨_, _, _, _, e4, h6⟩ | ⟨l, e4, h6⟩ | ⟨id, o, e4, h6⟩ <;> subst e4
    · rw [bK_eq] at h6
      exact key none 0 0 h3 (by cases q <;> exact h6)
    · obtain ⟨p, _, _, _, _, rfl⟩ := h3
      rw [bK_eq] at h6
      exact key _ _ _ rfl (by cases q <;> exact h6)
    · obtain ⟨p, _, _, _, rfl⟩ := h3
      rw [bK_eq] at h6
      exact key _ _ _ rfl (by cases q <;> exact h6)
    · exact absurd h6.symm hr
    · exact absurd h6.symm hr
    · exact absurd h6.symm hr
  · exact absurd h5.symm hr
  · exact absurd h5.symm hr
  · exact absurd h5.symm hr
  · exact absurd h5.symm hr
  · exact absurd h5.symm hr
theorem s_eqG {q : Bool} {t yt : TypeId} {fl : List Bool} {x y : Operand} (ht : peq t = some fl) (h : (eq2 (eqG fl q) m x y).f ih e σ c = res) : xs Tryz.prog isI isS [] Eng.noH full (Good w0 ρ c res env (some d)) [⟨some d, .binOp (eqOp q) t x y yt, ty, pos, af, none⟩] env w := by
  obtain ⟨a, b, va, vb, h1, h2, h3, h4, h⟩ := two hr hE h
  obtain ⟨la, e1, h5⟩ := onG_inv hr h
  obtain ⟨lb, e2, h6⟩ := onG_inv hr h5
  clear h h5
  subst e1; subst e2
  have h := h6
  obtain ⟨vas, hva, rfl⟩ := h3
  obtain ⟨vbs, hvb, rfl⟩ := h4
  unfold oB at h
  split at h
  · rename_i r he
    rw [bK_eq, eB_eq] at h
    have hp := fun w' => peq_run ht hva hvb he w'
    refine x_gen rfl (by simp [opsOK, Op.operands, h1, h2]) ⟨.bool (q == r), fun w' => ?_, _, σ, ρ, _, h, Up.refl ρ, rfl, hM, rfl⟩
    have e1 := run_eqGuard_agg (P := Tryz.prog) w' (eqOp q) t x y vas.toArray vbs.toArray (hp w').1
    have e2 : (binOp (eqOp q) t (.agg vas.toArray) (.agg vbs.toArray)).run Tryz.prog w' = .ok (.bool (q == r)) w' := by
      cases q with
      | true =>
        show (binOp .eql t _ _).run Tryz.prog w' = _
        rw [run_eql_struct w', (hp w').2]
        cases r <;> rfl
      | false =>
        show (binOp .neq t _ _).run Tryz.prog w' = _
        rw [run_neq_struct w', (hp w').2]
        cases r <;> rfl
    simp [execOp, ev_of h1, ev_of h2, e1, e2]
  · exact absurd h.symm hr
theorem s_eq {q : Bool} {t yt : TypeId} {x y : Operand} (h : (eqW q m t x y).f ih e σ c = res) : xs Tryz.prog isI isS [] Eng.noH full (Good w0 ρ c res env (some d)) [⟨some d, .binOp (eqOp q) t x y yt, ty, pos, af, none⟩] env w := by
  have hcm : (cmW eI eU q m x y).f ih e σ c = res → xs Tryz.prog isI isS [] Eng.noH full (Good w0 ρ c res env (some d)) [⟨some d, .binOp (eqOp q) t x y yt, ty, pos, af, none⟩] env w := fun h => by
    refine s_cm hr hE hM (fun k a b w' => ?_) (fun a b ha hb => ?_) (fun a b ha hb w' => ?_) h
    · rw [eI_eq]
      cases q with
      | true => simp [eqOp, binOp, Op.intCmp]; by_cases hh : a = b <;> simp [hh]
      | false => simp [eqOp, binOp, Op.intCmp]; by_cases hh : a = b <;> simp [hh]
    · rw [eU_eq ha hb]
      cases q with
      | true => simp [eqOp, cmpU]
      | false => simp [eqOp, cmpU]
    · rw [eI_eq]
      cases q with
      | true => exact run_flt (r := compare a b == .eq) (by simp [eqOp, binOp, Op.floatCmp, flt_ord ha hb]) (by rw [cmp_eq]; cases decide ((a : Int) = (b : Int)) <;> rfl) w'
      | false => exact run_flt (r := compare a b != .eq) (by simp [eqOp, binOp, Op.floatCmp, flt_ord ha hb]; cases compare a b <;> rfl) (by show (!(compare a b == .eq)) = _; rw [cmp_eq]; cases decide ((a : Int) = (b : Int)) <;> rfl) w'
  unfold eqW at h
  split at h
  · rename_i ht; exact s_eqC hr hE hM ht h
  · rename_i el ht; exact s_eqQ hr hE hM ht h
  · rename_i el ht; exact s_eqZ hr hE hM ht h
  · rename_i ms ht; exact s_eqJ hr hE hM ht h
  · split at h
    · rename_i hp; exact s_eqG hr hE hM hp h
    · exact absurd h.symm hr
  · split at h
    · rename_i hp; exact s_eqG hr hE hM hp h
    · exact absurd h.symm hr
  · exact hcm h
set_option maxRecDepth 20000 in
/-- Operations on two values. -/
theorem s_bin {op : BinOp} {t yt : TypeId} {x y : Operand} (h : (biW m t op x y).f ih e σ c = res) : xs Tryz.prog isI isS [] Eng.noH full (Good w0 ρ c res env (some d)) [⟨some d, .binOp op t x y yt, ty, pos, af, none⟩] env w := by
  cases op with
  | add => exact s_add hr hE hM h
  | sub => exact s_sub hr hE hM h
  | mul => exact s_ar hr hE hM (fun k a b w' => by simp [binOp, Op.intArith]) (fun a b => rfl) h
  | quo => exact s_quo hr hE hM h
  | rem => exact s_rem hr hE hM h
  | and => exact s_bit hr hE hM (.inl rfl) (fun ha hb => ⟨(nbits ha hb).1, (nbits ha hb).2.2.2.1⟩) h
  | or => exact s_bit hr hE hM (.inr (.inl rfl)) (fun ha hb => ⟨(nbits ha hb).2.1, (nbits ha hb).2.2.2.2.1⟩) h
  | xor => exact s_bit hr hE hM (.inr (.inr (.inl rfl))) (fun ha hb => ⟨(nbits ha hb).2.2.1, (nbits ha hb).2.2.2.2.2⟩) h
  | andNot => exact s_bit hr hE hM (.inr (.inr (.inr rfl))) (fun ha hb => nandn ha hb) h
  | shl => exact s_shl hr hE hM h
  | shr => exact s_shr hr hE hM h
  | eql =>
    have h' : (eqW true m t x y).f ih e σ c = res := h
    exact s_eq (q := true) hr hE hM h'
  | neq =>
    have h' : (eqW false m t x y).f ih e σ c = res := h
    exact s_eq (q := false) hr hE hM h'
  | lss =>
    refine s_cm hr hE hM (fun k a b w' => ?_) (fun a b ha hb => ?_) (fun a b ha hb w' => ?_) h
    · rw [bI_eq]; simp [binOp, Op.intCmp]
    · rw [ltU_eq ha hb]; simp [cmpU]
    · rw [bI_eq]
      exact run_flt (r := compare a b == .lt) (by simp [binOp, Op.floatCmp, flt_ord ha hb]) (by rw [cmp_lt]; exact (Bool.true_beq _).symm) w'
  | geq =>
    refine s_cm hr hE hM (fun k a b w' => ?_) (fun a b ha hb => ?_) (fun a b ha hb w' => ?_) h
    · rw [bI_eq]; simp [binOp, Op.intCmp]; by_cases hh : a < b <;> simp [hh] <;> omega
    · rw [ltU_eq ha hb]; simp [cmpU]
    · rw [bI_eq]
      exact run_flt (r := compare a b == .gt || compare a b == .eq) (by simp [binOp, Op.floatCmp, flt_ord ha hb]) (by rw [cmp_gt, cmp_eq]; by_cases hh : a < b <;> by_cases h2 : a = b <;> simp [hh, h2] <;> omega) w'
  | gtr =>
    refine s_mc hr hE hM (fun k a b w' => ?_) (fun a b ha hb => ?_) (fun a b ha hb w' => ?_) h
    · rw [bI_eq]; simp [binOp, Op.intCmp]
    · rw [ltU_eq hb ha, bl_tot (uOf a) (uOf b)]; simp [cmpU]
    · rw [bI_eq]
      exact run_flt (r := compare a b == .gt) (by simp [binOp, Op.floatCmp, flt_ord ha hb]) (by rw [cmp_gt]; exact (Bool.true_beq _).symm) w'
  | leq =>
    refine s_mc hr hE hM (fun k a b w' => ?_) (fun a b ha hb => ?_) (fun a b ha hb w' => ?_) h
    · rw [bI_eq]; simp [binOp, Op.intCmp]; by_cases hh : b < a <;> simp [hh] <;> omega
    · rw [ltU_eq hb ha, bl_tot (uOf a) (uOf b)]; simp [cmpU]
    · rw [bI_eq]
      exact run_flt (r := compare a b == .lt || compare a b == .eq) (by simp [binOp, Op.floatCmp, flt_ord ha hb]) (by rw [cmp_lt, cmp_eq]; by_cases hh : b < a <;> by_cases h2 : a = b <;> simp [hh, h2] <;> omega) w'
end
end Rn
end Eng
end Go.Proofs.YtalnkjpgnkfedaaGreatDoor
