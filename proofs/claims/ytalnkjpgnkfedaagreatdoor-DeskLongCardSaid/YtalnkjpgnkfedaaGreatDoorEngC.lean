/-
  Rules for single operations, over this seat's program.
-/
import Derived.Test.YtalnkjpgnkfedaaGreatDoorTab
import Derived.IntWalk
import Derived.WalkSpells
import Derived.WalkLawsBesides
namespace Go.Proofs.YtalnkjpgnkfedaaGreatDoor
open Go.RowKit
namespace Eng

theorem bit_lt {m t n : Nat} (hm : m < 2 ^ n) (h : bit m t = true) : t < n := by
  rcases Nat.lt_or_ge t n with hlt | hge
  · exact hlt
  · exfalso
    have h1 : 2 ^ n ≤ 2 ^ t := Nat.pow_le_pow_right (by decide) hge
    have h2 : m / 2 ^ t = 0 := Nat.div_eq_of_lt (Nat.lt_of_lt_of_le hm h1)
    unfold bit at h
    rw [show Nat.shiftRight m t = m / 2 ^ t from Nat.shiftRight_eq_div_pow m t, h2] at h
    cases h

theorem kind_spec {t : Nat} {k : IntKind} (h : kindOf t = some k) : Tryz.prog.underlying t = some (.int k) := by
  have hlt : t < 1000 := by
    unfold kindOf at h
    split at h
    · rename_i hb; exact bit_lt (by decide +kernel) hb
    · split at h
      · rename_i hb; exact bit_lt (by decide +kernel) hb
      · split at h
        · rename_i hb; exact bit_lt (by decide +kernel) hb
        · split at h
          · rename_i hb; exact bit_lt (by decide +kernel) hb
          · split at h
            · rename_i hb; exact bit_lt (by decide +kernel) hb
            · cases h
  have := chkKind_ok t hlt
  unfold chkKind at this
  rw [h] at this
  dsimp only at this
  split at this
  · rename_i e; rw [e]; simpa using (beq_iff_eq.1 this).symm
  · cases this

theorem one_spec {t : Nat} (h : one t = true) : (∃ d, Tryz.prog.underlying t = some d ∧ (∀ fs, d ≠ .struct fs) ∧ ∀ n e, d ≠ .array n e) ∧ ∃ i, Tryz.prog.info? t = some i ∧ i.size = 1 := by
  have hlt : t < 1000 := bit_lt (by decide +kernel) h
  have := chkOne_ok t hlt
  unfold chkOne at this
  rw [h] at this
  simp only [Bool.not_true, Bool.false_or] at this
  split at this
  · cases this
  · cases this
  · rename_i d i hn1 hn2 h1 h2
    exact ⟨⟨d, h1, fun fs e => hn1 fs e, fun n x e => hn2 n x e⟩, i, h2, by simpa using this⟩
  · cases this

theorem fo_spec {s f off : Nat} (hf : f < 100) (h : fo s f = some off) : ∃ fs fd i, Tryz.prog.underlying s = some (.struct fs) ∧ fs[f]? = some fd ∧ fd.offset = off ∧ Tryz.prog.info? fd.type = some i ∧ i.size ≠ 0 := by
  have := List.all_eq_true.1 chkFld_ok _ (get_mem h)
  unfold chkFld at this
  have e1 : (s * 100 + f) / 100 = s := by omega
  have e2 : (s * 100 + f) % 100 = f := by omega
  simp only [e1, e2] at this
  split at this
  · rename_i fs hs
    split at this
    · rename_i fd hfd
      rw [Bool.and_eq_true] at this
      obtain ⟨h1, h2⟩ := this
      split at h2
      · rename_i i hi; exact ⟨fs, fd, i, hs, hfd, by simpa using h1, hi, by simpa using h2⟩
      · cases h2
    · cases this
  · cases this

theorem es_spec {t z : Nat} (h : es t = some z) : ∃ e i, Tryz.prog.underlying t = some (.slice e) ∧ Tryz.prog.info? e = some i ∧ i.size = z := by
  have := List.all_eq_true.1 chkSl_ok _ (get_mem h)
  unfold chkSl at this
  dsimp only at this
  split at this
  · rename_i e he
    split at this
    · rename_i i hi; exact ⟨e, i, he, hi, by simpa using this⟩
    · cases this
  · cases this

theorem str_spec {t : Nat} (h : isS t = true) : Tryz.prog.underlying t = some .string := by
  have hlt : t < 1000 := bit_lt (by decide +kernel) h
  have := chkStr_ok t hlt
  unfold chkStr at this
  rw [h] at this
  simp only [Bool.not_true, Bool.false_or] at this
  split at this
  · rename_i hh; exact hh
  · cases this

theorem ptr_spec {t : Nat} (h : bit m_ptr t = true) : Tryz.prog.underlying t = some (.pointer (Tryz.prog.pointee t)) := by
  have hlt : t < 1000 := bit_lt (by decide +kernel) h
  have := chkPtr_ok t hlt
  unfold chkPtr at this
  rw [h] at this
  simp only [Bool.not_true, Bool.false_or] at this
  split at this
  · rename_i e hh; unfold Program.pointee; rw [hh]
  · cases this

theorem cal_spec {f : Nat} (h : bit m_cal f = true) : ∃ fn, Tryz.prog.funcs[f]? = some fn ∧ fn.body.isSome = true ∧ (fn.name == "runtime.NumGoroutine") = false := by
  have hlt : f < 1000 := bit_lt (by decide +kernel) h
  have := chkCal_ok f hlt
  unfold chkCal at this
  rw [h] at this
  simp only [Bool.not_true, Bool.false_or] at this
  split at this
  · rename_i fn hfn
    rw [Bool.and_eq_true] at this
    exact ⟨fn, hfn, this.1, by simpa using this.2⟩
  · cases this

variable {hs : List Nat} {H : World → Prop} {full : Array Oper} {K : Env → World → Prop} {rest : List Oper} {env : Env} {w : World} {d : Tmp} {dst : Option Tmp} {ty : TypeId} {pos : String} {af : Array Edge}

/-- Operations that look at temporaries alone. -/
def pstep (env : Env) : Op → Option Value
  | .move x => evo env x
  | .assign x => evo env x
  | .pick c a b => match evo env a, evo env b, evo env c with
    | some va, some _, some (.bool true) => some va
    | some _, some vb, some (.bool false) => some vb
    | _, _, _ => none
  | .nilCheck x => match evo env x with
    | some (.pointer (some a)) => some (.pointer (some a))
    | _ => none
  | .fieldAddr s x f => match evo env x, fo s f, Nat.blt f 100 with
    | some (.pointer (some ⟨b, o, none⟩)), some off, true => some (.pointer (some ⟨b, o + off, none⟩))
    | _, _, _ => none
  | .extract x i => match evo env x with
    | some (.tuple vs) => match vs[i]? with
      | some v => some v
      | none => none
    | _ => none
  | .unOp .not _ x => match evo env x with
    | some (.bool true) => some (.bool false)
    | some (.bool false) => some (.bool true)
    | _ => none
  | .call { callee := .builtin .len, args := ⟨[x]⟩, argTypes := ⟨[t]⟩ } => match evo env x with
    | some (.slice _ n _) => match es t with
      | some _ => some (.int .i64 n)
      | none => none
    | some (.string s) => match isS t with
      | true => some (.int .i64 s.size)
      | false => none
    | _ => none
  | .binOp .eql t x (.const (.pointer none)) _ => match evo env x, bit m_ptr t with
    | some (.pointer (some _)), true => some (.bool false)
    | some (.pointer none), true => some (.bool true)
    | _, _ => none
  | .binOp .neq t x (.const (.pointer none)) _ => match evo env x, bit m_ptr t with
    | some (.pointer (some _)), true => some (.bool true)
    | some (.pointer none), true => some (.bool false)
    | _, _ => none
  | _ => none

theorem ev_of {x : Operand} {v : Value} (h : evo env x = some v) : ev env x = v := by simp [ev, h]

theorem evo_const (v : Value) : evo env (.const v) = some v := rfl
theorem ev_const (v : Value) : ev env (.const v) = v := rfl

theorem pstep_spec {o : Oper} {v : Value} (h : pstep env o.op = some v) : opsOK env o = true ∧ cls isI isS o.op = .p ∧ ∀ w', (execOp (ev env) o).run Tryz.prog w' = .ok (.value v) w' := by
  obtain ⟨dst, op, ty, pos, af, g⟩ := o
  dsimp only at h
  unfold pstep at h
  split at h
  · rename_i x
    exact ⟨by simp [opsOK, Op.operands, h], rfl, fun w' => by simp [execOp, ev_of h]⟩
  · rename_i x
    exact ⟨by simp [opsOK, Op.operands, h], rfl, fun w' => by simp [execOp, ev_of h]⟩
  · rename_i c a b
    split at h
    · rename_i va vb ha hb hc; injection h with h; subst h
      exact ⟨by simp [opsOK, Op.operands, ha, hb, hc], rfl, fun w' => by simp [execOp, ev_of ha, ev_of hc, asBool]⟩
    · rename_i va vb ha hb hc; injection h with h; subst h
      exact ⟨by simp [opsOK, Op.operands, ha, hb, hc], rfl, fun w' => by simp [execOp, ev_of hb, ev_of hc, asBool]⟩
    · cases h
  · rename_i x
    split at h
    · rename_i a hx; injection h with h; subst h
      exact ⟨by simp [opsOK, Op.operands, hx], rfl, fun w' => by simp [execOp, ev_of hx]⟩
    · cases h
  · rename_i s x f
    split at h
    · rename_i b o off hx hfo hlt; injection h with h; subst h
      obtain ⟨fs, fd, i, h1, h2, h3, h4, h5⟩ := fo_spec (by simpa using hlt) hfo
      refine ⟨by simp [opsOK, Op.operands, hx], rfl, fun w' => ?_⟩
      have e : (Addr.add ⟨b, o, none⟩ off) = ⟨b, o + off, none⟩ := Addr.add_lit b o off
      simp [execOp, ev_of hx, Instr.fieldAt, run_underlying h1, h2, Instr.sureAddr, fieldPlace, sizeOf, typeInfo, h4, h5, h3, e]
    · cases h
  · rename_i x i
    split at h
    · rename_i vs hx
      split at h
      · rename_i v' hv; injection h with h; subst h
        exact ⟨by simp [opsOK, Op.operands, hx], rfl, fun w' => by simp [execOp, ev_of hx, Instr.extract, hv]⟩
      · cases h
    · cases h
  · rename_i t x
    split at h
    · rename_i hx; injection h with h; subst h
      exact ⟨by simp [opsOK, Op.operands, hx], rfl, fun w' => by simp [execOp, ev_of hx, Op.unary]⟩
    · rename_i hx; injection h with h; subst h
      exact ⟨by simp [opsOK, Op.operands, hx], rfl, fun w' => by simp [execOp, ev_of hx, Op.unary]⟩
    · cases h
  · rename_i x t
    split at h
    · rename_i A n c hx
      split at h
      · rename_i z hz; injection h with h; subst h
        obtain ⟨e, i, h1, _, _⟩ := es_spec hz
        exact ⟨by simp [opsOK, Op.operands, Call.operands, hx], rfl, fun w' => by simp [execOp, resolve, invoke, builtin, ev_of hx, Builtin.len_, run_underlying h1, goInt]⟩
      · cases h
    · rename_i s hx
      split at h
      · rename_i hz; injection h with h; subst h
        exact ⟨by simp [opsOK, Op.operands, Call.operands, hx], rfl, fun w' => by simp [execOp, resolve, invoke, builtin, ev_of hx, Builtin.len_, run_underlying (str_spec hz), goInt]⟩
      · cases h
    · cases h
  · rename_i t x yt
    split at h
    · rename_i a hx hb; injection h with h; subst h
      exact ⟨by simp [opsOK, Op.operands, hx, evo_const], rfl, fun w' => by simp [execOp, ev_of hx, ev_const, eqGuard_at_pointer, run_eql_pointer_nil w' t _ (ptr_spec hb)]⟩
    · rename_i hx hb; injection h with h; subst h
      exact ⟨by simp [opsOK, Op.operands, hx, evo_const], rfl, fun w' => by simp [execOp, ev_of hx, ev_const, eqGuard_at_pointer, run_eql_pointer_nil w' t _ (ptr_spec hb)]⟩
    · cases h
  · rename_i t x yt
    split at h
    · rename_i a hx hb; injection h with h; subst h
      exact ⟨by simp [opsOK, Op.operands, hx, evo_const], rfl, fun w' => by simp [execOp, ev_of hx, ev_const, eqGuard_at_pointer, run_neq_pointer_nil w' t _ (ptr_spec hb)]⟩
    · rename_i hx hb; injection h with h; subst h
      exact ⟨by simp [opsOK, Op.operands, hx, evo_const], rfl, fun w' => by simp [execOp, ev_of hx, ev_const, eqGuard_at_pointer, run_neq_pointer_nil w' t _ (ptr_spec hb)]⟩
    · cases h
  · cases h

theorem x_gen {o : Oper} (hg : o.guard = none) (ho : opsOK env o = true) (h : acts Tryz.prog H (clsO isI isS hs o) (execOp (ev env) o) w (fun v w' => xs Tryz.prog isI isS hs H full K rest (put env o.dst v) w')) :
    xs Tryz.prog isI isS hs H full K (o :: rest) env w := ⟨true, by rw [hg]; rfl, fun _ => ⟨ho, h⟩, fun e => by cases e⟩

theorem xnil (h : K env w) : xs Tryz.prog isI isS hs H full K [] env w := h

theorem xp {op : Op} {v : Value} (hp : pstep env op = some v) (h : xs Tryz.prog isI isS hs H full K rest ((d, v) :: env) w) : xs Tryz.prog isI isS hs H full K (⟨some d, op, ty, pos, af, none⟩ :: rest) env w := by
  obtain ⟨h1, h2, h3⟩ := pstep_spec (o := ⟨some d, op, ty, pos, af, none⟩) hp
  refine x_gen rfl h1 ?_
  have h2' : clsO isI isS hs ⟨some d, op, ty, pos, af, none⟩ = .p := by unfold clsO; rw [h2]
  rw [h2']
  exact ⟨v, h3, h⟩

theorem xgy {op : Op} {g : Nat × Bool} (hg : gv full env (some g) = some true) (h : xs Tryz.prog isI isS hs H full K (⟨dst, op, ty, pos, af, none⟩ :: rest) env w) : xs Tryz.prog isI isS hs H full K (⟨dst, op, ty, pos, af, some g⟩ :: rest) env w := by
  obtain ⟨g', hg', h1, _⟩ := h
  injection hg' with hg'
  subst hg'
  exact ⟨true, hg, fun _ => h1 rfl, fun e => by cases e⟩
theorem xgn {op : Op} {g : Nat × Bool} (hg : gv full env (some g) = some false) (h : xs Tryz.prog isI isS hs H full K rest (put env dst undef) w) : xs Tryz.prog isI isS hs H full K (⟨dst, op, ty, pos, af, some g⟩ :: rest) env w :=
  ⟨false, hg, fun e => (by cases e), fun _ => h⟩

theorem treg {fn : Func} {R : Value → World → Prop} {k : List It} {id : Nat} {l : List Oper} (hd : dstOK fn.ntmps l.toArray = true) (h : xs Tryz.prog isI isS [] noH l.toArray (T Tryz.prog fn R k) l env w) : T Tryz.prog fn R (.code (.region id l.toArray false) :: k) env w :=
  treg' isI isS hd h
theorem tdraw {fn : Func} {R : Value → World → Prop} {k : List It} {id : Nat} {l : List Oper} (hd : dstOK fn.ntmps l.toArray = true) (hq : seqOK isI isS [] l.toArray (Region.before l.toArray) = true) (h : xs Tryz.prog isI isS [] noH l.toArray (T Tryz.prog fn R k) l env w.drew) :
    T Tryz.prog fn R (.code (.region id l.toArray true) :: k) env w := tdraw' isI isS [] noH mixed hd hq trivial h
/-- A region in which some reads (their slots: hs) are held: H holds throughout. -/
theorem tdrawH {fn : Func} {R : Value → World → Prop} {k : List It} {id : Nat} {l : List Oper} (hs : List Nat) (H : World → Prop) (hd : dstOK fn.ntmps l.toArray = true) (hq : seqOK isI isS hs l.toArray (Region.before l.toArray) = true) (hw : H w.drew)
    (h : xs Tryz.prog isI isS hs H l.toArray (T Tryz.prog fn R k) l env w.drew) :
    T Tryz.prog fn R (.code (.region id l.toArray true) :: k) env w := tdraw' isI isS hs H mixed hd hq hw h

/-- Two integers of one kind. -/
theorem x_bin {op : BinOp} {t yt : TypeId} {x y : Operand} {v vx vy : Value} (hx : evo env x = some vx) (hy : evo env y = some vy) (hg : eqGuard op t x y vx vy = pure ()) (hr : ∀ w', (binOp op t vx vy).run Tryz.prog w' = .ok v w')
    (h : xs Tryz.prog isI isS hs H full K rest ((d, v) :: env) w) : xs Tryz.prog isI isS hs H full K (⟨some d, .binOp op t x y yt, ty, pos, af, none⟩ :: rest) env w := by
  refine x_gen rfl (by simp [opsOK, Op.operands, hx, hy]) ⟨v, fun w' => ?_, h⟩
  simp [execOp, ev_of hx, ev_of hy, hg, hr]

def arI (op : BinOp) (a b : Int) : Option Int := match op with
  | .add => some (a + b)
  | .sub => some (a - b)
  | .mul => some (a * b)
  | _ => none

theorem xai {op : BinOp} {t yt : TypeId} {x y : Operand} {a b r : Int} (hx : evo env x = some (.int .i64 a)) (hy : evo env y = some (.int .i64 b)) (hr : arI op a b = some r) (h1 : -9223372036854775808 ≤ r) (h2 : r ≤ 9223372036854775807)
    (h : xs Tryz.prog isI isS hs H full K rest ((d, .int .i64 r) :: env) w) : xs Tryz.prog isI isS hs H full K (⟨some d, .binOp op t x y yt, ty, pos, af, none⟩ :: rest) env w := by
  have hw : IntKind.i64.wrap r = r := IntWalk.i64_in _ (by omega)
  refine x_bin hx hy (eqGuard_at_int ..) (fun w' => ?_) h
  unfold arI at hr
  split at hr <;> first | (injection hr with hr; subst hr; simp [binOp, Op.intArith, hw]) | cases hr

theorem u64_in (r : Int) (h1 : 0 ≤ r) (h2 : r ≤ 18446744073709551615) : IntKind.u64.wrap r = r := by
  simp [IntKind.wrap, IntKind.signed, IntKind.bits]; omega

theorem xau {op : BinOp} {t yt : TypeId} {x y : Operand} {a b r : Int} (hx : evo env x = some (.int .u64 a)) (hy : evo env y = some (.int .u64 b)) (hr : arI op a b = some r) (h1 : 0 ≤ r) (h2 : r ≤ 18446744073709551615)
    (h : xs Tryz.prog isI isS hs H full K rest ((d, .int .u64 r) :: env) w) : xs Tryz.prog isI isS hs H full K (⟨some d, .binOp op t x y yt, ty, pos, af, none⟩ :: rest) env w := by
  have hw : IntKind.u64.wrap r = r := u64_in r h1 h2
  refine x_bin hx hy (eqGuard_at_int ..) (fun w' => ?_) h
  unfold arI at hr
  split at hr <;> first | (injection hr with hr; subst hr; simp [binOp, Op.intArith, hw]) | cases hr

def dvI (op : BinOp) (a b : Int) : Option Int := match op with
  | .quo => some (a / b)
  | .rem => some (a % b)
  | _ => none

theorem xdv {op : BinOp} {t yt : TypeId} {x y : Operand} {k : IntKind} {a b r : Int} (hx : evo env x = some (.int k a)) (hy : evo env y = some (.int k b)) (hr : dvI op a b = some r) (h1 : 0 ≤ a) (h2 : 0 < b) (hk : k.wrap a = a)
    (h : xs Tryz.prog isI isS hs H full K rest ((d, .int k r) :: env) w) : xs Tryz.prog isI isS hs H full K (⟨some d, .binOp op t x y yt, ty, pos, af, none⟩ :: rest) env w := by
  refine x_bin hx hy (eqGuard_at_int ..) (fun w' => ?_) h
  have e0 : b ≠ 0 := by omega
  have e1 : a.tdiv b = a / b := Int.tdiv_eq_ediv_of_nonneg h1
  have e2 : a.tmod b = a % b := Int.tmod_eq_emod_of_nonneg h1
  have e3 : 0 ≤ a / b := Int.ediv_nonneg h1 (by omega)
  have e4 : a / b ≤ a := Int.ediv_le_self _ h1
  have e5 : k.wrap (a / b) = a / b := by
    cases k <;> simp [IntKind.wrap, IntKind.signed, IntKind.bits] at hk ⊢ <;> omega
  unfold dvI at hr
  split at hr <;> first | (injection hr with hr; subst hr; simp [binOp, Op.intDiv, e0, e1, e2, e5]) | cases hr

theorem xdi {op : BinOp} {t yt : TypeId} {x y : Operand} {a b r : Int} (hx : evo env x = some (.int .i64 a)) (hy : evo env y = some (.int .i64 b)) (hr : dvI op a b = some r) (h1 : 0 ≤ a) (h2 : 0 < b) (h3 : a ≤ 9223372036854775807)
    (h : xs Tryz.prog isI isS hs H full K rest ((d, .int .i64 r) :: env) w) : xs Tryz.prog isI isS hs H full K (⟨some d, .binOp op t x y yt, ty, pos, af, none⟩ :: rest) env w :=
  xdv hx hy hr h1 h2 (IntWalk.i64_in _ (by omega)) h
theorem xdu {op : BinOp} {t yt : TypeId} {x y : Operand} {a b r : Int} (hx : evo env x = some (.int .u64 a)) (hy : evo env y = some (.int .u64 b)) (hr : dvI op a b = some r) (h1 : 0 ≤ a) (h2 : 0 < b) (h3 : a ≤ 18446744073709551615)
    (h : xs Tryz.prog isI isS hs H full K rest ((d, .int .u64 r) :: env) w) : xs Tryz.prog isI isS hs H full K (⟨some d, .binOp op t x y yt, ty, pos, af, none⟩ :: rest) env w :=
  xdv hx hy hr h1 h2 (u64_in _ h1 h3) h

def cmpP (op : BinOp) (a b : Int) : Option Prop := match op with
  | .eql => some (a = b)
  | .neq => some (a ≠ b)
  | .lss => some (a < b)
  | .leq => some (a ≤ b)
  | .gtr => some (b < a)
  | .geq => some (b ≤ a)
  | _ => none

theorem xct {op : BinOp} {t yt : TypeId} {x y : Operand} {k : IntKind} {a b : Int} {p : Prop} (hx : evo env x = some (.int k a)) (hy : evo env y = some (.int k b)) (hr : cmpP op a b = some p) (hp : p)
    (h : xs Tryz.prog isI isS hs H full K rest ((d, .bool true) :: env) w) : xs Tryz.prog isI isS hs H full K (⟨some d, .binOp op t x y yt, ty, pos, af, none⟩ :: rest) env w := by
  refine x_bin hx hy (eqGuard_at_int ..) (fun w' => ?_) h
  unfold cmpP at hr
  split at hr <;> first | (injection hr with hr; subst hr; simp [binOp, Op.intCmp]; assumption) | (injection hr with hr; subst hr; simp [binOp, Op.intCmp]; done) | cases hr
theorem xcf {op : BinOp} {t yt : TypeId} {x y : Operand} {k : IntKind} {a b : Int} {p : Prop} (hx : evo env x = some (.int k a)) (hy : evo env y = some (.int k b)) (hr : cmpP op a b = some p) (hp : ¬ p)
    (h : xs Tryz.prog isI isS hs H full K rest ((d, .bool false) :: env) w) : xs Tryz.prog isI isS hs H full K (⟨some d, .binOp op t x y yt, ty, pos, af, none⟩ :: rest) env w := by
  refine x_bin hx hy (eqGuard_at_int ..) (fun w' => ?_) h
  unfold cmpP at hr
  split at hr <;> first | (injection hr with hr; subst hr; simp [binOp, Op.intCmp]; omega) | cases hr
theorem xcs {op : BinOp} {t yt : TypeId} {x y : Operand} {k : IntKind} {a b : Int} {p : Prop} (hx : evo env x = some (.int k a)) (hy : evo env y = some (.int k b)) (hr : cmpP op a b = some p)
    (ht : p → xs Tryz.prog isI isS hs H full K rest ((d, .bool true) :: env) w) (hf : ¬ p → xs Tryz.prog isI isS hs H full K rest ((d, .bool false) :: env) w) : xs Tryz.prog isI isS hs H full K (⟨some d, .binOp op t x y yt, ty, pos, af, none⟩ :: rest) env w := by
  by_cases hp : p
  · exact xct hx hy hr hp (ht hp)
  · exact xcf hx hy hr hp (hf hp)

/-- A conversion between integers. -/
theorem xcv {s t : TypeId} {x : Operand} {k0 k : IntKind} {a r : Int} (hx : evo env x = some (.int k0 a)) (hsk : kindOf s = some k0) (ht : kindOf t = some k) (hk : k.wrap a = r)
    (h : xs Tryz.prog isI isS hs H full K rest ((d, .int k r) :: env) w) : xs Tryz.prog isI isS hs H full K (⟨some d, .convert s t x, ty, pos, af, none⟩ :: rest) env w := by
  refine x_gen rfl (by simp [opsOK, Op.operands, hx]) ?_
  have hc : clsO isI isS hs ⟨some d, Op.convert s t x, ty, pos, af, none⟩ = .p := by simp [clsO, cls, isI, hsk, ht]
  rw [hc]
  exact ⟨_, fun w' => by simp [execOp, ev_of hx, convert, run_underlying (kind_spec hsk), run_underlying (kind_spec ht), Conv.intToInt, hk], h⟩
theorem xcvi {s t : TypeId} {x : Operand} {k0 : IntKind} {a : Int} (hx : evo env x = some (.int k0 a)) (hsk : kindOf s = some k0) (ht : kindOf t = some .i64) (h1 : -9223372036854775808 ≤ a) (h2 : a ≤ 9223372036854775807)
    (h : xs Tryz.prog isI isS hs H full K rest ((d, .int .i64 a) :: env) w) : xs Tryz.prog isI isS hs H full K (⟨some d, .convert s t x, ty, pos, af, none⟩ :: rest) env w := xcv hx hsk ht (IntWalk.i64_in _ (by omega)) h
theorem xcvu {s t : TypeId} {x : Operand} {k0 : IntKind} {a : Int} (hx : evo env x = some (.int k0 a)) (hsk : kindOf s = some k0) (ht : kindOf t = some .u64) (h1 : 0 ≤ a) (h2 : a ≤ 18446744073709551615)
    (h : xs Tryz.prog isI isS hs H full K rest ((d, .int .u64 a) :: env) w) : xs Tryz.prog isI isS hs H full K (⟨some d, .convert s t x, ty, pos, af, none⟩ :: rest) env w := xcv hx hsk ht (u64_in _ h1 h2) h

/-- The address of an element. -/
theorem xix {t : TypeId} {x i : Operand} {k : IntKind} {b o n c z : Nat} {j : Int} (hx : evo env x = some (.slice (some ⟨b, o, none⟩) n c)) (hi : evo env i = some (.int k j)) (hz : es t = some z) (h0 : 0 ≤ j) (h1 : j < n)
    (h : xs Tryz.prog isI isS hs H full K rest ((d, .pointer (some ⟨b, o + j.toNat * z, none⟩)) :: env) w) : xs Tryz.prog isI isS hs H full K (⟨some d, .indexAddr t x i, ty, pos, af, none⟩ :: rest) env w := by
  obtain ⟨e, ie, h2, h3, h4⟩ := es_spec hz
  refine x_gen rfl (by simp [opsOK, Op.operands, hx, hi]) ⟨_, fun w' => ?_, h⟩
  simp [execOp, ev_of hx, ev_of hi, Instr.indexAt, asIntOf, run_underlying h2, h0, h1, sizeOf, typeInfo, h3, h4, Addr.add_lit]

/-- Loading one cell. -/
theorem xld {t : TypeId} {x : Operand} {p : Addr} {v : Value} (hx : evo env x = some (.pointer (some p))) (ht : one t = true) (hc : w.cell? p = some v)
    (h : xs Tryz.prog isI isS hs H full K rest ((d, v) :: env) w) (hm : memb hs (some d) = false := by rfl) : xs Tryz.prog isI isS hs H full K (⟨some d, .load t x, ty, pos, af, none⟩ :: rest) env w := by
  obtain ⟨⟨td, h1, h2, h3⟩, _⟩ := one_spec ht
  refine x_gen rfl (by simp [opsOK, Op.operands, hx]) ?_
  have hcl : clsO isI isS hs ⟨some d, .load t x, ty, pos, af, none⟩ = .r := by simp [clsO, cls, hm]
  rw [hcl]
  refine ⟨v, ?_, h⟩
  have hag : (isAgg t).run Tryz.prog w = .ok false w := by
    unfold isAgg
    simp only [Sem.run_bind, run_underlying h1, Result.andThen_ok]
    cases td <;> first | exact absurd rfl (h2 _) | exact absurd rfl (h3 _ _) | simp
  simp [execOp, ev_of hx, Instr.loadAt, Instr.sureAddr, loadVar, hag, load, Sem.run, hc]

/-- Loading one cell that holds its value throughout the region. -/
theorem xldh {t : TypeId} {x : Operand} {p : Addr} {v : Value} (hx : evo env x = some (.pointer (some p))) (ht : one t = true) (hc : ∀ w', H w' → w'.cell? p = some v)
    (h : xs Tryz.prog isI isS hs H full K rest ((d, v) :: env) w) (hm : memb hs (some d) = true := by rfl) : xs Tryz.prog isI isS hs H full K (⟨some d, .load t x, ty, pos, af, none⟩ :: rest) env w := by
  obtain ⟨⟨td, h1, h2, h3⟩, _⟩ := one_spec ht
  refine x_gen rfl (by simp [opsOK, Op.operands, hx]) ?_
  have hcl : clsO isI isS hs ⟨some d, .load t x, ty, pos, af, none⟩ = .h := by simp [clsO, cls, hm]
  rw [hcl]
  refine ⟨v, fun w' hw' => ?_, h⟩
  have hag : (isAgg t).run Tryz.prog w' = .ok false w' := by
    unfold isAgg
    simp only [Sem.run_bind, run_underlying h1, Result.andThen_ok]
    cases td <;> first | exact absurd rfl (h2 _) | exact absurd rfl (h3 _ _) | simp
  simp [execOp, ev_of hx, Instr.loadAt, Instr.sureAddr, loadVar, hag, load, Sem.run, hc w' hw']

/-- Storing one cell. -/
theorem xst {t : TypeId} {x y : Operand} {p : Addr} {u v : Value} (hx : evo env x = some (.pointer (some p))) (hy : evo env y = some v) (ht : one t = true) (hv : v.oneCell' = true) (hc : w.cell? p = some u) (hf : w.frozen? p = false)
    (h : xs Tryz.prog isI isS hs H full K rest env (w.setCell p v)) (hH : H (w.setCell p v) := by trivial) : xs Tryz.prog isI isS hs H full K (⟨none, .store t x y, ty, pos, af, none⟩ :: rest) env w := by
  obtain ⟨_, i, h1, h2⟩ := one_spec ht
  refine x_gen rfl (by simp [opsOK, Op.operands, hx, hy]) ?_
  have hcs : v.cells = #[v] := by cases v <;> first | rfl | cases hv
  have hrun : (storeVar t p v).run Tryz.prog w = .ok () (w.setCell p v) := by
    simp [storeVar, hcs, sizeOf, typeInfo, h1, h2, storeCells, Addr.add_zero', run_store _ _ _ _ _ hv, hc, hf]
  show out Tryz.prog ((execOp (ev env) ⟨none, .store t x y, ty, pos, af, none⟩).run Tryz.prog w) _
  have e : (execOp (ev env) ⟨none, .store t x y, ty, pos, af, none⟩).run Tryz.prog w = .ok .skip (w.setCell p v) := by
    simp [execOp, ev_of hx, ev_of hy, Instr.storeAt, Instr.sureAddr, hrun]
  rw [e]
  exact ⟨hH, h⟩

def evs (env : Env) : List Operand → Option (List Value)
  | [] => some []
  | x :: r => match evo env x, evs env r with
    | some v, some vs => some (v :: vs)
    | _, _ => none

theorem evs_spec : ∀ {l : List Operand} {vs : List Value}, evs env l = some vs → l.map (ev env) = vs ∧ ∀ x ∈ l, (evo env x).isSome = true
  | [], vs, h => by injection h with h; subst h; exact ⟨rfl, by simp⟩
  | x :: r, vs, h => by
    simp only [evs] at h
    split at h
    · rename_i v vs' hv hvs; injection h with h; subst h
      obtain ⟨h1, h2⟩ := evs_spec hvs
      exact ⟨by simp [ev_of hv, h1], fun y hy => (List.mem_cons.1 hy).elim (fun e => by rw [e, hv]; rfl) (h2 y)⟩
    · cases h

set_option maxRecDepth 100000 in
/-- A call of a named function. -/
theorem xcall {f : FuncId} {args : List Operand} {ats : Array TypeId} {vs : List Value} {S : Value → World → Prop} (ha : evs env args = some vs) (hf : bit m_cal f = true) (hd : Does Tryz.prog f vs.toArray w S)
    (h : ∀ v w', S v w' → xs Tryz.prog isI isS hs H full K rest (put env dst v) w') (hH : ∀ v w', S v w' → H w' := by intros; trivial) : xs Tryz.prog isI isS hs H full K (⟨dst, .call { callee := .value (.func f), args := args.toArray, argTypes := ats }, ty, pos, af, none⟩ :: rest) env w := by
  obtain ⟨h1, h2⟩ := evs_spec ha
  obtain ⟨fn, hfn, hb, hn⟩ := cal_spec hf
  refine x_gen rfl (by simpa [opsOK, Op.operands, Call.operands, evo] using h2) ?_
  show out Tryz.prog ((execOp (ev env) ⟨dst, .call { callee := .value (.func f), args := args.toArray, argTypes := ats }, ty, pos, af, none⟩).run Tryz.prog w) _
  have e : (execOp (ev env) ⟨dst, .call { callee := .value (.func f), args := args.toArray, argTypes := ats }, ty, pos, af, none⟩).run Tryz.prog w = .ok (.enter f vs.toArray) w := by
    have hb' : ¬ fn.body = none := by intro e; rw [e] at hb; cases hb
    have hn' : ¬ fn.name = "runtime.NumGoroutine" := by simpa using hn
    have e1 : ev env (.func f) = .func (.func f) #[] #[] := rfl
    simp [execOp, resolve, e1, Deferred.ofValue, invoke, callFunc, h1, hfn, hn', hb']
  rw [e]
  exact Calls.mono hd fun e w' ⟨v, he, k⟩ => ⟨v, he, hH v w' k, h v w' k⟩

end Eng
end Go.Proofs.YtalnkjpgnkfedaaGreatDoor
