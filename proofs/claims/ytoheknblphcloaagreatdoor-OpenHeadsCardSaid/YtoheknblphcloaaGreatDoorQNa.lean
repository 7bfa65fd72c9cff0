/-
  Parts of the proof: Na.
-/
import Derived.Laws.Externs
import Derived.Lib.Mul64
import Derived.Test.YtoheknblphcloaaGreatDoorQB2
set_option maxRecDepth 100000
set_option maxHeartbeats 64000000
namespace Go.Proofs.YtoheknblphcloaaGreatDoor.Eng
open Go.RowKit
section
attribute [local irreducible] xs T
section
variable {hs : List Nat} {H : World → Prop} {full : Array Oper} {K : Env → World → Prop} {rest : List Oper} {env : Env} {w : World} {d : Tmp} {ty : TypeId} {pos : String} {af : Array Edge}
theorem run_ext64 (a b c : Nat) (hc : c ≤ 1) (w : World) : (callFunc 58 #[.int .u64 (a : Int), .int .u64 (b : Int), .int .u64 (c : Int)]).run Tryz.prog w =
   .ok (.value (.tuple #[.int .u64 (((a + b + c) % 18446744073709551616 : Nat) : Int), .int .u64 (((a + b + c) / 18446744073709551616 : Nat) : Int)])) w := by
 rw [run_callFunc_extern Tryz.func58 (by kernel_rfl) (by kernel_rfl) (by kernel_rfl) (e := add64Entry) (by kernel_rfl), run_add64 a b c (by omega) (by omega) (by omega) (by omega)]
 simp only [Result.andThen]
 congr 5 <;> omega
theorem xadd64 {args : List Operand} {ats : Array TypeId} (a b c : Nat) (ha : evs env args = some [.int .u64 (a : Int), .int .u64 (b : Int), .int .u64 (c : Int)]) (hc : c ≤ 1)
  (h : xs Tryz.prog isI isS hs H full K rest ((d, .tuple #[.int .u64 (((a + b + c) % 18446744073709551616 : Nat) : Int), .int .u64 (((a + b + c) / 18446744073709551616 : Nat) : Int)]) :: env) w) (hH : H w := by trivial) :
  xs Tryz.prog isI isS hs H full K (⟨some d, .call { callee := .value (.func 58), args := args.toArray, argTypes := ats }, ty, pos, af, none⟩ :: rest) env w := by
 obtain ⟨h1, h2⟩ := evs_spec ha
 refine xw (by simpa [opsOK, Op.operands, Call.operands, evo] using h2) rfl (w' := w) ?_ h hH
 have e1 : ev env (.func 58) = .func (.func 58) #[] #[] := rfl
 have hr := run_ext64 a b c hc w
 simp [execOp, resolve, e1, Deferred.ofValue, invoke, h1, hr]
end
theorem digit_does (w : World) (v : Value) (bs : List Int) (i : Nat) (hv : BRow w v bs) (hb : Byts bs) (hi : i ≤ bs.length) (hl : bs.length ≤ 2 ^ 40) :
  Does Tryz.prog 56 #[v, .int .i64 (i : Int)] w fun r w' => r = (match digB bs i with
   | none => .tuple #[.int .u64 0, .int .i64 (i : Int), .bool false]
   | some (d, j) => .tuple #[.int .u64 (d : Int), .int .i64 (j : Int), .bool true]) ∧ w = w' := by
 refine does2 Tryz.func56 rfl (by kernel_rfl) ?_
 obtain ⟨A, c, rfl, hcc, hcm, hA⟩ := hv.op
 unfold digB
 by_cases h1 : i < bs.length
 ·obtain ⟨b, o, z, rfl, _, hz, hcell, _⟩ := hA.at_ h1
  have hzb := hb z (List.mem_of_getElem? hz)
  rw [getD_of hz]
  by_cases h2 : z < 250
  ·rw [if_pos ⟨h1, h2⟩]
   refine gz1 ?_
   exact tret3 rfl rfl rfl rfl ⟨by
    show _ = Value.tuple #[.int .u64 ((z.toNat : Nat) : Int), .int .i64 ((i + 1 : Nat) : Int), .bool true]
    rw [Int.toNat_of_nonneg hzb.1]; rfl, rfl⟩
  ·rw [if_neg (by omega)]
   by_cases h3 : i + 1 < bs.length
   ·obtain ⟨b', o', z', e, _, hz', hcell', _⟩ := hA.at_ h3
    injection e with e; injection e with e1 e2; subst e1; subst e2
    have hzb' := hb z' (List.mem_of_getElem? hz')
    rw [getD_of hz']
    by_cases h4 : z = 250 ∧ z' < 250
    ·rw [if_pos ⟨h3, h4⟩]
     repeat' (first | refine xcvu rfl rfl rfl (by omega) (by omega) ?_ | refine xisq (i + 1) (o + (i + 1)) rfl rfl rfl (by omega) rfl (by omega) ?_ | refine go1 ?_ | fail)
     exact tret3 rfl rfl rfl rfl ⟨by
      show _ = Value.tuple #[.int .u64 ((z'.toNat : Nat) : Int), .int .i64 ((i + 2 : Nat) : Int), .bool true]
      rw [Int.toNat_of_nonneg hzb'.1]; rfl, rfl⟩
    ·rw [if_neg (by omega)]
     by_cases h5 : z = 250
     ·repeat' (first | refine xisq (i + 1) (o + (i + 1)) rfl rfl rfl (by omega) rfl (by omega) ?_ | refine go1 ?_ | fail)
      exact tret3 rfl rfl rfl rfl ⟨rfl, rfl⟩
     ·refine go ?_
      exact tret3 rfl rfl rfl rfl ⟨rfl, rfl⟩
   ·rw [if_neg (by omega)]
    refine go ?_
    exact tret3 rfl rfl rfl rfl ⟨rfl, rfl⟩
 ·rw [if_neg (by omega), if_neg (by omega)]
  refine go ?_
  exact tret3 rfl rfl rfl rfl ⟨rfl, rfl⟩
end
section
attribute [local irreducible] xs T
section
variable {hs : List Nat} {H : World → Prop} {full : Array Oper} {K : Env → World → Prop} {rest : List Oper} {env : Env} {w : World} {d : Tmp} {ty : TypeId} {pos : String} {af : Array Edge}
theorem xarw {op : BinOp} {t yt : TypeId} {x y : Operand} {a b m r : Int} (hx : evo env x = some (.int .u64 a)) (hy : evo env y = some (.int .u64 b)) (hm : arI op a b = some m) (hr : IntKind.u64.wrap m = r)
  (h : xs Tryz.prog isI isS hs H full K rest ((d, .int .u64 r) :: env) w) : xs Tryz.prog isI isS hs H full K (⟨some d, .binOp op t x y yt, ty, pos, af, none⟩ :: rest) env w := by
 refine x_bin hx hy (eqGuard_at_int ..) (fun w' => ?_) h
 unfold arI at hm
 split at hm <;> first | (injection hm with hm; subst hm; simp [binOp, Op.intArith, hr]) | cases hm
theorem xshrN {t yt : TypeId} {x y : Operand} {k yk : IntKind} {a b r : Int} (hx : evo env x = some (.int k a)) (hy : evo env y = some (.int yk b)) (h0 : 0 ≤ b) (h1 : b ≤ k.bits) (hr : a / 2 ^ b.toNat = r)
  (h : xs Tryz.prog isI isS hs H full K rest ((d, .int k r) :: env) w) : xs Tryz.prog isI isS hs H full K (⟨some d, .binOp .shr t x y yt, ty, pos, af, none⟩ :: rest) env w := by
 subst hr; exact xshr hx hy h0 h1 h
end
theorem and_mask (x : Nat) (hx : x < 18446744073709551616) : bits .and .u64 (x : Int) 4294967295 = ((x % 4294967296 : Nat) : Int) := by
 have := u64_and_nat x 4294967295 hx (by decide)
 rw [show x &&& 4294967295 = x % 4294967296 from Nat.and_two_pow_sub_one_eq_mod x 32] at this
 exact this
theorem u64_nat (m : Nat) : IntKind.u64.wrap (m : Int) = ((m % 18446744073709551616 : Nat) : Int) := by
 simp [IntKind.wrap, IntKind.signed, IntKind.bits]
theorem mul64_does (w : World) (x y : Nat) (hx : x < 18446744073709551616) (hy : y < 18446744073709551616) :
  Does Tryz.prog 57 #[.int .u64 (x : Int), .int .u64 (y : Int)] w fun r w' => r = .tuple #[.int .u64 ((x * y / 18446744073709551616 : Nat) : Int), .int .u64 ((x * y % 18446744073709551616 : Nat) : Int)] ∧ w = w' := by
 refine does2 Tryz.func57 rfl (by kernel_rfl) ?_
 obtain ⟨k1, k2, k3, k4⟩ := Go.Lib.mul64_hi x y hx hy
 obtain ⟨x0, ex0⟩ : ∃ x0, x0 = x % 4294967296 := ⟨_, rfl⟩
 obtain ⟨x1, ex1⟩ : ∃ x1, x1 = x / 4294967296 := ⟨_, rfl⟩
 obtain ⟨y0, ey0⟩ : ∃ y0, y0 = y % 4294967296 := ⟨_, rfl⟩
 obtain ⟨y1, ey1⟩ : ∃ y1, y1 = y / 4294967296 := ⟨_, rfl⟩
 have a1 := and_mask x hx
 have a2 := and_mask y hy
 rw [← ex0, ← ey0] at k1
 rw [← ex0, ← ex1, ← ey0] at k2
 rw [← ex0, ← ex1, ← ey0, ← ey1] at k3 k4
 rw [← ex0] at a1
 rw [← ey0] at a2
 have hhi : x * y / 18446744073709551616 < 18446744073709551616 := by
  rw [Nat.div_lt_iff_lt_mul (by decide)]
  exact Nat.mul_lt_mul'' hx hy
 refine go ?_
 refine xbits (r := (x0 : Int)) rfl rfl (.inl rfl) a1 ?_
 refine go ?_
 refine xshrN (r := (x1 : Int)) rfl rfl (by decide) (by decide) (by show (x : Int) / 4294967296 = _; omega) ?_
 refine go ?_
 refine xbits (r := (y0 : Int)) rfl rfl (.inl rfl) a2 ?_
 refine go ?_
 refine xshrN (r := (y1 : Int)) rfl rfl (by decide) (by decide) (by show (y : Int) / 4294967296 = _; omega) ?_
 refine go ?_
 refine xarw (m := ((x0 * y0 : Nat) : Int)) (r := ((x0 * y0 : Nat) : Int)) rfl rfl (by simp [arI]) (by rw [u64_nat, Nat.mod_eq_of_lt k1]) ?_
 refine go ?_
 obtain ⟨t, et⟩ : ∃ t, t = x1 * y0 + x0 * y0 / 4294967296 := ⟨_, rfl⟩
 rw [← et] at k2 k3 k4
 have m1 : x1 * y0 < 18446744073709551616 := by omega
 refine xarw (m := ((x1 * y0 : Nat) : Int)) (r := ((x1 * y0 : Nat) : Int)) rfl rfl (by simp [arI]) (by rw [u64_nat, Nat.mod_eq_of_lt m1]) ?_
 refine go ?_
 refine xshrN (r := ((x0 * y0 / 4294967296 : Nat) : Int)) rfl rfl (by decide) (by decide) (by show ((x0 * y0 : Nat) : Int) / 4294967296 = _; omega) ?_
 refine xarw (m := (t : Int)) (r := (t : Int)) rfl rfl (by simp only [arI]; congr 1 <;> omega) (by rw [u64_nat, Nat.mod_eq_of_lt k2]) ?_
 refine go ?_
 refine xbits (r := ((t % 4294967296 : Nat) : Int)) rfl rfl (.inl rfl) (and_mask t k2) ?_
 refine go ?_
 refine xshrN (r := ((t / 4294967296 : Nat) : Int)) rfl rfl (by decide) (by decide) (by show (t : Int) / 4294967296 = _; omega) ?_
 refine go ?_
 have m2 : x0 * y1 < 18446744073709551616 := by omega
 refine xarw (m := ((x0 * y1 : Nat) : Int)) (r := ((x0 * y1 : Nat) : Int)) rfl rfl (by simp [arI]) (by rw [u64_nat, Nat.mod_eq_of_lt m2]) ?_
 refine xarw (m := ((t % 4294967296 + x0 * y1 : Nat) : Int)) (r := ((t % 4294967296 + x0 * y1 : Nat) : Int)) rfl rfl (by simp only [arI]; congr 1 <;> omega) (by rw [u64_nat, Nat.mod_eq_of_lt k3]) ?_
 refine go ?_
 have m3 : x1 * y1 < 18446744073709551616 := by omega
 refine xarw (m := ((x1 * y1 : Nat) : Int)) (r := ((x1 * y1 : Nat) : Int)) rfl rfl (by simp [arI]) (by rw [u64_nat, Nat.mod_eq_of_lt m3]) ?_
 refine go ?_
 refine xshrN (r := (((t % 4294967296 + x0 * y1) / 4294967296 : Nat) : Int)) rfl rfl (by decide) (by decide) (by show ((t % 4294967296 + x0 * y1 : Nat) : Int) / 4294967296 = _; omega) ?_
 refine xarw (m := ((x * y / 18446744073709551616 : Nat) : Int)) (r := ((x * y / 18446744073709551616 : Nat) : Int)) rfl rfl (by simp only [arI]; congr 1 <;> omega) (by rw [u64_nat, Nat.mod_eq_of_lt hhi]) ?_
 refine go ?_
 refine xarw (m := ((x * y : Nat) : Int)) (r := ((x * y % 18446744073709551616 : Nat) : Int)) rfl rfl (by simp [arI]) (u64_nat _) ?_
 refine go ?_
 exact tret2 rfl rfl rfl ⟨rfl, rfl⟩
end
section
attribute [local irreducible] xs T
theorem dig_bd {bs : List Int} {i d j : Nat} (h : digB bs i = some (d, j)) : d < 250 ∧ (j = i + 1 ∨ j = i + 2) ∧ j ≤ bs.length := by
 unfold digB at h
 split at h
 ·rename_i h1
  injection h with h; injection h with h2 h3
  subst h2; subst h3
  omega
 ·split at h
  ·rename_i h1
   injection h with h; injection h with h2 h3
   subst h2; subst h3
   omega
  ·cases h
structure NgI (bs : List Int) (at_ : Nat) (w0 : World) (x : Nat × Nat × Nat × Nat) (w : World) : Prop where
 go : ngGo bs at_ x.1 x.2.1 x.2.2.1 x.2.2.2 = ngB bs at_
 fuel : bs.length + 1 - x.2.2.2 ≤ x.1
 n : x.2.1 < 18446744073709551616
 u : x.2.2.1 < 18446744073709551616
 i : x.2.2.2 ≤ bs.length
 w : w0 = w
theorem nget_does (w : World) (v : Value) (bs : List Int) (at_ : Nat) (hv : BRow w v bs) (hb : Byts bs) (hat : at_ ≤ bs.length) (hl : bs.length ≤ 2 ^ 40) :
  Does Tryz.prog 24 #[v, .int .i64 (at_ : Int)] w fun r w' => r = (match ngB bs at_ with
   | none => .tuple #[.int .u64 0, .int .i64 (at_ : Int), .int .i64 3]
   | some (n, j) => .tuple #[.int .u64 (n : Int), .int .i64 (j : Int), .int .i64 0]) ∧ w = w' := by
 refine does2 Tryz.func24 rfl (by kernel_rfl) ?_
 have hrow := hv
 obtain ⟨A, c, rfl, hcc, hcm, hA⟩ := hv.op
 refine go ?_
 refine tscope1 (α := Nat × Nat × Nat × Nat) 0 rfl (fun x => [(0, .slice A bs.length c), (1, .int .i64 (at_ : Int)), (7, .int .u64 (x.2.1 : Int)), (8, .int .u64 (x.2.2.1 : Int)), (9, .int .i64 (x.2.2.2 : Int))]) (NgI bs at_ w) (fun x => x.1) ?_ ?_
 ·rintro ⟨f, n, u, i⟩ _ ⟨hgo, hfu, hn, hu, hi, rfl⟩
  dsimp only at hgo hfu hn hu hi ⊢
  obtain ⟨f, rfl⟩ : ∃ g, f = g + 1 := ⟨f - 1, by omega⟩
  rw [ngGo] at hgo
  clear hA
  refine go ?_
  refine xcall rfl rfl (digit_does w _ bs i hrow hb hi hl) (fun r w1 h1 => ?_)
  obtain ⟨rfl, rfl⟩ := h1
  cases hd : digB bs i with
  | none =>
   rw [hd] at hgo
   dsimp only at hgo ⊢
   refine go ?_
   refine xcall rfl rfl (mul64_does w 0 u (by decide) hu) (fun r w1 h1 => ?_)
   obtain ⟨rfl, rfl⟩ := h1
   refine go ?_
   refine xadd64 n (0 * u % 18446744073709551616) 0 rfl (by decide) ?_
   refine go ?_
   exact tret3 rfl rfl rfl rfl ⟨by rw [← hgo], rfl⟩
  | some dj =>
   obtain ⟨d, j⟩ := dj
   rw [hd] at hgo
   dsimp only at hgo ⊢
   obtain ⟨hd250, hj, hjl⟩ := dig_bd hd
   repeat' (first | refine go1 ?_ | refine xs_eql rfl rfl (fun hc => ?_) (fun hc => ?_) | refine xs_neq rfl rfl (fun hc => ?_) (fun hc => ?_) | refine xs_lss rfl rfl (fun hc => ?_) (fun hc => ?_) | refine xs_leq rfl rfl (fun hc => ?_) (fun hc => ?_) | refine xs_gtr rfl rfl (fun hc => ?_) (fun hc => ?_) | refine xs_geq rfl rfl (fun hc => ?_) (fun hc => ?_) | fail)
   all_goals (refine xcall rfl rfl (mul64_does w d u (by omega) hu) (fun r w1 h1 => ?_); obtain ⟨rfl, rfl⟩ := h1)
   all_goals (obtain ⟨p, hp⟩ : ∃ p, p = d * u := ⟨_, rfl⟩; rw [← hp] at hgo ⊢)
   ·have hj1 : j = i + 1 := by omega
    subst hj1
    refine go ?_
    refine xadd64 n (p % 18446744073709551616) 0 rfl (by decide) ?_
    by_cases c1 : u = 0
    ·rw [if_pos (by omega)] at hgo
     refine go ?_
     exact tret3 rfl rfl rfl rfl ⟨by rw [← hgo], rfl⟩
    by_cases c2 : 18446744073709551616 ≤ p
    ·rw [if_pos (by omega)] at hgo
     refine go ?_
     exact tret3 rfl rfl rfl rfl ⟨by rw [← hgo], rfl⟩
    by_cases c3 : 18446744073709551616 ≤ n + p
    ·rw [if_pos (by omega)] at hgo
     refine go ?_
     exact tret3 rfl rfl rfl rfl ⟨by rw [← hgo], rfl⟩
    by_cases c4 : d = 0
    ·by_cases c5 : at_ < i
     ·rw [if_pos (by omega)] at hgo
      refine go ?_
      exact tret3 rfl rfl rfl rfl ⟨by rw [← hgo], rfl⟩
     ·rw [if_neg (by omega), if_pos rfl] at hgo
      refine go ?_
      exact tret3 rfl rfl rfl rfl ⟨by rw [← hgo]; dsimp only; rw [show (n + p % 18446744073709551616 + 0) % 18446744073709551616 = n + p from by omega]; rfl, rfl⟩
    ·rw [if_neg (by omega), if_pos rfl] at hgo
     refine go ?_
     exact tret3 rfl rfl rfl rfl ⟨by rw [← hgo]; dsimp only; rw [show (n + p % 18446744073709551616 + 0) % 18446744073709551616 = n + p from by omega]; rfl, rfl⟩
   ·have hj2 : j = i + 2 := by omega
    subst hj2
    refine go ?_
    refine xadd64 n (p % 18446744073709551616) 0 rfl (by decide) ?_
    by_cases c1 : u = 0
    ·rw [if_pos (by omega)] at hgo
     refine go ?_
     exact tret3 rfl rfl rfl rfl ⟨by rw [← hgo], rfl⟩
    by_cases c2 : 18446744073709551616 ≤ p
    ·rw [if_pos (by omega)] at hgo
     refine go ?_
     exact tret3 rfl rfl rfl rfl ⟨by rw [← hgo], rfl⟩
    by_cases c3 : 18446744073709551616 ≤ n + p
    ·rw [if_pos (by omega)] at hgo
     refine go ?_
     exact tret3 rfl rfl rfl rfl ⟨by rw [← hgo], rfl⟩
    rw [if_neg (by omega), if_neg (by omega)] at hgo
    refine go ?_
    refine xcall rfl rfl (mul64_does w u 250 hu (by decide)) (fun r w1 h1 => ?_)
    obtain ⟨rfl, rfl⟩ := h1
    by_cases c6 : 18446744073709551616 ≤ u * 250
    ·rw [if_pos c6] at hgo
     refine go ?_
     exact tgoto rfl ⟨_, (by show f < f + 1; omega), rfl, (f, n + p, 0, i + 2), sub ⟨rfl, rfl, hieq (by dsimp only; omega), rfl, rfl⟩, ⟨hgo, by dsimp only; omega, by dsimp only; omega, by dsimp only; omega, by dsimp only; omega, rfl⟩, rfl⟩
    ·rw [if_neg c6] at hgo
     refine go ?_
     exact tgoto rfl ⟨_, (by show f < f + 1; omega), rfl, (f, n + p, u * 250, i + 2), sub ⟨rfl, rfl, hieq (by dsimp only; omega), hieq (by dsimp only; omega), rfl⟩, ⟨hgo, by dsimp only; omega, by dsimp only; omega, by dsimp only; omega, by dsimp only; omega, rfl⟩, rfl⟩
 ·intro H
  refine go ?_
  refine tlabel ?_
  exact tweak (H (bs.length + 1 - at_, 0, 1, at_) w ⟨rfl, Nat.le_refl _, by dsimp only; omega, by dsimp only; omega, hat, rfl⟩) (sub ⟨rfl, rfl, rfl, rfl, rfl⟩)
end
end Go.Proofs.YtoheknblphcloaaGreatDoor.Eng
