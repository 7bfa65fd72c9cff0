/-
  The reference's numbers: Put, Get; its In.Get where too few bits are left.
-/
import Derived.Test.YtighkjohpmlemaaPn
import Derived.Test.YtighkjohpmlemaaTa
namespace Go.Proofs.Ytighkjohpmlemaa
open Go.RowKit
namespace Eng

section
variable {hs : List Nat} {H : World → Prop} {full : Array Oper} {K : Env → World → Prop} {rest : List Oper} {env : Env} {w : World} {d : Tmp} {ty : TypeId} {pos : String} {af : Array Edge}
/-- A number below 256 as a byte. -/
theorem xcvb8 {s t : TypeId} {x : Operand} {k0 : IntKind} {a : Int} (hx : evo env x = some (.int k0 a)) (hsk : kindOf s = some k0) (ht : kindOf t = some .u8) (h1 : 0 ≤ a) (h2 : a < 256)
    (h : xs Try.prog isI isS hs H full K rest ((d, .int .u8 a) :: env) w) : xs Try.prog isI isS hs H full K (⟨some d, .convert s t x, ty, pos, af, none⟩ :: rest) env w :=
  xcv hx hsk ht (by simp [IntKind.wrap, IntKind.signed, IntKind.bits]; omega) h
theorem xmulu {t yt : TypeId} {x y : Operand} {a b : Int} (hx : evo env x = some (.int .u64 a)) (hy : evo env y = some (.int .u64 b)) (h1 : 0 ≤ a * b) (h2 : a * b ≤ 18446744073709551615)
    (h : xs Try.prog isI isS hs H full K rest ((d, .int .u64 (a * b)) :: env) w) : xs Try.prog isI isS hs H full K (⟨some d, .binOp .mul t x y yt, ty, pos, af, none⟩ :: rest) env w := xau hx hy rfl h1 h2 h
end
attribute [local irreducible] xs T

theorem numB_step {n : Nat} (h : 250 ≤ n) (h2 : n < 62500) : numB n = [250, ((n % 250 : Nat) : Int)] ++ numB (n / 250) := by
  rw [numB_two h h2, numB_small (by omega)]; rfl

structure RnI (n : Nat) (w0 : World) (x : Nat × List Int) (w : World) : Prop where
  le : x.1 ≤ n
  go : x.2 ++ numB x.1 = numB n
  ext : Ext w0 w

set_option maxRecDepth 20000 in
set_option maxHeartbeats 2000000 in
theorem rnput_does (w : World) (n : Nat) (hn : n < 62500) :
    Does Try.prog 66 #[.int .u64 (n : Int)] w fun r w' => r = .string (strOfNums (numB n)) ∧ Ext w w' := by
  refine does1 Try.func66 rfl (by kernel_rfl) ?_
  refine goL ?_
  refine tloop (α := Nat × List Int) (fun x => [(0, .int .u64 (x.1 : Int)), (3, .string (strOfNums x.2))]) (RnI n w) (fun x => x.1) (n, []) (sub ⟨rfl, rfl⟩) ⟨Nat.le_refl _, rfl, Fr.refl _ _⟩ ?_
  rintro ⟨m, acc⟩ w1 ⟨hm, hgo, hE⟩
  dsimp only at hm hgo hE ⊢
  have hnl := numB_len hn
  have hal : acc.length ≤ 3 := by rw [← hgo, List.length_append] at hnl; omega
  by_cases h : 250 ≤ m
  · rw [numB_step h (by omega), ← List.append_assoc] at hgo
    repeat' (first | refine xcvb8 rfl rfl rfl (by omega) (by omega) ?_ | refine go1LU ?_ | fail)
    refine xbs sl_bytes rfl rfl (by decide) (by decide) (fun u hu => by simp at hu; rcases hu with rfl | rfl <;> rfl) (fun w2 hB2 hE2 hs2 => ?_)
    have hBB := BB.new' [250, (m : Int) % 250] hB2 rfl
    refine xcbs rfl (hBB.row (by show 2 ≤ maxLen; decide)) ?_
    refine xsadd rfl rfl (by simp; omega) ?_
    refine goLU ?_
    exact tfin ⟨(m / 250, acc ++ [250, (m : Int) % 250]), sub ⟨ieq (by dsimp only; omega), rfl⟩, ⟨by dsimp only; omega, by dsimp only; rw [← hgo]; simp, hE.t hE2⟩, (by show m / 250 < m; omega)⟩
  · rw [numB_small (by omega)] at hgo
    repeat' (first | refine xcvb8 rfl rfl rfl (by omega) (by omega) ?_ | refine go1LU ?_ | fail)
    refine xbs sl_bytes rfl rfl (by decide) (by decide) (fun u hu => by simp at hu; subst hu; rfl) (fun w2 hB2 hE2 hs2 => ?_)
    have hBB := BB.new' [(m : Int)] hB2 rfl
    refine xcbs rfl (hBB.row (by show 1 ≤ maxLen; decide)) ?_
    refine xsadd rfl rfl (by simp; omega) ?_
    refine goL ?_
    exact tret1 rfl rfl ⟨by rw [hgo], hE.t hE2⟩

/-- The reference's Get. -/
def rgEnd (bs : List Int) (at_ n u k : Nat) : Option (Nat × Nat) :=
  if bs.length ≤ k ∨ 249 < bs.getD k 0 ∨ (at_ < k ∧ bs.getD k 0 = 0) then none else
  if at_ < k ∧ (18446744073709551615 - n) / u < (bs.getD k 0).toNat then none else some (n + u * (bs.getD k 0).toNat, k + 1)
def rgGo (bs : List Int) (at_ : Nat) : Nat → Nat → Nat → Nat → Option (Nat × Nat)
  | 0, n, u, k => rgEnd bs at_ n u k
  | f + 1, n, u, k => if k < bs.length ∧ bs.getD k 0 = 250 then
      (if bs.length ≤ k + 1 ∨ 249 < bs.getD (k + 1) 0 ∨ at_ + 16 ≤ k then none else rgGo bs at_ f (n + u * (bs.getD (k + 1) 0).toNat) (u * 250) (k + 2)) else rgEnd bs at_ n u k
def rgB (bs : List Int) (at_ : Nat) : Option (Nat × Nat) := rgGo bs at_ (bs.length + 1) 0 1 at_

structure RnG (bs : List Int) (at_ : Nat) (w0 : World) (x : Nat × Nat × Nat × Nat × Nat) (w : World) : Prop where
  go : rgGo bs at_ x.1 x.2.1 x.2.2.1 x.2.2.2.1 = rgB bs at_
  fu : bs.length < x.1 + x.2.2.2.1
  pl : x.2.2.2.1 = at_ + 2 * x.2.2.2.2
  i8 : x.2.2.2.2 ≤ 8
  u : x.2.2.1 = 250 ^ x.2.2.2.2
  n : x.2.1 < x.2.2.1
  kl : x.2.2.2.1 ≤ bs.length
  w : w0 = w

theorem pow250_le {i j : Nat} (h : i ≤ j) : 250 ^ i ≤ 250 ^ j := Nat.pow_le_pow_right (by decide) h

set_option maxRecDepth 20000 in
set_option maxHeartbeats 4000000 in
theorem rnget_does (w : World) (bs : List Int) (at_ : Nat) (hb : Byts bs) (hat : at_ ≤ bs.length) (hl : bs.length ≤ 2 ^ 40) :
    Does Try.prog 83 #[.string (strOfNums bs), .int .i64 (at_ : Int)] w fun r w' => r = (match rgB bs at_ with
      | none => .tuple #[.int .u64 0, .int .i64 (at_ : Int), .int .i64 3]
      | some (n, j) => .tuple #[.int .u64 (n : Int), .int .i64 (j : Int), .int .i64 0]) ∧ w = w' := by
  refine does2 Try.func83 rfl (by kernel_rfl) ?_
  repeat' (first | refine xsln rfl rfl ?_ | refine go1L ?_ | fail)
  refine tloop (α := Nat × Nat × Nat × Nat × Nat) (fun x => [(0, .string (strOfNums bs)), (1, .int .i64 (at_ : Int)), (7, .int .u64 (x.2.1 : Int)), (8, .int .u64 (x.2.2.1 : Int)), (9, .int .i64 (x.2.2.2.1 : Int))]) (RnG bs at_ w) (fun x => x.1) (bs.length + 1, 0, 1, at_, 0) (sub ⟨rfl, rfl, rfl, rfl, rfl⟩) ⟨rfl, by dsimp only; omega, rfl, by dsimp only; omega, rfl, by dsimp only; omega, hat, rfl⟩ ?_
  rintro ⟨f, n, u, k, i⟩ _ ⟨hgo, hfu, hpl, hi8, hu, hn, hkl, rfl⟩
  dsimp only at hgo hfu hpl hi8 hu hn hkl ⊢
  have hu8 := pow250_le hi8
  have hu1 : 1 ≤ u := by omega
  have e8 : (250 : Nat) ^ 8 = 15258789062500000000 := by decide
  have hnext : ∀ z, bs[k]? = some z → z = 250 → ∃ f', f = f' + 1 := fun z hz _ => ⟨f - 1, by have := (List.getElem?_eq_some_iff.1 hz).1; omega⟩
  have hend : (k < bs.length → bs.getD k 0 ≠ 250) → rgEnd bs at_ n u k = rgB bs at_ := fun hne => by
    rw [← hgo]
    cases f with
    | zero => rfl
    | succ f => rw [rgGo, if_neg (fun h => hne h.1 h.2)]
  by_cases hk : k < bs.length
  · obtain ⟨z, hz⟩ : ∃ z, bs[k]? = some z := ⟨_, List.getElem?_eq_getElem hk⟩
    have hzb := hb z (List.mem_of_getElem? hz)
    by_cases h250 : z = 250
    · obtain ⟨f, rfl⟩ := hnext z hz h250
      rw [rgGo, getD_of hz, if_pos ⟨hk, h250⟩] at hgo
      by_cases hk1 : bs.length ≤ k + 1
      · rw [if_pos (.inl hk1)] at hgo
        repeat' (first | refine xsi k rfl rfl rfl rfl hz hzb ?_ | refine xsln rfl rfl ?_ | refine go1L ?_ | fail)
        exact tret3 rfl rfl rfl rfl ⟨by rw [← hgo], rfl⟩
      obtain ⟨y, hy⟩ : ∃ y, bs[k + 1]? = some y := ⟨_, List.getElem?_eq_getElem (by omega)⟩
      have hyb := hb y (List.mem_of_getElem? hy)
      rw [getD_of hy] at hgo
      by_cases hy2 : 249 < y
      · rw [if_pos (.inr (.inl hy2))] at hgo
        repeat' (first | refine xsi k rfl rfl rfl rfl hz hzb ?_ | refine xsi (k + 1) rfl rfl rfl (by omega) hy hyb ?_ | refine xsln rfl rfl ?_ | refine go1L ?_ | fail)
        exact tret3 rfl rfl rfl rfl ⟨by rw [← hgo], rfl⟩
      by_cases h16 : at_ + 16 ≤ k
      · rw [if_pos (.inr (.inr h16))] at hgo
        repeat' (first | refine xsi k rfl rfl rfl rfl hz hzb ?_ | refine xsi (k + 1) rfl rfl rfl (by omega) hy hyb ?_ | refine xsln rfl rfl ?_ | refine go1L ?_ | fail)
        exact tret3 rfl rfl rfl rfl ⟨by rw [← hgo], rfl⟩
      rw [if_neg (by omega)] at hgo
      have hi7 : i ≤ 7 := by omega
      have hu7 := pow250_le hi7
      have e7 : (250 : Nat) ^ 7 = 61035156250000000 := by decide
      obtain ⟨m, rfl⟩ := Int.eq_ofNat_of_zero_le hyb.1
      rw [Int.toNat_natCast] at hgo
      have hm : u * m ≤ u * 249 := Nat.mul_le_mul_left u (by omega)
      have hum : (u : Int) * (m : Int) = ((u * m : Nat) : Int) := by simp
      have hpos : 0 ≤ (u : Int) * (m : Int) := by rw [hum]; omega
      have hle2 : (u : Int) * (m : Int) ≤ 15197753906250000000 := by rw [hum]; omega
      repeat' (first | refine xsi k rfl rfl rfl rfl hz hzb ?_ | refine xsi (k + 1) rfl rfl rfl (by omega) hy hyb ?_ | refine xmulu rfl rfl (by omega) (by omega) ?_ | refine xsln rfl rfl ?_ | refine go1LU ?_ | fail)
      refine tfin ⟨(f, n + u * m, u * 250, k + 2, i + 1), sub ⟨rfl, rfl, ieq (by dsimp only; omega), ieq (by dsimp only; omega), rfl⟩, ⟨hgo, by dsimp only; omega, by dsimp only; omega, by dsimp only; omega, by dsimp only; rw [hu, Nat.pow_succ], by dsimp only; omega, by dsimp only; omega, rfl⟩, (by show f < f + 1; omega)⟩
    · have hend := hend fun _ => by rw [getD_of hz]; exact h250
      unfold rgEnd at hend
      rw [getD_of hz] at hend
      by_cases h249 : 249 < z
      · rw [if_pos (.inr (.inl h249))] at hend
        repeat' (first | refine xsi k rfl rfl rfl rfl hz hzb ?_ | refine xsln rfl rfl ?_ | refine go1L ?_ | fail)
        exact tret3 rfl rfl rfl rfl ⟨by rw [← hend], rfl⟩
      by_cases hat2 : at_ < k
      · by_cases hz0 : z = 0
        · rw [if_pos (.inr (.inr ⟨hat2, hz0⟩))] at hend
          repeat' (first | refine xsi k rfl rfl rfl rfl hz hzb ?_ | refine xsln rfl rfl ?_ | refine go1L ?_ | fail)
          exact tret3 rfl rfl rfl rfl ⟨by rw [← hend], rfl⟩
        rw [if_neg (by omega)] at hend
        obtain ⟨m, rfl⟩ := Int.eq_ofNat_of_zero_le hzb.1
        rw [Int.toNat_natCast] at hend
        have hdiv : ((18446744073709551615 - (n : Int)) / (u : Int)) = (((18446744073709551615 - n) / u : Nat) : Int) := by
          rw [Int.natCast_ediv, Int.ofNat_sub (by omega)]; rfl
        obtain ⟨q, hq⟩ : ∃ q, q = (18446744073709551615 - n) / u := ⟨_, rfl⟩
        rw [← hq] at hend hdiv
        by_cases hbig : q < m
        · rw [if_pos ⟨hat2, hbig⟩] at hend
          repeat' (first | refine xsi k rfl rfl rfl rfl hz hzb ?_ | refine xsln rfl rfl ?_ | refine go1LU ?_ | fail)
          exact tret3 rfl rfl rfl rfl ⟨by rw [← hend], rfl⟩
        · rw [if_neg (fun h => hbig h.2)] at hend
          have hm : u * m ≤ 18446744073709551615 - n := by
            have h1 : u * m ≤ u * q := Nat.mul_le_mul_left u (by omega)
            have h2 : u * q ≤ 18446744073709551615 - n := by rw [hq]; exact Nat.mul_div_le _ _
            omega
          have hum : (u : Int) * (m : Int) = ((u * m : Nat) : Int) := by simp
          have hpos : 0 ≤ (u : Int) * (m : Int) := by rw [hum]; omega
          have hle2 : (n : Int) + (u : Int) * (m : Int) ≤ 18446744073709551615 := by rw [hum]; omega
          repeat' (first | refine xsi k rfl rfl rfl rfl hz hzb ?_ | refine xmulu rfl rfl (by omega) (by omega) ?_ | refine xsln rfl rfl ?_ | refine go1LU ?_ | fail)
          refine tret3 rfl rfl rfl rfl ⟨?_, rfl⟩
          rw [← hend]
          simp
      · rw [if_neg (by omega), if_neg (by omega)] at hend
        obtain rfl : i = 0 := by omega
        obtain rfl : u = 1 := hu
        obtain rfl : n = 0 := by omega
        obtain ⟨m, rfl⟩ := Int.eq_ofNat_of_zero_le hzb.1
        rw [Int.toNat_natCast] at hend
        repeat' (first | refine xsi k rfl rfl rfl rfl hz hzb ?_ | refine xmulu rfl rfl (by omega) (by omega) ?_ | refine xsln rfl rfl ?_ | refine go1LU ?_ | fail)
        refine tret3 rfl rfl rfl rfl ⟨?_, rfl⟩
        rw [← hend]
        simp
  · have hend := hend fun h => absurd h hk
    unfold rgEnd at hend
    rw [if_pos (.inl (by omega))] at hend
    repeat' (first | refine xsln rfl rfl ?_ | refine go1L ?_ | fail)
    exact tret3 rfl rfl rfl rfl ⟨by rw [← hend], rfl⟩

/-- The number of bytes is read again. -/
theorem rg_num {n : Nat} (h : n < 62500) (rest : List Int) : rgB (1 :: (numB n ++ rest)) 1 = some (n, 1 + (numB n).length) := by
  unfold rgB
  rcases Nat.lt_or_ge n 250 with h1 | h1
  · rw [numB_small h1]
    have d : rgEnd ((1 : Int) :: ([(n : Int)] ++ rest)) 1 0 1 1 = some (n, 2) := by
      unfold rgEnd
      rw [if_neg (by simp; omega), if_neg (by simp)]
      simp
    rw [rgGo, if_neg (by simp; omega), d]
    rfl
  · rw [numB_two h1 h]
    have e : ((1 : Int) :: ([250, ((n % 250 : Nat) : Int), ((n / 250 : Nat) : Int)] ++ rest)).length + 1 = (rest.length + 3) + 1 + 1 := by simp
    have d : rgEnd ((1 : Int) :: ([250, ((n % 250 : Nat) : Int), ((n / 250 : Nat) : Int)] ++ rest)) 1 (n % 250) 250 3 = some (n, 4) := by
      have hn2 : n / 250 ≤ (18446744073709551615 - n % 250) / 250 := by omega
      unfold rgEnd
      rw [if_neg (by simp; omega), if_neg (by simp; omega)]
      simp
      omega
    rw [e, rgGo, if_pos (by simp), if_neg (by simp; omega), rgGo, if_neg (by simp; omega)]
    have e2 : 0 + 1 * (((1 : Int) :: ([250, ((n % 250 : Nat) : Int), ((n / 250 : Nat) : Int)] ++ rest)).getD (1 + 1) 0).toNat = n % 250 := by simp; omega
    rw [e2]
    exact d

set_option maxRecDepth 20000 in
set_option maxHeartbeats 2000000 in
theorem rgetcut_does (w : World) (g : Nat) (zs : List Int) (p L : Nat) (hi : RIn w g zs p) (hL : L ≤ 32) (hp : 8 * zs.length - p < L) (hl : zs.length ≤ 2 ^ 40) :
    Does Try.prog 59 #[.pointer (some ⟨g, 0, none⟩), .int .i64 (L : Int)] w fun r w' => r = .tuple #[.int .u64 0, .int .i64 5] ∧ Ext w w' := by
  refine does2 Try.func59 rfl (by kernel_rfl) ?_
  have hle := hi.le
  refine goL ?_
  refine xcall rfl rfl (rleft_does w g zs p hi hl) (fun r w1 h1 => ?_)
  obtain ⟨rfl, hE1⟩ := h1
  refine goL ?_
  exact tret2 rfl rfl rfl ⟨rfl, hE1⟩
end Eng
end Go.Proofs.Ytighkjohpmlemaa
