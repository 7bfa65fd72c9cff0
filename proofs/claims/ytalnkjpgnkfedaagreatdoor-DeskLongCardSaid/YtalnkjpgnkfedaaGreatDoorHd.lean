/-
  Package bits: From, Left, Get and Rest.
-/
import Derived.Test.YtalnkjpgnkfedaaGreatDoorHa
namespace Go.Proofs.YtalnkjpgnkfedaaGreatDoor
open Go.RowKit
namespace Eng

def Byts (zs : List Int) : Prop := ∀ z ∈ zs, 0 ≤ z ∧ z < 256

/-- Block g is an In over these bytes; p bits are taken. -/
structure InR (w : World) (g : Nat) (zs : List Int) (p : Nat) : Prop where
  ex : ∃ v, Blk w g 428 #[v, .int .i64 (p : Int)] ∧ BRow w v zs ∧ ∀ b, v.ownBlock = some b → b < g
  le : p ≤ 8 * zs.length
  by_ : Byts zs

theorem InR.ext {w w' : World} {g : Nat} {zs : List Int} {p : Nat} (h : InR w g zs p) (hf : Ext w w') : InR w' g zs p := by
  obtain ⟨⟨v, h1, h2, h3⟩, h4, h5⟩ := h
  exact ⟨⟨v, h1.ext hf, h2.ext hf, h3⟩, h4, h5⟩
theorem InR.lt {w : World} {g : Nat} {zs : List Int} {p : Nat} (h : InR w g zs p) : g < w.heap.size := by
  obtain ⟨⟨v, h1, _⟩, _⟩ := h
  exact h1.lt

set_option maxRecDepth 20000 in
set_option maxHeartbeats 1000000 in
theorem from_does (w : World) (v : Value) (zs : List Int) (hv : BRow w v zs) (hb : Byts zs) (hl : zs.length ≤ 2 ^ 40) :
    Does Tryz.prog 317 #[v] w fun r w' => ∃ g, r = .pointer (some ⟨g, 0, none⟩) ∧ w.heap.size ≤ g ∧ InR w' g zs 0 ∧ Ext w w' := by
  have hrow := hv
  obtain ⟨A, c, rfl, hc, hcm, hA⟩ := hv
  refine does1 Tryz.func317 rfl (by kernel_rfl) ?_
  refine wk ?_
  refine xap sl_bytes rfl rfl (Own.nil w w.heap.size _) rfl hrow (by simp) (fun u hu => by obtain ⟨z, _, rfl⟩ := List.mem_map.1 hu; rfl) (by unfold maxLen; simp; omega) (by simp; omega) (Nat.le_refl _) (fun v1 w1 hown hF _ => ?_)
  rw [List.nil_append] at hown
  have hE : Ext w w1 := hF.mono fun k _ e => by simp [Value.ownBlock] at e
  obtain ⟨A1, c1, rfl, h1, h2⟩ := hown.form
  refine xbd (cells := #[.slice A1 (zs.map (Value.int .u8)).length c1, .int .i64 0]) rfl (by kernel_rfl) ?_
  refine xbox rfl (fun w2 hB2 hE2 hs2 => ?_)
  refine wk ?_
  refine tret1 rfl rfl ⟨w1.heap.size, rfl, hE.size, ⟨⟨_, hB2, ?_, ?_⟩, by simp, hb⟩, hE.te hE2 fun _ _ hh => hh⟩
  · have := hown.row.ext hE2
    rw [List.length_map] at this ⊢
    exact this
  · intro b e
    exact (hown.blk e).2

set_option maxRecDepth 20000 in
set_option maxHeartbeats 1000000 in
theorem left_does (w : World) (g : Nat) (zs : List Int) (p : Nat) (hi : InR w g zs p) (hl : zs.length ≤ 2 ^ 40) :
    Does Tryz.prog 351 #[.pointer (some ⟨g, 0, none⟩)] w fun r w' => r = .int .i64 ((8 * zs.length - p : Nat) : Int) ∧ w' = w.drew := by
  obtain ⟨⟨v, hB, ⟨A, c, rfl, hc, hcm, hA⟩, hne⟩, hle, hby⟩ := hi
  have hc0 : w.cell? ⟨g, 0, none⟩ = some (.slice A zs.length c) := hB.cell 0
  have hc1 : w.cell? ⟨g, 1, none⟩ = some (.int .i64 (p : Int)) := hB.cell 1
  refine does1 Tryz.func351 rfl (by kernel_rfl) ?_
  refine wk ?_
  exact tret1 rfl rfl ⟨by congr 1; omega, rfl⟩

theorem bit_or8 (p m : Nat) (hp : p < 2 ^ 63) (hm : m < 256) : bits .or .u64 (2 * (p : Int)) (IntKind.u64.wrap (bits .and .u8 (m : Int) 1)) = ((2 * p + m % 2 : Nat) : Int) := by
  have e1 : bits .and .u8 (m : Int) 1 = ((m % 2 : Nat) : Int) := by
    have := u8_and_nat m 1 (by omega) (by omega)
    rw [nat_mask1] at this
    exact this
  rw [e1, u64_in _ (by omega) (by omega)]
  have e2 : (2 * (p : Int)) = ((2 * p : Nat) : Int) := by omega
  rw [e2, u64_or_nat _ _ (by omega) (by omega), nat_join 1 (2 * p) (m % 2) (by omega) (by omega)]

structure GetI (g : Nat) (zs : List Int) (p L : Nat) (w0 : World) (j : Nat) (w : World) : Prop where
  le : j ≤ L
  in_ : InR w g zs (p + j)
  fr : Fr (· = g) w0 w

theorem bitAt_def (zs : List Int) (q : Nat) (z : Int) (hz : zs[q / 8]? = some z) : bitAt zs q = z.toNat / 2 ^ (7 - q % 8) % 2 := by
  unfold bitAt; rw [List.getD_eq_getElem?_getD, hz]; rfl

set_option maxRecDepth 20000 in
set_option maxHeartbeats 2000000 in
theorem get_does (w : World) (g : Nat) (zs : List Int) (p L : Nat) (hi : InR w g zs p) (hL : L ≤ 32) (hl : zs.length ≤ 2 ^ 40) :
    Does Tryz.prog 336 #[.pointer (some ⟨g, 0, none⟩), .int .i64 (L : Int)] w fun r w' =>
      (8 * zs.length - p < L ∧ r = .tuple #[.int .u64 0, .int .i64 5] ∧ InR w' g zs p ∧ Fr (· = g) w w') ∨
      (L ≤ 8 * zs.length - p ∧ r = .tuple #[.int .u64 (val (unpk zs p L) : Int), .int .i64 0] ∧ InR w' g zs (p + L) ∧ Fr (· = g) w w') := by
  have hple := hi.le
  refine does2 Tryz.func336 rfl (by kernel_rfl) ?_
  refine wk ?_
  refine tscope1 (α := Nat) 0 rfl (fun j => [(0, .pointer (some ⟨g, 0, none⟩)), (6, .int .u64 (val (unpk zs p j) : Int)), (7, .int .i64 ((p + L : Nat) : Int))]) (fun j w1 => GetI g zs p L w j w1 ∧ p + L ≤ 8 * zs.length) (fun j => L - j) ?_ ?_
  · rintro j w1 ⟨⟨hj, hin, hfr⟩, hpl⟩
    obtain ⟨⟨v, hB, hrow, hne⟩, hle, hby⟩ := hin
    obtain ⟨A, c, rfl, hc, hcm, hA⟩ := id hrow
    have hc0 : w1.cell? ⟨g, 0, none⟩ = some (.slice A zs.length c) := hB.cell 0
    have hc1 : w1.cell? ⟨g, 1, none⟩ = some (.int .i64 ((p + j : Nat) : Int)) := hB.cell 1
    by_cases hlt : j < L
    · obtain ⟨b, o, z, rfl, hb, hz, hcell, _⟩ := at_row hA (i := (p + j) / 8) (by omega)
      have hzb := hby z (List.mem_of_getElem? hz)
      have hvl : val (unpk zs p j) < 2 ^ 63 := Nat.lt_of_lt_of_le (val_lt (bits_unpk _ _ _)) (by rw [length_unpk]; exact Nat.pow_le_pow_right (by decide) (by omega))
      refine wk ?_
      refine xshl (r := 2 * (val (unpk zs p j) : Int)) rfl rfl (by decide) (by decide) (by
        have e : (val (unpk zs p j) : Int) * 2 ^ (1 : Int).toNat = 2 * (val (unpk zs p j) : Int) := by show (val (unpk zs p j) : Int) * 2 = _; omega
        rw [e]; exact u64_in _ (by omega) (by omega)) ?_
      refine wk ?_
      refine xix1 rfl rfl rfl (by omega) (by omega) ?_
      rw [show (((p + j : Nat) : Int) / 8).toNat = (p + j) / 8 from by omega]
      refine wk ?_
      refine xshr rfl rfl (by omega) (by simp [IntKind.bits]; omega) ?_
      obtain ⟨y, rfl⟩ := Int.eq_ofNat_of_zero_le hzb.1
      refine xbits (r := bits .and .u8 ((y / 2 ^ (7 - (p + j) % 8) : Nat) : Int) 1) rfl rfl (.inl rfl) (by
        have e : ((7 : Int) - ((p + j : Nat) : Int) % 8).toNat = 7 - (p + j) % 8 := by omega
        rw [e, shr_nat]) ?_
      refine xcv (k := .u64) rfl rfl rfl rfl ?_
      refine xbits (r := (val (unpk zs p (j + 1)) : Int)) rfl rfl (.inr (.inl rfl)) (by
        rw [bit_or8 _ _ hvl (Nat.lt_of_le_of_lt (Nat.div_le_self _ _) (by omega)), unpk_succ, val_snoc, bitAt_def zs (p + j) y hz]; simp) ?_
      refine wk ?_
      refine xstb hB rfl rfl rfl rfl rfl (fun w2 hB2 hF2 => ?_)
      refine wk ?_
      have hF : Fr (· = g) w1 w2 := (Fr.drew _ _).t hF2
      exact tgoto rfl ⟨_, (by show L - (j + 1) < L - j; omega), rfl, j + 1, sub ⟨rfl, rfl, rfl⟩, ⟨⟨by omega, ⟨⟨_, hB2, hrow.fr hF (fun b hb e => absurd (hne b hb) (by have e' : b = g := e; omega)), hne⟩, by omega, hby⟩, hfr.t hF⟩, hpl⟩, rfl⟩
    · obtain rfl : j = L := by omega
      refine wk ?_
      exact tret2 rfl rfl rfl (.inr ⟨by omega, rfl, ⟨⟨_, hB, hrow, hne⟩, hle, hby⟩, hfr⟩)
  · intro H
    refine wk ?_
    refine xcall rfl rfl (left_does w g zs p hi hl) (fun v w1 h1 => ?_)
    obtain ⟨rfl, rfl⟩ := h1
    have hi' := hi
    obtain ⟨⟨v, hB, hrow, hne⟩, hle, hby⟩ := hi'
    have hc1 : w.drew.cell? ⟨g, 1, none⟩ = some (.int .i64 (p : Int)) := hB.cell 1
    repeat' (first | refine wk1 ?_ | refine xcs rfl rfl rfl (fun hc => ?_) (fun hc => ?_) | fail)
    · exact tret2 rfl rfl rfl (.inl ⟨by omega, rfl, hi.ext (Fr.drew _ _), Fr.drew _ _⟩)
    · refine tlabel ?_
      exact tweak (H 0 w.drew ⟨⟨by omega, hi.ext (Fr.drew _ _), Fr.drew _ _⟩, by omega⟩) (sub ⟨rfl, rfl, rfl⟩)

/-- Only the filling is left. -/
def restB (zs : List Int) (p : Nat) : Bool := decide (8 * zs.length - p < 8) && decide (val (unpk zs p (8 * zs.length - p)) = 0)

theorem low_bits (zs : List Int) (hb : Byts zs) (n : Nat) (hn : zs.length = n + 1) (y : Nat) (hy : zs[n]? = some (y : Int)) (l : Nat) (hl : l < 8) (h0 : 0 < l) : val (unpk zs (8 * zs.length - l) l) = y % 2 ^ l := by
  have hy2 : y < 256 := by have := hb _ (List.mem_of_getElem? hy); omega
  have : ∀ k, k ≤ l → val (unpk zs (8 * zs.length - l) k) = y / 2 ^ (l - k) % 2 ^ k := by
    intro k
    induction k with
    | zero => intro _; simp [unpk, val, Nat.mod_one]
    | succ k ih =>
      intro hk
      rw [unpk_succ, val_snoc, ih (by omega)]
      have e1 : (8 * zs.length - l + k) / 8 = n := by omega
      have e2 : 7 - (8 * zs.length - l + k) % 8 = l - (k + 1) := by omega
      rw [bitAt_def zs _ y (by rw [e1]; exact hy), e2, Int.toNat_natCast]
      have e3 : l - k = (l - (k + 1)) + 1 := by omega
      rw [e3, Nat.pow_succ, ← Nat.div_div_eq_div_mul]
      generalize y / 2 ^ (l - (k + 1)) = q
      rw [Nat.pow_succ', Nat.mod_mul]
      omega
  have := this l (Nat.le_refl _)
  simpa using this

end Eng
end Go.Proofs.YtalnkjpgnkfedaaGreatDoor
