/-
  Package huff: what May, symbol and the library's Min and Max return. Package bits: what the methods of Out and In do. Package bits: spread and Bytes.
-/
import Derived.Test.YtalnkjpgnkfedaaGreatDoorMem
/-! Package huff: what May, symbol and the library's Min and Max return. -/
namespace Go.Proofs.YtalnkjpgnkfedaaGreatDoor
open Go.RowKit
namespace Eng

/-- The valid lengths of a code. -/
def hmayGo : List Int → Int → Int → Bool
  | [], codes, sum => if codes = 1 then decide (sum = 2048) else decide (codes = 0) || decide (sum = 4096)
  | n :: r, codes, sum => if n < 0 ∨ 12 < n then false else if 0 < n then hmayGo r (codes + 1) (sum + p2 (12 - n)) else hmayGo r codes sum
def mayB (zs : List Int) : Bool := decide (zs.length ≤ 400) && hmayGo zs 0 0

structure MayI (zs : List Int) (w0 : World) (x : Nat × Int × Int) (w : World) : Prop where
  w : w = w0
  len : zs.length ≤ 400
  k : x.1 ≤ zs.length
  c0 : 0 ≤ x.2.1
  c1 : x.2.1 ≤ x.1
  s0 : 0 ≤ x.2.2
  s1 : x.2.2 ≤ 4096 * x.1
  go : hmayGo (zs.drop x.1) x.2.1 x.2.2 = hmayGo zs 0 0

theorem hmayGo_nil (c s : Int) : hmayGo [] c s = if c = 1 then decide (s = 2048) else decide (c = 0) || decide (s = 4096) := rfl
theorem hmayGo_cons (n : Int) (r : List Int) (c s : Int) : hmayGo (n :: r) c s = if n < 0 ∨ 12 < n then false else if 0 < n then hmayGo r (c + 1) (s + p2 (12 - n)) else hmayGo r c s := rfl

set_option maxRecDepth 20000 in
set_option maxHeartbeats 1000000 in
theorem hmay_does (w : World) (v : Value) (zs : List Int) (hv : IRow w v zs) : Does Tryz.prog 309 #[v] w fun r w' => r = .bool (mayB zs) ∧ w = w' := by
  obtain ⟨A, c, rfl, hc, hcm, hA⟩ := hv
  unfold maxLen at hcm
  refine does1 Tryz.func309 rfl (by kernel_rfl) ?_
  refine wk ?_
  refine tscope1 (α := Nat × Int × Int) 0 rfl (fun x => [(0, .slice A zs.length c), (3, .int .i64 (x.1 : Int)), (4, .int .i64 x.2.1), (5, .int .i64 x.2.2)])
    (MayI zs w) (fun x => zs.length - x.1) ?_ ?_
  · rintro ⟨k, cd, sm⟩ w' ⟨rfl, h4, hk, hc0, hc1, hs0, hs1, hgo⟩
    dsimp only at h4 hk hc0 hc1 hs0 hs1 hgo ⊢
    by_cases hlt : k < zs.length
    · obtain ⟨b, o, z, rfl, hb, hz, hcell, hdrop⟩ := at_row hA hlt
      rw [hdrop, hmayGo_cons] at hgo
      by_cases h0 : z < 0 ∨ 12 < z
      · rw [if_pos h0] at hgo
        repeat' (first | refine wk1 ?_ | refine xcs rfl rfl rfl (fun hc => ?_) (fun hc => ?_) | fail)
        all_goals first | omega | exact tret1 rfl rfl ⟨by simp [mayB, ← hgo], rfl⟩
      · rw [if_neg h0] at hgo
        by_cases h1 : 0 < z
        · rw [if_pos h1] at hgo
          have hp := p2_pos (12 - z)
          have hp' : p2 (12 - z) ≤ 2 ^ 12 := p2_le (by omega)
          refine wk ?_
          refine xshl (r := p2 (12 - z)) rfl rfl (by omega) (by simp [IntKind.bits]; omega) (by rw [Int.one_mul]; exact IntWalk.i64_in _ (by unfold p2 at *; omega)) ?_
          refine wk ?_
          exact tgoto rfl ⟨_, by dsimp only; omega, rfl, (k + 1, cd + 1, sm + p2 (12 - z)), sub ⟨rfl, rfl, rfl, rfl⟩, ⟨rfl, h4, by dsimp only; omega, by dsimp only; omega, by dsimp only; omega, by dsimp only; omega, by dsimp only; omega, hgo⟩, rfl⟩
        · rw [if_neg h1] at hgo
          refine wk ?_
          exact tgoto rfl ⟨_, by dsimp only; omega, rfl, (k + 1, cd, sm), sub ⟨rfl, rfl, rfl, rfl⟩, ⟨rfl, h4, by dsimp only; omega, by dsimp only; omega, by dsimp only; omega, by dsimp only; omega, by dsimp only; omega, hgo⟩, rfl⟩
    · rw [List.drop_eq_nil_of_le (by omega), hmayGo_nil] at hgo
      have hm : mayB zs = if cd = 1 then decide (sm = 2048) else decide (cd = 0) || decide (sm = 4096) := by rw [hgo]; simp [mayB, h4]
      repeat' (first | refine wk1 ?_ | refine xcs rfl rfl rfl (fun hc => ?_) (fun hc => ?_) | fail)
      all_goals exact tret1 rfl rfl ⟨by rw [hm]; simp [*], rfl⟩
  · intro H
    repeat' (first | refine wk1 ?_ | refine xcs rfl rfl rfl (fun hc => ?_) (fun hc => ?_) | fail)
    · exact tret1 rfl rfl ⟨by simp [mayB]; omega, rfl⟩
    · refine tlabel ?_
      exact tweak (H (0, 0, 0) w ⟨rfl, by omega, by simp, by simp, by simp, by simp, by simp, by simp⟩) (sub ⟨rfl, rfl, rfl, rfl⟩)
end Eng
end Go.Proofs.YtalnkjpgnkfedaaGreatDoor

/-! Package bits: what the methods of Out and In do. -/
namespace Go.Proofs.YtalnkjpgnkfedaaGreatDoor
open Go.RowKit
namespace Eng

/-- Full words, the last first. -/
def Chain (w : World) : Option Addr → List Nat → Prop
  | p, [] => p = none
  | p, x :: r => ∃ b p', p = some ⟨b, 0, none⟩ ∧ Blk w b 385 #[.pointer p', .int .u64 (x : Int)] ∧ Chain w p' r

theorem Chain.fr {S : Nat → Prop} {w w' : World} (hf : Fr S w w') (hS : ∀ b cs, Blk w b 385 cs → ¬ S b) : ∀ {ws : List Nat} {p : Option Addr}, Chain w p ws → Chain w' p ws
  | [], _, h => h
  | _ :: _, _, ⟨b, p', e, hB, hc⟩ => ⟨b, p', e, hB.fr hf (hS b _ hB), Chain.fr hf hS hc⟩

/-- Block g is an Out that holds these bits. -/
structure OutR (w : World) (g : Nat) (bs : List Nat) : Prop where
  ex : ∃ p ws tl, Blk w g 354 #[.pointer p, .int .u64 (val tl : Int), .int .i64 (bs.length : Int)] ∧ Chain w p ws ∧ bs = ws.reverse.flatMap (bitsOf · 64) ++ tl ∧ tl.length < 64 ∧ Bits tl ∧ ∀ x ∈ ws, x < 2 ^ 64

theorem OutR.bits {w : World} {g : Nat} {bs : List Nat} (h : OutR w g bs) : Bits bs := by
  obtain ⟨p, ws, tl, _, _, rfl, _, hb, _⟩ := h.ex
  intro b hb'
  rcases List.mem_append.1 hb' with h' | h'
  · obtain ⟨x, _, hx⟩ := List.mem_flatMap.1 h'
    exact bits_bitsOf _ _ b hx
  · exact hb b h'
theorem OutR.lt {w : World} {g : Nat} {bs : List Nat} (h : OutR w g bs) : g < w.heap.size := by
  obtain ⟨p, ws, tl, hB, _⟩ := h.ex
  exact hB.lt
theorem OutR.fr {S : Nat → Prop} {w w' : World} {g : Nat} {bs : List Nat} (h : OutR w g bs) (hf : Fr S w w') (hg : ¬ S g) (hS : ∀ b cs, Blk w b 385 cs → ¬ S b) : OutR w' g bs := by
  obtain ⟨p, ws, tl, hB, hc, r⟩ := h.ex
  exact ⟨⟨p, ws, tl, hB.fr hf hg, hc.fr hf hS, r⟩⟩
theorem OutR.ext {w w' : World} {g : Nat} {bs : List Nat} (h : OutR w g bs) (hf : Ext w w') : OutR w' g bs := h.fr hf (fun hh => hh) fun _ _ _ hh => hh
theorem OutR.new {w : World} {g : Nat} (hB : Blk w g 354 #[.pointer none, .int .u64 0, .int .i64 0]) : OutR w g [] :=
  ⟨⟨none, [], [], hB, rfl, rfl, by simp, fun b hb => (by cases hb), by simp⟩⟩

theorem words_length (ws : List Nat) : (ws.reverse.flatMap (bitsOf · 64)).length = 64 * ws.length := by
  induction ws with
  | nil => rfl
  | cons x r ih => simp only [List.reverse_cons, List.flatMap_append, List.length_append, ih, List.length_cons, List.flatMap_cons, List.flatMap_nil, List.append_nil, length_bitsOf]; omega

/-- One bit behind another. -/
theorem bit_or (p m : Nat) (hp : p < 2 ^ 63) (hm : m < 2 ^ 64) : bits .or .u64 (2 * (p : Int)) (bits .and .u64 (m : Int) 1) = ((2 * p + m % 2 : Nat) : Int) := by
  have e1 : bits .and .u64 (m : Int) 1 = ((m % 2 : Nat) : Int) := by
    have := u64_and_nat m 1 (by omega) (by omega)
    rw [nat_mask1] at this
    exact this
  rw [e1]
  have e2 : (2 * (p : Int)) = ((2 * p : Nat) : Int) := by omega
  rw [e2, u64_or_nat _ _ (by omega) (by omega), nat_join 1 (2 * p) (m % 2) (by omega) (by omega)]

theorem shr_nat (n k : Nat) : (n : Int) / 2 ^ k = ((n / 2 ^ k : Nat) : Int) := by
  rw [Int.natCast_ediv, Int.natCast_pow]; rfl

structure PutI (g : Nat) (bs : List Nat) (n L : Nat) (w0 : World) (m : Nat) (w : World) : Prop where
  le : m ≤ L
  out : OutR w g (bs ++ (bitsOf n L).take (L - m))
  fr : Fr (· = g) w0 w

theorem hieq {k : IntKind} {a b : Int} (h : a = b) : (some (.int k a) : Option Value) = some (.int k b) := by rw [h]

theorem bitsOf_take_succ (n L j : Nat) (h : j < L) : (bitsOf n L).take (j + 1) = (bitsOf n L).take j ++ [n / 2 ^ (L - j - 1) % 2] := by
  have hl := length_bitsOf n L
  rw [List.take_succ_eq_append_getElem (by omega)]
  congr 2
  have : ∀ (L j : Nat) (h : j < (bitsOf n L).length), (bitsOf n L)[j] = n / 2 ^ (L - j - 1) % 2 := by
    intro L
    induction L with
    | zero => intro j h; simp [bitsOf] at h
    | succ L ih =>
      intro j h
      cases j with
      | zero => simp [bitsOf]
      | succ j =>
        simp only [bitsOf, List.getElem_cons_succ]
        rw [ih j (by simpa [bitsOf] using h)]
        congr 3; omega
  exact this L j _

set_option maxRecDepth 20000 in
set_option maxHeartbeats 2000000 in
theorem outPut_does (w : World) (g : Nat) (bs : List Nat) (n L : Nat) (ho : OutR w g bs) (hn : n < 2 ^ 64) (hL : L ≤ 32) (hlen : bs.length ≤ 2 ^ 40) :
    Does Tryz.prog 275 #[.pointer (some ⟨g, 0, none⟩), .int .u64 (n : Int), .int .i64 (L : Int)] w fun r w' => r = .int .i64 0 ∧ OutR w' g (bs ++ bitsOf n L) ∧ Fr (· = g) w w' := by
  refine does3 Tryz.func275 rfl (by kernel_rfl) ?_
  refine wk ?_
  refine tscope1 (α := Nat) 0 rfl (fun m => [(0, .pointer (some ⟨g, 0, none⟩)), (1, .int .u64 (n : Int)), (7, .int .i64 (m : Int))]) (PutI g bs n L w) (fun m => m) ?_ ?_
  · intro m w1 hI
    obtain ⟨hm, hout, hfr⟩ := hI
    cases m with
    | succ m =>
      obtain ⟨p, ws, tl, hB, hch, hbs, htl, htb, hws⟩ := hout.ex
      have hlen1 : (bs ++ (bitsOf n L).take (L - (m + 1))).length = 64 * ws.length + tl.length := by rw [hbs, List.length_append, words_length]
      have hlen2 : (bs ++ (bitsOf n L).take (L - (m + 1))).length = bs.length + (L - (m + 1)) := by simp [length_bitsOf]
      rw [hlen1] at hB hlen2
      have hv : val tl < 2 ^ 63 := Nat.lt_of_lt_of_le (val_lt htb) (Nat.pow_le_pow_right (by decide) (by omega))
      have hc0 : w1.cell? ⟨g, 0, none⟩ = some (.pointer p) := hB.cell 0
      have hc1 : w1.cell? ⟨g, 1, none⟩ = some (.int .u64 (val tl : Int)) := hB.cell 1
      refine wk ?_
      refine xshl (r := 2 * (val tl : Int)) rfl rfl (by decide) (by decide) (by
        have e : (val tl : Int) * 2 ^ (1 : Int).toNat = 2 * (val tl : Int) := by show (val tl : Int) * 2 = _; omega
        rw [e]; exact u64_in _ (by omega) (by omega)) ?_
      refine wk ?_
      refine xshr rfl rfl (by omega) (by simp [IntKind.bits]; omega) ?_
      refine xbits (r := bits .and .u64 ((n / 2 ^ m : Nat) : Int) 1) rfl rfl (.inl rfl) (by
        have e : ((((m + 1 : Nat) : Int) - 1).toNat) = m := by omega
        rw [e, shr_nat]) ?_
      have hbit : n / 2 ^ m % 2 < 2 := by omega
      have hq : n / 2 ^ m < 2 ^ 64 := Nat.lt_of_le_of_lt (Nat.div_le_self _ _) hn
      refine xbits (r := ((2 * val tl + n / 2 ^ m % 2 : Nat) : Int)) rfl rfl (.inr (.inl rfl)) (bit_or _ _ hv hq) ?_
      have hvs : 2 * val tl + n / 2 ^ m % 2 = val (tl ++ [n / 2 ^ m % 2]) := (val_snoc _ _).symm
      rw [hvs]
      generalize hb' : n / 2 ^ m % 2 = b at *
      have htb' : Bits (tl ++ [b]) := by
        intro x hx
        rcases List.mem_append.1 hx with h' | h'
        · exact htb x h'
        · have : x = b := by simpa using h'
          omega
      refine wk ?_
      refine xstb hB rfl rfl rfl rfl rfl (fun w2 hB2 hF2 => ?_)
      have hB2 : Blk w2 g 354 #[.pointer p, .int .u64 (val (tl ++ [b]) : Int), .int .i64 ((64 * ws.length + tl.length : Nat) : Int)] := hB2
      have hc2 : w2.cell? ⟨g, 2, none⟩ = some (.int .i64 ((64 * ws.length + tl.length : Nat) : Int)) := hB2.cell 2
      refine wk ?_
      refine xstb hB2 rfl rfl rfl rfl rfl (fun w3 hB3 hF3 => ?_)
      have hB3 : Blk w3 g 354 #[.pointer p, .int .u64 (val (tl ++ [b]) : Int), .int .i64 (((64 * ws.length + tl.length : Nat) : Int) + 1)] := hB3
      have hc30 : w3.cell? ⟨g, 0, none⟩ = some (.pointer p) := hB3.cell 0
      have hc31 : w3.cell? ⟨g, 1, none⟩ = some (.int .u64 (val (tl ++ [b]) : Int)) := hB3.cell 1
      have hc32 : w3.cell? ⟨g, 2, none⟩ = some (.int .i64 (((64 * ws.length + tl.length : Nat) : Int) + 1)) := hB3.cell 2
      have hF : Fr (· = g) w1 w3 := ((Fr.drew _ _).t hF2).t hF3
      have hch3 : Chain w3 p ws := hch.fr hF fun b cs hb e => hb.ne_ hB (by decide) e
      have hbits : bs ++ (bitsOf n L).take (L - m) = ws.reverse.flatMap (bitsOf · 64) ++ (tl ++ [b]) := by
        rw [show L - m = (L - (m + 1)) + 1 from by omega, bitsOf_take_succ n L _ (by omega), ← List.append_assoc, hbs, show L - (L - (m + 1)) - 1 = m from by omega, hb', List.append_assoc]
      have hlen3 : (bs ++ (bitsOf n L).take (L - m)).length = 64 * ws.length + tl.length + 1 := by rw [hbits, List.length_append, words_length]; simp; omega
      by_cases h63 : tl.length = 63
      · refine wk ?_
        refine xbd (cells := #[.pointer p, .int .u64 (val (tl ++ [b]) : Int)]) rfl (by kernel_rfl) ?_
        refine xbox rfl (fun w4 hB4 hF4 hsz4 => ?_)
        have hB4g := hB3.ext (w' := w4) ((Fr.drew _ _).te hF4)
        refine wk ?_
        refine xstb hB4g rfl rfl rfl rfl rfl (fun w5 hB5 hF5 => ?_)
        refine wk ?_
        refine xstb hB5 rfl rfl rfl rfl rfl (fun w6 hB6 hF6 => ?_)
        refine wk ?_
        have hF36 : Fr (· = g) w3 w6 := (((Fr.drew _ _).te hF4).t hF5).t hF6
        have hB6' : Blk w6 g 354 #[.pointer (some ⟨w3.heap.size, 0, none⟩), .int .u64 ((val ([] : List Nat) : Nat) : Int), .int .i64 ((bs ++ (bitsOf n L).take (L - m)).length : Int)] := by
          rw [hlen3]; exact hB6
        have hg3 := hB3.lt
        have hB46 : Blk w6 w3.heap.size 385 #[.pointer p, .int .u64 (val (tl ++ [b]) : Int)] := Blk.fr (w := w4) hB4 (hF5.t hF6) (by show ¬ w3.heap.size = g; omega)
        have hcw : Chain w6 p ws := hch3.fr hF36 fun b cs hb e => hb.ne_ hB3 (by decide) e
        have hl64 : (tl ++ [b]).length = 64 := by simp; omega
        exact tgoto rfl ⟨_, (by show m < m + 1; omega), rfl, m, sub ⟨rfl, rfl, hieq (by omega)⟩, ⟨by omega, ⟨⟨_, val (tl ++ [b]) :: ws, [], hB6', ⟨_, _, rfl, hB46, hcw⟩, by
          rw [hbits]
          have := bitsOf_val' htb'
          rw [hl64] at this
          simp [List.flatMap_append, this], by simp, fun x hx => (by cases hx), fun x hx => by
            rcases List.mem_cons.1 hx with rfl | h'
            · have := val_lt htb'; rw [hl64] at this; exact this
            · exact hws x h'⟩⟩, (hfr.t hF).t hF36⟩, rfl⟩
      · refine wk ?_
        exact tgoto rfl ⟨_, (by show m < m + 1; omega), rfl, m, sub ⟨rfl, rfl, hieq (by omega)⟩, ⟨by omega, ⟨⟨p, ws, tl ++ [b], by rw [hlen3]; exact hB3, hch3, hbits, by simp; omega, htb', hws⟩⟩, hfr.t hF⟩, rfl⟩
    | zero =>
      refine wk ?_
      exact tret1 rfl rfl ⟨rfl, by simpa [List.take_of_length_le, length_bitsOf] using hout, hfr⟩
  · intro H
    refine wk ?_
    refine tlabel ?_
    exact tweak (H L w ⟨by omega, by simpa using ho, Fr.refl _ _⟩) (sub ⟨rfl, rfl, rfl⟩)
end Eng
end Go.Proofs.YtalnkjpgnkfedaaGreatDoor

/-! Package bits: spread and Bytes. -/
namespace Go.Proofs.YtalnkjpgnkfedaaGreatDoor
open Go.RowKit
namespace Eng

/-- Block b is a row of these bytes. -/
def BB (w : World) (b : Nat) (l : List Int) : Prop := Blk w b 5 (l.map (Value.int .u8)).toArray

theorem BB.lt {w : World} {b : Nat} {l : List Int} (h : BB w b l) : b < w.heap.size := Blk.lt h
theorem BB.fr {S : Nat → Prop} {w w' : World} {b : Nat} {l : List Int} (h : BB w b l) (hf : Fr S w w') (hS : ¬ S b) : BB w' b l := Blk.fr h hf hS
theorem BB.row {w : World} {b : Nat} {l : List Int} (h : BB w b l) (hl : l.length ≤ maxLen) : BRow w (.slice (some ⟨b, 0, none⟩) l.length l.length) l :=
  ⟨_, _, rfl, Nat.le_refl _, hl, fun _ => ⟨b, 0, rfl, Blk.lt h, fun j u hu => by rw [Nat.zero_add, Blk.cell h]; simpa using hu⟩⟩

def byteOf (x k : Nat) : Nat := x / 2 ^ (56 - 8 * k) % 256
def spr (l : List Int) (o x : Nat) : Nat → List Int
  | 0 => l
  | k + 1 => (spr l o x k).set (o + k) (byteOf x k : Int)
theorem length_spr (l : List Int) (o x k : Nat) : (spr l o x k).length = l.length := by
  induction k with
  | zero => rfl
  | succ k ih => simp [spr, ih]
theorem spr_get (l : List Int) (o x k : Nat) (hk : o + k ≤ l.length) (j : Nat) : (spr l o x k)[j]? = if o ≤ j ∧ j < o + k then some (byteOf x (j - o) : Int) else l[j]? := by
  induction k with
  | zero => rw [if_neg (by omega)]; rfl
  | succ k ih =>
    rw [spr, List.getElem?_set, length_spr, ih (by omega)]
    by_cases h : o + k = j
    · subst h; rw [if_pos rfl, if_pos (by omega), if_pos (by omega)]; congr 2; congr 1; omega
    · rw [if_neg h]
      by_cases h2 : o ≤ j ∧ j < o + k
      · rw [if_pos h2, if_pos (by omega)]
      · rw [if_neg h2, if_neg (by omega)]

structure SprI (b o n x : Nat) (l : List Int) (w0 : World) (k : Nat) (w : World) : Prop where
  le : k ≤ n
  bb : BB w b (spr l o x k)
  fr : Fr (· = b) w0 w

theorem u8_wrap (a : Nat) : IntKind.u8.wrap (a : Int) = ((a % 256 : Nat) : Int) := by rw [IntKind.wrap_u8']; omega

set_option maxRecDepth 20000 in
set_option maxHeartbeats 1000000 in
theorem spread_does (w : World) (A : Option Addr) (b o n c x : Nat) (l : List Int) (hA : 0 < n → A = some ⟨b, o, none⟩) (hb : BB w b l) (hn : n ≤ 8) (ho : o + n ≤ l.length) :
    Does Tryz.prog 311 #[.slice A n c, .int .u64 (x : Int)] w fun r w' => r = .tuple #[] ∧ BB w' b (spr l o x n) ∧ Fr (· = b) w w' := by
  refine does2 Tryz.func311 rfl (by kernel_rfl) ?_
  refine tscope1 (α := Nat) 0 rfl (fun k => [(0, .slice A n c), (1, .int .u64 (x : Int)), (4, .int .i64 (k : Int))]) (SprI b o n x l w) (fun k => n - k) ?_ ?_
  · rintro k w1 ⟨hk, hbb, hfr⟩
    by_cases hlt : k < n
    · obtain rfl := hA (by omega)
      refine wk ?_
      refine xshr rfl rfl (by omega) (by simp [IntKind.bits]; omega) ?_
      refine xcv (k := .u8) (r := (byteOf x k : Int)) rfl rfl rfl (by
        have e : ((56 : Int) - 8 * (k : Int)).toNat = 56 - 8 * k := by omega
        rw [e, shr_nat, u8_wrap]; rfl) ?_
      refine wk ?_
      refine xstb hbb rfl rfl rfl rfl (by simp [length_spr]; omega) (fun w2 hB2 hF2 => ?_)
      refine wk ?_
      exact tgoto rfl ⟨_, (by show n - (k + 1) < n - k; omega), rfl, k + 1, sub ⟨rfl, rfl, rfl⟩, ⟨by omega, by
        unfold BB spr
        simp only [List.map_set]
        simpa using hB2, hfr.t hF2⟩, rfl⟩
    · obtain rfl : k = n := by omega
      refine wk ?_
      exact tret0 rfl ⟨rfl, hbb, hfr⟩
  · intro H
    refine wk ?_
    refine tlabel ?_
    exact tweak (H 0 w ⟨by omega, hb, Fr.refl _ _⟩) (sub ⟨rfl, rfl, rfl⟩)

/-- A byte of a word. -/
theorem byte_word (x q : Nat) (hx : x < 2 ^ 64) (hq : q < 8) (rest : List Nat) : byte8 ((bitsOf x 64).drop (8 * q) ++ rest) = byteOf x q := by
  have hl := length_bitsOf x 64
  have hB := bits_bitsOf x 64
  have h8 : 8 ≤ ((bitsOf x 64).drop (8 * q)).length := by rw [List.length_drop, hl]; omega
  unfold byte8 byteOf
  rw [List.take_append_of_le_length h8]
  have e0 : 8 - ((bitsOf x 64).drop (8 * q) ++ rest).length = 0 := by rw [List.length_append]; omega
  rw [e0, List.replicate_zero, List.append_nil]
  have hsplit : bitsOf x 64 = (bitsOf x 64).take (8 * q) ++ ((bitsOf x 64).drop (8 * q)).take 8 ++ (bitsOf x 64).drop (8 * q + 8) := by
    rw [List.append_assoc, ← List.drop_drop, List.take_append_drop, List.take_append_drop]
  have hv := val_part ((bitsOf x 64).take (8 * q)) (((bitsOf x 64).drop (8 * q)).take 8) ((bitsOf x 64).drop (8 * q + 8)) (fun b hb => hB b (List.mem_of_mem_drop (List.mem_of_mem_take hb))) (fun b hb => hB b (List.mem_of_mem_drop hb))
  rw [← hsplit, val_bitsOf, Nat.mod_eq_of_lt hx] at hv
  have e1 : ((bitsOf x 64).drop (8 * q + 8)).length = 56 - 8 * q := by rw [List.length_drop, hl]; omega
  have e2 : (((bitsOf x 64).drop (8 * q)).take 8).length = 8 := by simp [hl]; omega
  rw [e1, e2] at hv
  exact hv.symm

/-- A byte of the bits behind the words. -/
theorem byte_tail (tl : List Nat) (q : Nat) (hb : Bits tl) (hl : tl.length < 64) (hq : 8 * q < tl.length) : byte8 (tl.drop (8 * q)) = byteOf (val tl * 2 ^ (64 - tl.length)) q := by
  have hfull : Bits (tl ++ List.replicate (64 - tl.length) 0) := by
    intro b hb'
    rcases List.mem_append.1 hb' with h' | h'
    · exact hb b h'
    · have := (List.mem_replicate.1 h').2; omega
  have hlen : (tl ++ List.replicate (64 - tl.length) 0).length = 64 := by simp; omega
  have hbits := bitsOf_val' hfull
  rw [hlen, val_append_zeros] at hbits
  have hlt := val_lt hfull
  rw [hlen, val_append_zeros] at hlt
  have := byte_word (val tl * 2 ^ (64 - tl.length)) q hlt (by omega) []
  rw [hbits, List.append_nil] at this
  rw [← this]
  unfold byte8
  rw [List.drop_append_of_le_length (by omega)]
  by_cases h8 : 8 ≤ (tl.drop (8 * q)).length
  · rw [List.take_append_of_le_length h8]
    congr 2
    congr 1
    simp at h8 ⊢; omega
  · have e1 : (tl.drop (8 * q)).take 8 = tl.drop (8 * q) := List.take_of_length_le (by omega)
    rw [e1, List.take_append, e1]
    have e2 : 8 - (tl.drop (8 * q) ++ List.replicate (64 - tl.length) 0).length = 0 := by simp; omega
    rw [e2, List.replicate_zero, List.append_nil]
    congr 1
    congr 1
    rw [List.take_replicate]
    congr 1
    simp at h8 ⊢; omega

/-- The bytes of an Out, place by place. -/
theorem pk_get (ws tl : List Nat) (hws : ∀ x ∈ ws, x < 2 ^ 64) (ht : tl.length < 64) (hb : Bits tl) (bs : List Nat) (hbs : bs = ws.reverse.flatMap (bitsOf · 64) ++ tl) (j : Nat) (hj : j < (bs.length + 7) / 8) :
    (pk bs)[j]? = some (if j < 8 * ws.length then (byteOf (ws.reverse.getD (j / 8) 0) (j % 8) : Int) else (byteOf (val tl * 2 ^ (64 - tl.length)) (j - 8 * ws.length) : Int)) := by
  have hlen : bs.length = 64 * ws.length + tl.length := by rw [hbs, List.length_append, words_length]
  have e : (pk bs)[j]? = some (byte8 (bs.drop (8 * j)) : Int) := by simp [pk, hj]
  rw [e]
  congr 1
  split
  · rename_i h
    have key : ∀ (us : List Nat) (i q : Nat) (r : List Nat), (∀ x ∈ us, x < 2 ^ 64) → i < us.length → q < 8 → byte8 ((us.flatMap (bitsOf · 64) ++ r).drop (64 * i + 8 * q)) = byteOf (us.getD i 0) q := by
      intro us
      induction us with
      | nil => intro i q r _ hi; simp at hi
      | cons u us ih =>
        intro i q r hu hi hq
        have hl := length_bitsOf u 64
        cases i with
        | zero =>
          simp only [List.flatMap_cons, List.append_assoc, Nat.mul_zero, Nat.zero_add, List.getD_cons_zero]
          rw [List.drop_append_of_le_length (by omega)]
          exact byte_word u q (hu u (by simp)) hq _
        | succ i =>
          simp only [List.flatMap_cons, List.append_assoc, List.getD_cons_succ]
          rw [List.drop_append, show (bitsOf u 64).drop (64 * (i + 1) + 8 * q) = [] from List.drop_eq_nil_of_le (by omega), List.nil_append, hl, show 64 * (i + 1) + 8 * q - 64 = 64 * i + 8 * q from by omega]
          exact ih i q r (fun x hx => hu x (by simp [hx])) (by simpa using hi) hq
    have := key ws.reverse (j / 8) (j % 8) tl (fun x hx => hws x (by simpa using hx)) (by simp; omega) (by omega)
    rw [← hbs, show 64 * (j / 8) + 8 * (j % 8) = 8 * j from by omega] at this
    rw [this]
  · rename_i h
    have e2 : bs.drop (8 * j) = tl.drop (8 * (j - 8 * ws.length)) := by
      rw [hbs, List.drop_append, words_length, List.drop_eq_nil_of_le (by rw [words_length]; omega), List.nil_append]
      congr 1; omega
    rw [e2, byte_tail tl _ hb ht (by omega)]

structure BytI (g b : Nat) (bs : List Nat) (w0 : World) (n : Nat) (x : Option Addr × List Nat × List Int) (w : World) : Prop where
  ch : Chain w x.1 x.2.1
  lt : ∀ y ∈ x.2.1, y < 2 ^ 64
  bb : BB w b x.2.2
  len : x.2.2.length = (bs.length + 7) / 8
  le : 8 * x.2.1.length ≤ (bs.length + 7) / 8
  done : ∀ j, 8 * x.2.1.length ≤ j → x.2.2[j]? = (pk bs)[j]?
  todo : ∀ j, j < 8 * x.2.1.length → (pk bs)[j]? = some (byteOf (x.2.1.reverse.getD (j / 8) 0) (j % 8) : Int)
  ext : Ext w0 w
  b : w0.heap.size ≤ b
  n : n = (bs.length + 7) / 8

theorem sl_bytes : SlT 35 5 (.int .u8 0) 1 1 := slT Tryz.underlying35 (by kernel_rfl)
theorem hsl_ints : SlT 81 3 (.int .i64 0) 1 8 := slT Tryz.underlying81 (by kernel_rfl)

set_option maxRecDepth 20000 in
set_option maxHeartbeats 1000000 in
theorem hbytes_does (w : World) (g : Nat) (bs : List Nat) (ho : OutR w g bs) (hlen : bs.length ≤ 2 ^ 40) :
    Does Tryz.prog 277 #[.pointer (some ⟨g, 0, none⟩)] w fun r w' => ∃ b, r = .slice (some ⟨b, 0, none⟩) (pk bs).length (pk bs).length ∧ w.heap.size ≤ b ∧ BB w' b (pk bs) ∧ Ext w w' := by
  obtain ⟨p, ws, tl, hB, hch, hbs, htl, htb, hws⟩ := ho.ex
  have hlen1 : bs.length = 64 * ws.length + tl.length := by rw [hbs, List.length_append, words_length]
  have hv : val tl < 2 ^ tl.length := val_lt htb
  have hc0 : w.cell? ⟨g, 0, none⟩ = some (.pointer p) := hB.cell 0
  have hc1 : w.cell? ⟨g, 1, none⟩ = some (.int .u64 (val tl : Int)) := hB.cell 1
  have hc2 : w.cell? ⟨g, 2, none⟩ = some (.int .i64 (bs.length : Int)) := hB.cell 2
  refine does1 Tryz.func277 rfl (by kernel_rfl) ?_
  refine wk ?_
  refine tscope1 (α := Option Addr × List Nat × List Int) 0 rfl (fun x => [(3, .slice (some ⟨w.heap.size, 0, none⟩) ((bs.length + 7) / 8) ((bs.length + 7) / 8)), (4, .int .i64 ((8 * x.2.1.length : Nat) : Int)), (5, .pointer x.1)]) (BytI g w.heap.size bs w ((bs.length + 7) / 8)) (fun x => x.2.1.length) ?_ ?_
  · rintro ⟨q, us, l⟩ w1 ⟨hch, hlt, hbb, hl, hle, hdone, htodo, hext, hb, hn⟩
    dsimp only at hch hlt hbb hl hle hdone htodo
    cases us with
    | nil =>
      have hq : q = none := hch
      subst hq
      dsimp only
      refine wk ?_
      have hl2 : l = pk bs := List.ext_getElem? fun j => hdone j (by simp)
      subst hl2
      exact tret1 rfl rfl ⟨w.heap.size, by rw [hl], Nat.le_refl _, hbb, hext⟩
    | cons x us =>
      obtain ⟨b, q', rfl, hBx, hch'⟩ := hch
      have hx0 : w1.cell? ⟨b, 0, none⟩ = some (.pointer q') := hBx.cell 0
      have hx1 : w1.cell? ⟨b, 1, none⟩ = some (.int .u64 (x : Int)) := hBx.cell 1
      simp only [List.length_cons] at hle hdone htodo
      dsimp only [List.length_cons]
      refine wk ?_
      refine xsl2 rfl rfl rfl rfl (by omega) (by omega) (by omega) (fun A' hA' => ?_)
      refine wk ?_
      have e1 : (((8 * (us.length + 1) : Nat) : Int) - 8).toNat = 8 * us.length := by omega
      have e2 : (((8 * (us.length + 1) : Nat) : Int) - 8 + 8).toNat - (((8 * (us.length + 1) : Nat) : Int) - 8).toNat = 8 := by omega
      rw [e1, Nat.mul_one] at hA'
      rw [e2]
      refine xcall rfl rfl (spread_does w1.drew A' w.heap.size (8 * us.length) 8 _ x l (fun _ => by rw [hA' _ _ rfl (by omega), Nat.zero_add]) hbb (by omega) (by omega)) (fun v w2 h2 => ?_)
      obtain ⟨_, hbb2, hfr2⟩ := h2
      have hF : Fr (· = w.heap.size) w1 w2 := (Fr.drew _ _).t hfr2
      have hbne : b ≠ w.heap.size := fun e => Blk.ne_ hBx hbb (by decide) e
      have hx02 : w2.cell? ⟨b, 0, none⟩ = some (.pointer q') := hF.cell hx0 hbne
      refine wk ?_
      refine tgoto rfl ⟨_, (by show us.length < us.length + 1; omega), rfl, (q', us, spr l (8 * us.length) x 8), sub ⟨rfl, hieq (by dsimp only; omega), rfl⟩, ⟨hch'.fr hF fun b cs hb e => Blk.ne_ hb hbb (by decide) e, fun y hy => hlt y (by simp [hy]), hbb2, by dsimp only; rw [length_spr]; exact hl, by dsimp only; omega, ?_, ?_, hext.te hF (fun j hj e => by omega), Nat.le_refl _, hn⟩, rfl⟩
      · intro j hj
        dsimp only at hj ⊢
        rw [spr_get _ _ _ _ (by omega)]
        by_cases h8 : 8 * us.length ≤ j ∧ j < 8 * us.length + 8
        · rw [if_pos h8, htodo j (by omega)]
          have e3 : (x :: us).reverse.getD (j / 8) 0 = x := by
            rw [List.reverse_cons, List.getD_eq_getElem?_getD, List.getElem?_append_right (by simp; omega)]
            have : j / 8 - us.reverse.length = 0 := by simp; omega
            rw [this]; rfl
          rw [e3]; congr 3; omega
        · rw [if_neg h8]; exact hdone j (by omega)
      · intro j hj
        dsimp only at hj ⊢
        rw [htodo j (by omega), List.reverse_cons, List.getD_eq_getElem?_getD, List.getD_eq_getElem?_getD, List.getElem?_append_left (by simp; omega)]
  · intro H
    refine wk ?_
    refine xmk sl_bytes rfl rfl rfl (by omega) (by omega) (by omega) (fun w1 hB1 hE1 hs1 => ?_)
    have e : (((bs.length : Int) + 7) / 8).toNat = (bs.length + 7) / 8 := by omega
    rw [e] at hB1 ⊢
    have hbb1 : BB w1 w.heap.size (List.replicate ((bs.length + 7) / 8) 0) := by
      unfold BB
      rw [List.map_replicate]
      simpa using hB1
    have hd0 := hE1.cell hc0
    have hd1 := hE1.cell hc1
    have hd2 := hE1.cell hc2
    refine wk ?_
    refine xsl1 rfl rfl rfl (by omega) (by omega) (by omega) (fun A' hA' => ?_)
    have ea : ((bs.length : Int) / 64 * 8).toNat = 8 * ws.length := by omega
    rw [ea, Nat.mul_one] at hA'
    rw [ea]
    refine wk ?_
    have hpw : val tl * 2 ^ (64 - tl.length) < 2 ^ 64 := by
      have : val tl * 2 ^ (64 - tl.length) < 2 ^ tl.length * 2 ^ (64 - tl.length) := Nat.mul_lt_mul_of_pos_right hv (Nat.two_pow_pos _)
      rwa [← Nat.pow_add, show tl.length + (64 - tl.length) = 64 from by omega] at this
    refine xshl (r := ((val tl * 2 ^ (64 - tl.length) : Nat) : Int)) rfl rfl (by omega) (by simp [IntKind.bits]; omega) (by
      have e3 : ((64 : Int) - (bs.length : Int) % 64).toNat = 64 - tl.length := by omega
      have e4 : (val tl : Int) * 2 ^ (64 - tl.length) = ((val tl * 2 ^ (64 - tl.length) : Nat) : Int) := by rw [Int.natCast_mul, Int.natCast_pow]; rfl
      rw [e3, e4]
      exact u64_in _ (by omega) (by omega)) ?_
    refine xcall rfl rfl (spread_does w1.drew A' w.heap.size (8 * ws.length) _ _ _ (List.replicate ((bs.length + 7) / 8) 0) (fun _ => by rw [hA' _ _ rfl (by omega), Nat.zero_add]) hbb1 (by omega) (by simp; omega)) (fun v w2 h2 => ?_)
    obtain ⟨_, hbb2, hfr2⟩ := h2
    have hF : Fr (· = w.heap.size) w1 w2 := (Fr.drew _ _).t hfr2
    have hg := hB.lt
    have hd02 : w2.cell? ⟨g, 0, none⟩ = some (.pointer p) := hF.cell hd0 (by show ¬ g = _; omega)
    refine wk ?_
    refine tlabel ?_
    refine tweak (H (p, ws, _) w2 ⟨(hch.fr hE1 fun _ _ _ hh => hh).fr hF fun b cs hb e => Blk.ne_ hb hbb1 (by decide) e, hws, hbb2, by dsimp only; rw [length_spr]; simp, by dsimp only; omega, ?_, ?_, hE1.te hF (fun j hj e => by omega), Nat.le_refl _, rfl⟩) (sub ⟨rfl, hieq (by dsimp only; omega), rfl⟩)
    · intro j hj
      dsimp only at hj ⊢
      rw [spr_get _ _ _ _ (by simp; omega)]
      by_cases h8 : j < (bs.length + 7) / 8
      · rw [if_pos (by omega), pk_get ws tl hws htl htb bs hbs j h8, if_neg (by omega)]
      · rw [if_neg (by omega), List.getElem?_eq_none (by simp; omega), List.getElem?_eq_none (by rw [length_pk]; omega)]
    · intro j hj
      dsimp only at hj ⊢
      rw [pk_get ws tl hws htl htb bs hbs j (by omega), if_pos hj]
end Eng
end Go.Proofs.YtalnkjpgnkfedaaGreatDoor
