/-
  Package bits: what the methods of Out and In do.
-/
import Derived.Test.YtighkjohpmlemaaBit
namespace Go.Proofs.Ytighkjohpmlemaa
open Go.RowKit
namespace Eng

/-- Full words, the last first. -/
def Chain (w : World) : Option Addr → List Nat → Prop
  | p, [] => p = none
  | p, x :: r => ∃ b p', p = some ⟨b, 0, none⟩ ∧ Blk w b 93 #[.pointer p', .int .u64 (x : Int)] ∧ Chain w p' r

theorem Chain.fr {S : Nat → Prop} {w w' : World} (hf : Fr S w w') (hS : ∀ b cs, Blk w b 93 cs → ¬ S b) : ∀ {ws : List Nat} {p : Option Addr}, Chain w p ws → Chain w' p ws
  | [], _, h => h
  | _ :: _, _, ⟨b, p', e, hB, hc⟩ => ⟨b, p', e, hB.fr hf (hS b _ hB), Chain.fr hf hS hc⟩

/-- Block g is an Out that holds these bits. -/
structure OutR (w : World) (g : Nat) (bs : List Nat) : Prop where
  ex : ∃ p ws tl, Blk w g 35 #[.pointer p, .int .u64 (val tl : Int), .int .i64 (bs.length : Int)] ∧ Chain w p ws ∧ bs = ws.reverse.flatMap (bitsOf · 64) ++ tl ∧ tl.length < 64 ∧ Bits tl ∧ ∀ x ∈ ws, x < 2 ^ 64

theorem OutR.bits {w : World} {g : Nat} {bs : List Nat} (h : OutR w g bs) : Bits bs := by
  obtain ⟨p, ws, tl, _, _, rfl, _, hb, _⟩ := h.ex
  intro b hb'
  rcases List.mem_append.1 hb' with h' | h'
  · obtain ⟨x, _, hx⟩ := List.mem_flatMap.1 h'
    exact bits_bitsOf _ _ b hx
  · exact hb b h'
theorem OutR.lt {w : World} {g : Nat} {bs : List Nat} (h : OutR w g bs) : g < w.heap.size := by
  obtain ⟨p, ws, tl, hB, _⟩ := h.ex
  exact hB.lt
theorem OutR.fr {S : Nat → Prop} {w w' : World} {g : Nat} {bs : List Nat} (h : OutR w g bs) (hf : Fr S w w') (hg : ¬ S g) (hS : ∀ b cs, Blk w b 93 cs → ¬ S b) : OutR w' g bs := by
  obtain ⟨p, ws, tl, hB, hc, r⟩ := h.ex
  exact ⟨⟨p, ws, tl, hB.fr hf hg, hc.fr hf hS, r⟩⟩
theorem OutR.ext {w w' : World} {g : Nat} {bs : List Nat} (h : OutR w g bs) (hf : Ext w w') : OutR w' g bs := h.fr hf (fun hh => hh) fun _ _ _ hh => hh
theorem OutR.new {w : World} {g : Nat} (hB : Blk w g 35 #[.pointer none, .int .u64 0, .int .i64 0]) : OutR w g [] :=
  ⟨⟨none, [], [], hB, rfl, rfl, by simp, fun b hb => (by cases hb), by simp⟩⟩

theorem words_length (ws : List Nat) : (ws.reverse.flatMap (bitsOf · 64)).length = 64 * ws.length := by
  induction ws with
  | nil => rfl
  | cons x r ih => simp only [List.reverse_cons, List.flatMap_append, List.length_append, ih, List.length_cons, List.flatMap_cons, List.flatMap_nil, List.append_nil, length_bitsOf]; omega

/-- One bit behind another. -/
theorem bit_or (p m : Nat) (hp : p < 2 ^ 63) (hm : m < 2 ^ 64) : bits .or .u64 (2 * (p : Int)) (bits .and .u64 (m : Int) 1) = ((2 * p + m % 2 : Nat) : Int) := by
  have e1 : bits .and .u64 (m : Int) 1 = ((m % 2 : Nat) : Int) := by
    have := u64_and_nat m 1 (by omega) (by omega)
    rw [nat_mask1] at this
    exact this
  rw [e1]
  have e2 : (2 * (p : Int)) = ((2 * p : Nat) : Int) := by omega
  rw [e2, u64_or_nat _ _ (by omega) (by omega), nat_join 1 (2 * p) (m % 2) (by omega) (by omega)]

theorem shr_nat (n k : Nat) : (n : Int) / 2 ^ k = ((n / 2 ^ k : Nat) : Int) := by
  rw [Int.natCast_ediv, Int.natCast_pow]; rfl

structure PutI (g : Nat) (bs : List Nat) (n L : Nat) (w0 : World) (m : Nat) (w : World) : Prop where
  le : m ≤ L
  out : OutR w g (bs ++ (bitsOf n L).take (L - m))
  fr : Fr (· = g) w0 w

theorem ieq {k : IntKind} {a b : Int} (h : a = b) : (some (.int k a) : Option Value) = some (.int k b) := by rw [h]

theorem bitsOf_take_succ (n L j : Nat) (h : j < L) : (bitsOf n L).take (j + 1) = (bitsOf n L).take j ++ [n / 2 ^ (L - j - 1) % 2] := by
  have hl := length_bitsOf n L
  rw [List.take_succ_eq_append_getElem (by omega)]
  congr 2
  have : ∀ (L j : Nat) (h : j < (bitsOf n L).length), (bitsOf n L)[j] = n / 2 ^ (L - j - 1) % 2 := by
    intro L
    induction L with
    | zero => intro j h; simp [bitsOf] at h
    | succ L ih =>
      intro j h
      cases j with
      | zero => simp [bitsOf]
      | succ j =>
        simp only [bitsOf, List.getElem_cons_succ]
        rw [ih j (by simpa [bitsOf] using h)]
        congr 3; omega
  exact this L j _

set_option maxRecDepth 20000 in
set_option maxHeartbeats 2000000 in
theorem outPut_does (w : World) (g : Nat) (bs : List Nat) (n L : Nat) (ho : OutR w g bs) (hn : n < 2 ^ 64) (hL : L ≤ 32) (hlen : bs.length ≤ 2 ^ 40) :
    Does Try.prog 53 #[.pointer (some ⟨g, 0, none⟩), .int .u64 (n : Int), .int .i64 (L : Int)] w fun r w' => r = .int .i64 0 ∧ OutR w' g (bs ++ bitsOf n L) ∧ Fr (· = g) w w' := by
  refine does3 Try.func53 rfl (by kernel_rfl) ?_
  repeat' (first | refine xp rfl ?_ | refine xnil ?_ | refine xai rfl rfl rfl (by omega) (by omega) ?_ | refine xdi rfl rfl rfl (by omega) (by omega) (by omega) ?_ | refine xau rfl rfl rfl (by omega) (by omega) ?_ | refine xct rfl rfl rfl (by omega) ?_ | refine xcf rfl rfl rfl (by omega) ?_ | refine xgy rfl ?_ | refine xgn rfl ?_ | refine tseq ?_ | refine tct rfl ?_ | refine tcf rfl ?_ | refine tskip ?_ | refine treg (by kernel_rfl) ?_ | refine tdraw (by kernel_rfl) (by decide +kernel) ?_ | refine tblock ?_ | refine tblk ?_ | refine texit rfl ?_ | refine xixn rfl rfl rfl (by omega) ?_ | refine xld rfl rfl (by assumption) ?_)
  refine tscope1 (α := Nat) 0 rfl (fun m => [(0, .pointer (some ⟨g, 0, none⟩)), (1, .int .u64 (n : Int)), (7, .int .i64 (m : Int))]) (PutI g bs n L w) (fun m => m) ?_ ?_
  · intro m w1 hI
    obtain ⟨hm, hout, hfr⟩ := hI
    cases m with
    | succ m =>
      obtain ⟨p, ws, tl, hB, hch, hbs, htl, htb, hws⟩ := hout.ex
      have hlen1 : (bs ++ (bitsOf n L).take (L - (m + 1))).length = 64 * ws.length + tl.length := by rw [hbs, List.length_append, words_length]
      have hlen2 : (bs ++ (bitsOf n L).take (L - (m + 1))).length = bs.length + (L - (m + 1)) := by simp [length_bitsOf]
      rw [hlen1] at hB hlen2
      have hv : val tl < 2 ^ 63 := Nat.lt_of_lt_of_le (val_lt htb) (Nat.pow_le_pow_right (by decide) (by omega))
      have hc0 : w1.cell? ⟨g, 0, none⟩ = some (.pointer p) := hB.cell 0
      have hc1 : w1.cell? ⟨g, 1, none⟩ = some (.int .u64 (val tl : Int)) := hB.cell 1
      repeat' (first | refine xp rfl ?_ | refine xnil ?_ | refine xai rfl rfl rfl (by omega) (by omega) ?_ | refine xdi rfl rfl rfl (by omega) (by omega) (by omega) ?_ | refine xau rfl rfl rfl (by omega) (by omega) ?_ | refine xct rfl rfl rfl (by omega) ?_ | refine xcf rfl rfl rfl (by omega) ?_ | refine xgy rfl ?_ | refine xgn rfl ?_ | refine tseq ?_ | refine tct rfl ?_ | refine tcf rfl ?_ | refine tskip ?_ | refine treg (by kernel_rfl) ?_ | refine tdraw (by kernel_rfl) (by decide +kernel) ?_ | refine tblock ?_ | refine tblk ?_ | refine texit rfl ?_ | refine xixn rfl rfl rfl (by omega) ?_ | refine xld rfl rfl (by assumption) ?_)
      refine xshl (r := 2 * (val tl : Int)) rfl rfl (by decide) (by decide) (by
        have e : (val tl : Int) * 2 ^ (1 : Int).toNat = 2 * (val tl : Int) := by show (val tl : Int) * 2 = _; omega
        rw [e]; exact u64_in _ (by omega) (by omega)) ?_
      repeat' (first | refine xp rfl ?_ | refine xnil ?_ | refine xai rfl rfl rfl (by omega) (by omega) ?_ | refine xdi rfl rfl rfl (by omega) (by omega) (by omega) ?_ | refine xau rfl rfl rfl (by omega) (by omega) ?_ | refine xct rfl rfl rfl (by omega) ?_ | refine xcf rfl rfl rfl (by omega) ?_ | refine xgy rfl ?_ | refine xgn rfl ?_ | refine tseq ?_ | refine tct rfl ?_ | refine tcf rfl ?_ | refine tskip ?_ | refine treg (by kernel_rfl) ?_ | refine tdraw (by kernel_rfl) (by decide +kernel) ?_ | refine tblock ?_ | refine tblk ?_ | refine texit rfl ?_ | refine xixn rfl rfl rfl (by omega) ?_ | refine xld rfl rfl (by assumption) ?_)
      refine xshr rfl rfl (by omega) (by simp [IntKind.bits]; omega) ?_
      refine xbits (r := bits .and .u64 ((n / 2 ^ m : Nat) : Int) 1) rfl rfl (.inl rfl) (by
        have e : ((((m + 1 : Nat) : Int) - 1).toNat) = m := by omega
        rw [e, shr_nat]) ?_
      have hbit : n / 2 ^ m % 2 < 2 := by omega
      have hq : n / 2 ^ m < 2 ^ 64 := Nat.lt_of_le_of_lt (Nat.div_le_self _ _) hn
      refine xbits (r := ((2 * val tl + n / 2 ^ m % 2 : Nat) : Int)) rfl rfl (.inr (.inl rfl)) (bit_or _ _ hv hq) ?_
      have hvs : 2 * val tl + n / 2 ^ m % 2 = val (tl ++ [n / 2 ^ m % 2]) := (val_snoc _ _).symm
      rw [hvs]
      generalize hb' : n / 2 ^ m % 2 = b at *
      have htb' : Bits (tl ++ [b]) := by
        intro x hx
        rcases List.mem_append.1 hx with h' | h'
        · exact htb x h'
        · have : x = b := by simpa using h'
          omega
      repeat' (first | refine xp rfl ?_ | refine xnil ?_ | refine xai rfl rfl rfl (by omega) (by omega) ?_ | refine xdi rfl rfl rfl (by omega) (by omega) (by omega) ?_ | refine xau rfl rfl rfl (by omega) (by omega) ?_ | refine xct rfl rfl rfl (by omega) ?_ | refine xcf rfl rfl rfl (by omega) ?_ | refine xgy rfl ?_ | refine xgn rfl ?_ | refine tseq ?_ | refine tct rfl ?_ | refine tcf rfl ?_ | refine tskip ?_ | refine treg (by kernel_rfl) ?_ | refine tdraw (by kernel_rfl) (by decide +kernel) ?_ | refine tblock ?_ | refine tblk ?_ | refine texit rfl ?_ | refine xixn rfl rfl rfl (by omega) ?_ | refine xld rfl rfl (by assumption) ?_)
      refine xstb hB rfl rfl rfl rfl rfl (fun w2 hB2 hF2 => ?_)
      have hB2 : Blk w2 g 35 #[.pointer p, .int .u64 (val (tl ++ [b]) : Int), .int .i64 ((64 * ws.length + tl.length : Nat) : Int)] := hB2
      have hc2 : w2.cell? ⟨g, 2, none⟩ = some (.int .i64 ((64 * ws.length + tl.length : Nat) : Int)) := hB2.cell 2
      repeat' (first | refine xp rfl ?_ | refine xnil ?_ | refine xai rfl rfl rfl (by omega) (by omega) ?_ | refine xdi rfl rfl rfl (by omega) (by omega) (by omega) ?_ | refine xau rfl rfl rfl (by omega) (by omega) ?_ | refine xct rfl rfl rfl (by omega) ?_ | refine xcf rfl rfl rfl (by omega) ?_ | refine xgy rfl ?_ | refine xgn rfl ?_ | refine tseq ?_ | refine tct rfl ?_ | refine tcf rfl ?_ | refine tskip ?_ | refine treg (by kernel_rfl) ?_ | refine tdraw (by kernel_rfl) (by decide +kernel) ?_ | refine tblock ?_ | refine tblk ?_ | refine texit rfl ?_ | refine xixn rfl rfl rfl (by omega) ?_ | refine xld rfl rfl (by assumption) ?_)
      refine xstb hB2 rfl rfl rfl rfl rfl (fun w3 hB3 hF3 => ?_)
      have hB3 : Blk w3 g 35 #[.pointer p, .int .u64 (val (tl ++ [b]) : Int), .int .i64 (((64 * ws.length + tl.length : Nat) : Int) + 1)] := hB3
      have hc30 : w3.cell? ⟨g, 0, none⟩ = some (.pointer p) := hB3.cell 0
      have hc31 : w3.cell? ⟨g, 1, none⟩ = some (.int .u64 (val (tl ++ [b]) : Int)) := hB3.cell 1
      have hc32 : w3.cell? ⟨g, 2, none⟩ = some (.int .i64 (((64 * ws.length + tl.length : Nat) : Int) + 1)) := hB3.cell 2
      have hF : Fr (· = g) w1 w3 := ((Fr.drew _ _).t hF2).t hF3
      have hch3 : Chain w3 p ws := hch.fr hF fun b cs hb e => hb.ne_ hB (by decide) e
      have hbits : bs ++ (bitsOf n L).take (L - m) = ws.reverse.flatMap (bitsOf · 64) ++ (tl ++ [b]) := by
        rw [show L - m = (L - (m + 1)) + 1 from by omega, bitsOf_take_succ n L _ (by omega), ← List.append_assoc, hbs, show L - (L - (m + 1)) - 1 = m from by omega, hb', List.append_assoc]
      have hlen3 : (bs ++ (bitsOf n L).take (L - m)).length = 64 * ws.length + tl.length + 1 := by rw [hbits, List.length_append, words_length]; simp; omega
      by_cases h63 : tl.length = 63
      · repeat' (first | refine xp rfl ?_ | refine xnil ?_ | refine xai rfl rfl rfl (by omega) (by omega) ?_ | refine xdi rfl rfl rfl (by omega) (by omega) (by omega) ?_ | refine xau rfl rfl rfl (by omega) (by omega) ?_ | refine xct rfl rfl rfl (by omega) ?_ | refine xcf rfl rfl rfl (by omega) ?_ | refine xgy rfl ?_ | refine xgn rfl ?_ | refine tseq ?_ | refine tct rfl ?_ | refine tcf rfl ?_ | refine tskip ?_ | refine treg (by kernel_rfl) ?_ | refine tdraw (by kernel_rfl) (by decide +kernel) ?_ | refine tblock ?_ | refine tblk ?_ | refine texit rfl ?_ | refine xixn rfl rfl rfl (by omega) ?_ | refine xld rfl rfl (by assumption) ?_)
        refine xbd (cells := #[.pointer p, .int .u64 (val (tl ++ [b]) : Int)]) rfl (by kernel_rfl) ?_
        refine xbox rfl (fun w4 hB4 hF4 hsz4 => ?_)
        have hB4g := hB3.ext (w' := w4) ((Fr.drew _ _).te hF4)
        repeat' (first | refine xp rfl ?_ | refine xnil ?_ | refine xai rfl rfl rfl (by omega) (by omega) ?_ | refine xdi rfl rfl rfl (by omega) (by omega) (by omega) ?_ | refine xau rfl rfl rfl (by omega) (by omega) ?_ | refine xct rfl rfl rfl (by omega) ?_ | refine xcf rfl rfl rfl (by omega) ?_ | refine xgy rfl ?_ | refine xgn rfl ?_ | refine tseq ?_ | refine tct rfl ?_ | refine tcf rfl ?_ | refine tskip ?_ | refine treg (by kernel_rfl) ?_ | refine tdraw (by kernel_rfl) (by decide +kernel) ?_ | refine tblock ?_ | refine tblk ?_ | refine texit rfl ?_ | refine xixn rfl rfl rfl (by omega) ?_ | refine xld rfl rfl (by assumption) ?_)
        refine xstb hB4g rfl rfl rfl rfl rfl (fun w5 hB5 hF5 => ?_)
        repeat' (first | refine xp rfl ?_ | refine xnil ?_ | refine xai rfl rfl rfl (by omega) (by omega) ?_ | refine xdi rfl rfl rfl (by omega) (by omega) (by omega) ?_ | refine xau rfl rfl rfl (by omega) (by omega) ?_ | refine xct rfl rfl rfl (by omega) ?_ | refine xcf rfl rfl rfl (by omega) ?_ | refine xgy rfl ?_ | refine xgn rfl ?_ | refine tseq ?_ | refine tct rfl ?_ | refine tcf rfl ?_ | refine tskip ?_ | refine treg (by kernel_rfl) ?_ | refine tdraw (by kernel_rfl) (by decide +kernel) ?_ | refine tblock ?_ | refine tblk ?_ | refine texit rfl ?_ | refine xixn rfl rfl rfl (by omega) ?_ | refine xld rfl rfl (by assumption) ?_)
        refine xstb hB5 rfl rfl rfl rfl rfl (fun w6 hB6 hF6 => ?_)
        repeat' (first | refine xp rfl ?_ | refine xnil ?_ | refine xai rfl rfl rfl (by omega) (by omega) ?_ | refine xdi rfl rfl rfl (by omega) (by omega) (by omega) ?_ | refine xau rfl rfl rfl (by omega) (by omega) ?_ | refine xct rfl rfl rfl (by omega) ?_ | refine xcf rfl rfl rfl (by omega) ?_ | refine xgy rfl ?_ | refine xgn rfl ?_ | refine tseq ?_ | refine tct rfl ?_ | refine tcf rfl ?_ | refine tskip ?_ | refine treg (by kernel_rfl) ?_ | refine tdraw (by kernel_rfl) (by decide +kernel) ?_ | refine tblock ?_ | refine tblk ?_ | refine texit rfl ?_ | refine xixn rfl rfl rfl (by omega) ?_ | refine xld rfl rfl (by assumption) ?_)
        have hF36 : Fr (· = g) w3 w6 := (((Fr.drew _ _).te hF4).t hF5).t hF6
        have hB6' : Blk w6 g 35 #[.pointer (some ⟨w3.heap.size, 0, none⟩), .int .u64 ((val ([] : List Nat) : Nat) : Int), .int .i64 ((bs ++ (bitsOf n L).take (L - m)).length : Int)] := by
          rw [hlen3]; exact hB6
        have hg3 := hB3.lt
        have hB46 : Blk w6 w3.heap.size 93 #[.pointer p, .int .u64 (val (tl ++ [b]) : Int)] := Blk.fr (w := w4) hB4 (hF5.t hF6) (by show ¬ w3.heap.size = g; omega)
        have hcw : Chain w6 p ws := hch3.fr hF36 fun b cs hb e => hb.ne_ hB3 (by decide) e
        have hl64 : (tl ++ [b]).length = 64 := by simp; omega
        exact tgoto rfl ⟨_, (by show m < m + 1; omega), rfl, m, sub ⟨rfl, rfl, ieq (by omega)⟩, ⟨by omega, ⟨⟨_, val (tl ++ [b]) :: ws, [], hB6', ⟨_, _, rfl, hB46, hcw⟩, by
          rw [hbits]
          have := bitsOf_val' htb'
          rw [hl64] at this
          simp [List.flatMap_append, this], by simp, fun x hx => (by cases hx), fun x hx => by
            rcases List.mem_cons.1 hx with rfl | h'
            · have := val_lt htb'; rw [hl64] at this; exact this
            · exact hws x h'⟩⟩, (hfr.t hF).t hF36⟩, rfl⟩
      · repeat' (first | refine xp rfl ?_ | refine xnil ?_ | refine xai rfl rfl rfl (by omega) (by omega) ?_ | refine xdi rfl rfl rfl (by omega) (by omega) (by omega) ?_ | refine xau rfl rfl rfl (by omega) (by omega) ?_ | refine xct rfl rfl rfl (by omega) ?_ | refine xcf rfl rfl rfl (by omega) ?_ | refine xgy rfl ?_ | refine xgn rfl ?_ | refine tseq ?_ | refine tct rfl ?_ | refine tcf rfl ?_ | refine tskip ?_ | refine treg (by kernel_rfl) ?_ | refine tdraw (by kernel_rfl) (by decide +kernel) ?_ | refine tblock ?_ | refine tblk ?_ | refine texit rfl ?_ | refine xixn rfl rfl rfl (by omega) ?_ | refine xld rfl rfl (by assumption) ?_)
        exact tgoto rfl ⟨_, (by show m < m + 1; omega), rfl, m, sub ⟨rfl, rfl, ieq (by omega)⟩, ⟨by omega, ⟨⟨p, ws, tl ++ [b], by rw [hlen3]; exact hB3, hch3, hbits, by simp; omega, htb', hws⟩⟩, hfr.t hF⟩, rfl⟩
    | zero =>
      repeat' (first | refine xp rfl ?_ | refine xnil ?_ | refine xai rfl rfl rfl (by omega) (by omega) ?_ | refine xdi rfl rfl rfl (by omega) (by omega) (by omega) ?_ | refine xau rfl rfl rfl (by omega) (by omega) ?_ | refine xct rfl rfl rfl (by omega) ?_ | refine xcf rfl rfl rfl (by omega) ?_ | refine xgy rfl ?_ | refine xgn rfl ?_ | refine tseq ?_ | refine tct rfl ?_ | refine tcf rfl ?_ | refine tskip ?_ | refine treg (by kernel_rfl) ?_ | refine tdraw (by kernel_rfl) (by decide +kernel) ?_ | refine tblock ?_ | refine tblk ?_ | refine texit rfl ?_ | refine xixn rfl rfl rfl (by omega) ?_ | refine xld rfl rfl (by assumption) ?_)
      exact tret1 rfl rfl ⟨rfl, by simpa [List.take_of_length_le, length_bitsOf] using hout, hfr⟩
  · intro H
    repeat' (first | refine xp rfl ?_ | refine xnil ?_ | refine xai rfl rfl rfl (by omega) (by omega) ?_ | refine xdi rfl rfl rfl (by omega) (by omega) (by omega) ?_ | refine xau rfl rfl rfl (by omega) (by omega) ?_ | refine xct rfl rfl rfl (by omega) ?_ | refine xcf rfl rfl rfl (by omega) ?_ | refine xgy rfl ?_ | refine xgn rfl ?_ | refine tseq ?_ | refine tct rfl ?_ | refine tcf rfl ?_ | refine tskip ?_ | refine treg (by kernel_rfl) ?_ | refine tdraw (by kernel_rfl) (by decide +kernel) ?_ | refine tblock ?_ | refine tblk ?_ | refine texit rfl ?_ | refine xixn rfl rfl rfl (by omega) ?_ | refine xld rfl rfl (by assumption) ?_)
    refine tlabel ?_
    exact tweak (H L w ⟨by omega, by simpa using ho, Fr.refl _ _⟩) (sub ⟨rfl, rfl, rfl⟩)
end Eng
end Go.Proofs.Ytighkjohpmlemaa
