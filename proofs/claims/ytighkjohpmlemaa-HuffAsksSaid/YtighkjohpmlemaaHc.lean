/-
  Package bits: spread and Bytes.
-/
import Derived.Test.YtighkjohpmlemaaHb
namespace Go.Proofs.Ytighkjohpmlemaa
open Go.RowKit
namespace Eng

/-- Block b is a row of these bytes. -/
def BB (w : World) (b : Nat) (l : List Int) : Prop := Blk w b 5 (l.map (Value.int .u8)).toArray

theorem BB.lt {w : World} {b : Nat} {l : List Int} (h : BB w b l) : b < w.heap.size := Blk.lt h
theorem BB.fr {S : Nat → Prop} {w w' : World} {b : Nat} {l : List Int} (h : BB w b l) (hf : Fr S w w') (hS : ¬ S b) : BB w' b l := Blk.fr h hf hS
theorem BB.row {w : World} {b : Nat} {l : List Int} (h : BB w b l) (hl : l.length ≤ maxLen) : BRow w (.slice (some ⟨b, 0, none⟩) l.length l.length) l :=
  ⟨_, _, rfl, Nat.le_refl _, hl, fun _ => ⟨b, 0, rfl, Blk.lt h, fun j u hu => by rw [Nat.zero_add, Blk.cell h]; simpa using hu⟩⟩

def byteOf (x k : Nat) : Nat := x / 2 ^ (56 - 8 * k) % 256
def spr (l : List Int) (o x : Nat) : Nat → List Int
  | 0 => l
  | k + 1 => (spr l o x k).set (o + k) (byteOf x k : Int)
theorem length_spr (l : List Int) (o x k : Nat) : (spr l o x k).length = l.length := by
  induction k with
  | zero => rfl
  | succ k ih => simp [spr, ih]
theorem spr_get (l : List Int) (o x k : Nat) (hk : o + k ≤ l.length) (j : Nat) : (spr l o x k)[j]? = if o ≤ j ∧ j < o + k then some (byteOf x (j - o) : Int) else l[j]? := by
  induction k with
  | zero => rw [if_neg (by omega)]; rfl
  | succ k ih =>
    rw [spr, List.getElem?_set, length_spr, ih (by omega)]
    by_cases h : o + k = j
    · subst h; rw [if_pos rfl, if_pos (by omega), if_pos (by omega)]; congr 2; congr 1; omega
    · rw [if_neg h]
      by_cases h2 : o ≤ j ∧ j < o + k
      · rw [if_pos h2, if_pos (by omega)]
      · rw [if_neg h2, if_neg (by omega)]

structure SprI (b o n x : Nat) (l : List Int) (w0 : World) (k : Nat) (w : World) : Prop where
  le : k ≤ n
  bb : BB w b (spr l o x k)
  fr : Fr (· = b) w0 w

theorem u8_wrap (a : Nat) : IntKind.u8.wrap (a : Int) = ((a % 256 : Nat) : Int) := by rw [IntKind.wrap_u8']; omega

set_option maxRecDepth 20000 in
set_option maxHeartbeats 1000000 in
theorem spread_does (w : World) (A : Option Addr) (b o n c x : Nat) (l : List Int) (hA : 0 < n → A = some ⟨b, o, none⟩) (hb : BB w b l) (hn : n ≤ 8) (ho : o + n ≤ l.length) :
    Does Try.prog 55 #[.slice A n c, .int .u64 (x : Int)] w fun r w' => r = .tuple #[] ∧ BB w' b (spr l o x n) ∧ Fr (· = b) w w' := by
  refine does2 Try.func55 rfl (by kernel_rfl) ?_
  refine tscope1 (α := Nat) 0 rfl (fun k => [(0, .slice A n c), (1, .int .u64 (x : Int)), (4, .int .i64 (k : Int))]) (SprI b o n x l w) (fun k => n - k) ?_ ?_
  · rintro k w1 ⟨hk, hbb, hfr⟩
    by_cases hlt : k < n
    · obtain rfl := hA (by omega)
      repeat' (first | refine xp rfl ?_ | refine xnil ?_ | refine xai rfl rfl rfl (by omega) (by omega) ?_ | refine xdi rfl rfl rfl (by omega) (by omega) (by omega) ?_ | refine xau rfl rfl rfl (by omega) (by omega) ?_ | refine xct rfl rfl rfl (by omega) ?_ | refine xcf rfl rfl rfl (by omega) ?_ | refine xgy rfl ?_ | refine xgn rfl ?_ | refine tseq ?_ | refine tct rfl ?_ | refine tcf rfl ?_ | refine tskip ?_ | refine treg (by kernel_rfl) ?_ | refine tdraw (by kernel_rfl) (by decide +kernel) ?_ | refine tblock ?_ | refine tblk ?_ | refine texit rfl ?_ | refine xixn rfl rfl rfl (by omega) ?_ | refine xld rfl rfl (by assumption) ?_)
      refine xshr rfl rfl (by omega) (by simp [IntKind.bits]; omega) ?_
      refine xcv (k := .u8) (r := (byteOf x k : Int)) rfl rfl rfl (by
        have e : ((56 : Int) - 8 * (k : Int)).toNat = 56 - 8 * k := by omega
        rw [e, shr_nat, u8_wrap]; rfl) ?_
      repeat' (first | refine xp rfl ?_ | refine xnil ?_ | refine xai rfl rfl rfl (by omega) (by omega) ?_ | refine xdi rfl rfl rfl (by omega) (by omega) (by omega) ?_ | refine xau rfl rfl rfl (by omega) (by omega) ?_ | refine xct rfl rfl rfl (by omega) ?_ | refine xcf rfl rfl rfl (by omega) ?_ | refine xgy rfl ?_ | refine xgn rfl ?_ | refine tseq ?_ | refine tct rfl ?_ | refine tcf rfl ?_ | refine tskip ?_ | refine treg (by kernel_rfl) ?_ | refine tdraw (by kernel_rfl) (by decide +kernel) ?_ | refine tblock ?_ | refine tblk ?_ | refine texit rfl ?_ | refine xixn rfl rfl rfl (by omega) ?_ | refine xld rfl rfl (by assumption) ?_)
      refine xstb hbb rfl rfl rfl rfl (by simp [length_spr]; omega) (fun w2 hB2 hF2 => ?_)
      repeat' (first | refine xp rfl ?_ | refine xnil ?_ | refine xai rfl rfl rfl (by omega) (by omega) ?_ | refine xdi rfl rfl rfl (by omega) (by omega) (by omega) ?_ | refine xau rfl rfl rfl (by omega) (by omega) ?_ | refine xct rfl rfl rfl (by omega) ?_ | refine xcf rfl rfl rfl (by omega) ?_ | refine xgy rfl ?_ | refine xgn rfl ?_ | refine tseq ?_ | refine tct rfl ?_ | refine tcf rfl ?_ | refine tskip ?_ | refine treg (by kernel_rfl) ?_ | refine tdraw (by kernel_rfl) (by decide +kernel) ?_ | refine tblock ?_ | refine tblk ?_ | refine texit rfl ?_ | refine xixn rfl rfl rfl (by omega) ?_ | refine xld rfl rfl (by assumption) ?_)
      exact tgoto rfl ⟨_, (by show n - (k + 1) < n - k; omega), rfl, k + 1, sub ⟨rfl, rfl, rfl⟩, ⟨by omega, by
        unfold BB spr
        simp only [List.map_set]
        simpa using hB2, hfr.t hF2⟩, rfl⟩
    · obtain rfl : k = n := by omega
      repeat' (first | refine xp rfl ?_ | refine xnil ?_ | refine xai rfl rfl rfl (by omega) (by omega) ?_ | refine xdi rfl rfl rfl (by omega) (by omega) (by omega) ?_ | refine xau rfl rfl rfl (by omega) (by omega) ?_ | refine xct rfl rfl rfl (by omega) ?_ | refine xcf rfl rfl rfl (by omega) ?_ | refine xgy rfl ?_ | refine xgn rfl ?_ | refine tseq ?_ | refine tct rfl ?_ | refine tcf rfl ?_ | refine tskip ?_ | refine treg (by kernel_rfl) ?_ | refine tdraw (by kernel_rfl) (by decide +kernel) ?_ | refine tblock ?_ | refine tblk ?_ | refine texit rfl ?_ | refine xixn rfl rfl rfl (by omega) ?_ | refine xld rfl rfl (by assumption) ?_)
      exact tret0 rfl ⟨rfl, hbb, hfr⟩
  · intro H
    repeat' (first | refine xp rfl ?_ | refine xnil ?_ | refine xai rfl rfl rfl (by omega) (by omega) ?_ | refine xdi rfl rfl rfl (by omega) (by omega) (by omega) ?_ | refine xau rfl rfl rfl (by omega) (by omega) ?_ | refine xct rfl rfl rfl (by omega) ?_ | refine xcf rfl rfl rfl (by omega) ?_ | refine xgy rfl ?_ | refine xgn rfl ?_ | refine tseq ?_ | refine tct rfl ?_ | refine tcf rfl ?_ | refine tskip ?_ | refine treg (by kernel_rfl) ?_ | refine tdraw (by kernel_rfl) (by decide +kernel) ?_ | refine tblock ?_ | refine tblk ?_ | refine texit rfl ?_ | refine xixn rfl rfl rfl (by omega) ?_ | refine xld rfl rfl (by assumption) ?_)
    refine tlabel ?_
    exact tweak (H 0 w ⟨by omega, hb, Fr.refl _ _⟩) (sub ⟨rfl, rfl, rfl⟩)

/-- A byte of a word. -/
theorem byte_word (x q : Nat) (hx : x < 2 ^ 64) (hq : q < 8) (rest : List Nat) : byte8 ((bitsOf x 64).drop (8 * q) ++ rest) = byteOf x q := by
  have hl := length_bitsOf x 64
  have hB := bits_bitsOf x 64
  have h8 : 8 ≤ ((bitsOf x 64).drop (8 * q)).length := by rw [List.length_drop, hl]; omega
  unfold byte8 byteOf
  rw [List.take_append_of_le_length h8]
  have e0 : 8 - ((bitsOf x 64).drop (8 * q) ++ rest).length = 0 := by rw [List.length_append]; omega
  rw [e0, List.replicate_zero, List.append_nil]
  have hsplit : bitsOf x 64 = (bitsOf x 64).take (8 * q) ++ ((bitsOf x 64).drop (8 * q)).take 8 ++ (bitsOf x 64).drop (8 * q + 8) := by
    rw [List.append_assoc, ← List.drop_drop, List.take_append_drop, List.take_append_drop]
  have hv := val_part ((bitsOf x 64).take (8 * q)) (((bitsOf x 64).drop (8 * q)).take 8) ((bitsOf x 64).drop (8 * q + 8)) (fun b hb => hB b (List.mem_of_mem_drop (List.mem_of_mem_take hb))) (fun b hb => hB b (List.mem_of_mem_drop hb))
  rw [← hsplit, val_bitsOf, Nat.mod_eq_of_lt hx] at hv
  have e1 : ((bitsOf x 64).drop (8 * q + 8)).length = 56 - 8 * q := by rw [List.length_drop, hl]; omega
  have e2 : (((bitsOf x 64).drop (8 * q)).take 8).length = 8 := by simp [hl]; omega
  rw [e1, e2] at hv
  exact hv.symm

/-- A byte of the bits behind the words. -/
theorem byte_tail (tl : List Nat) (q : Nat) (hb : Bits tl) (hl : tl.length < 64) (hq : 8 * q < tl.length) : byte8 (tl.drop (8 * q)) = byteOf (val tl * 2 ^ (64 - tl.length)) q := by
  have hfull : Bits (tl ++ List.replicate (64 - tl.length) 0) := by
    intro b hb'
    rcases List.mem_append.1 hb' with h' | h'
    · exact hb b h'
    · have := (List.mem_replicate.1 h').2; omega
  have hlen : (tl ++ List.replicate (64 - tl.length) 0).length = 64 := by simp; omega
  have hbits := bitsOf_val' hfull
  rw [hlen, val_append_zeros] at hbits
  have hlt := val_lt hfull
  rw [hlen, val_append_zeros] at hlt
  have := byte_word (val tl * 2 ^ (64 - tl.length)) q hlt (by omega) []
  rw [hbits, List.append_nil] at this
  rw [← this]
  unfold byte8
  rw [List.drop_append_of_le_length (by omega)]
  by_cases h8 : 8 ≤ (tl.drop (8 * q)).length
  · rw [List.take_append_of_le_length h8]
    congr 2
    congr 1
    simp at h8 ⊢; omega
  · have e1 : (tl.drop (8 * q)).take 8 = tl.drop (8 * q) := List.take_of_length_le (by omega)
    rw [e1, List.take_append, e1]
    have e2 : 8 - (tl.drop (8 * q) ++ List.replicate (64 - tl.length) 0).length = 0 := by simp; omega
    rw [e2, List.replicate_zero, List.append_nil]
    congr 1
    congr 1
    rw [List.take_replicate]
    congr 1
    simp at h8 ⊢; omega

/-- The bytes of an Out, place by place. -/
theorem pk_get (ws tl : List Nat) (hws : ∀ x ∈ ws, x < 2 ^ 64) (ht : tl.length < 64) (hb : Bits tl) (bs : List Nat) (hbs : bs = ws.reverse.flatMap (bitsOf · 64) ++ tl) (j : Nat) (hj : j < (bs.length + 7) / 8) :
    (pk bs)[j]? = some (if j < 8 * ws.length then (byteOf (ws.reverse.getD (j / 8) 0) (j % 8) : Int) else (byteOf (val tl * 2 ^ (64 - tl.length)) (j - 8 * ws.length) : Int)) := by
  have hlen : bs.length = 64 * ws.length + tl.length := by rw [hbs, List.length_append, words_length]
  have e : (pk bs)[j]? = some (byte8 (bs.drop (8 * j)) : Int) := by simp [pk, hj]
  rw [e]
  congr 1
  split
  · rename_i h
    have key : ∀ (us : List Nat) (i q : Nat) (r : List Nat), (∀ x ∈ us, x < 2 ^ 64) → i < us.length → q < 8 → byte8 ((us.flatMap (bitsOf · 64) ++ r).drop (64 * i + 8 * q)) = byteOf (us.getD i 0) q := by
      intro us
      induction us with
      | nil => intro i q r _ hi; simp at hi
      | cons u us ih =>
        intro i q r hu hi hq
        have hl := length_bitsOf u 64
        cases i with
        | zero =>
          simp only [List.flatMap_cons, List.append_assoc, Nat.mul_zero, Nat.zero_add, List.getD_cons_zero]
          rw [List.drop_append_of_le_length (by omega)]
          exact byte_word u q (hu u (by simp)) hq _
        | succ i =>
          simp only [List.flatMap_cons, List.append_assoc, List.getD_cons_succ]
          rw [List.drop_append, show (bitsOf u 64).drop (64 * (i + 1) + 8 * q) = [] from List.drop_eq_nil_of_le (by omega), List.nil_append, hl, show 64 * (i + 1) + 8 * q - 64 = 64 * i + 8 * q from by omega]
          exact ih i q r (fun x hx => hu x (by simp [hx])) (by simpa using hi) hq
    have := key ws.reverse (j / 8) (j % 8) tl (fun x hx => hws x (by simpa using hx)) (by simp; omega) (by omega)
    rw [← hbs, show 64 * (j / 8) + 8 * (j % 8) = 8 * j from by omega] at this
    rw [this]
  · rename_i h
    have e2 : bs.drop (8 * j) = tl.drop (8 * (j - 8 * ws.length)) := by
      rw [hbs, List.drop_append, words_length, List.drop_eq_nil_of_le (by rw [words_length]; omega), List.nil_append]
      congr 1; omega
    rw [e2, byte_tail tl _ hb ht (by omega)]

structure BytI (g b : Nat) (bs : List Nat) (w0 : World) (n : Nat) (x : Option Addr × List Nat × List Int) (w : World) : Prop where
  ch : Chain w x.1 x.2.1
  lt : ∀ y ∈ x.2.1, y < 2 ^ 64
  bb : BB w b x.2.2
  len : x.2.2.length = (bs.length + 7) / 8
  le : 8 * x.2.1.length ≤ (bs.length + 7) / 8
  done : ∀ j, 8 * x.2.1.length ≤ j → x.2.2[j]? = (pk bs)[j]?
  todo : ∀ j, j < 8 * x.2.1.length → (pk bs)[j]? = some (byteOf (x.2.1.reverse.getD (j / 8) 0) (j % 8) : Int)
  ext : Ext w0 w
  b : w0.heap.size ≤ b
  n : n = (bs.length + 7) / 8

theorem sl_bytes : SlT 23 5 (.int .u8 0) 1 1 := slT Try.underlying23 (by kernel_rfl)
theorem sl_ints : SlT 22 3 (.int .i64 0) 1 8 := slT Try.underlying22 (by kernel_rfl)

set_option maxRecDepth 20000 in
set_option maxHeartbeats 1000000 in
theorem bytes_does (w : World) (g : Nat) (bs : List Nat) (ho : OutR w g bs) (hlen : bs.length ≤ 2 ^ 40) :
    Does Try.prog 24 #[.pointer (some ⟨g, 0, none⟩)] w fun r w' => ∃ b, r = .slice (some ⟨b, 0, none⟩) (pk bs).length (pk bs).length ∧ w.heap.size ≤ b ∧ BB w' b (pk bs) ∧ Ext w w' := by
  obtain ⟨p, ws, tl, hB, hch, hbs, htl, htb, hws⟩ := ho.ex
  have hlen1 : bs.length = 64 * ws.length + tl.length := by rw [hbs, List.length_append, words_length]
  have hv : val tl < 2 ^ tl.length := val_lt htb
  have hc0 : w.cell? ⟨g, 0, none⟩ = some (.pointer p) := hB.cell 0
  have hc1 : w.cell? ⟨g, 1, none⟩ = some (.int .u64 (val tl : Int)) := hB.cell 1
  have hc2 : w.cell? ⟨g, 2, none⟩ = some (.int .i64 (bs.length : Int)) := hB.cell 2
  refine does1 Try.func24 rfl (by kernel_rfl) ?_
  repeat' (first | refine xp rfl ?_ | refine xnil ?_ | refine xai rfl rfl rfl (by omega) (by omega) ?_ | refine xdi rfl rfl rfl (by omega) (by omega) (by omega) ?_ | refine xau rfl rfl rfl (by omega) (by omega) ?_ | refine xct rfl rfl rfl (by omega) ?_ | refine xcf rfl rfl rfl (by omega) ?_ | refine xgy rfl ?_ | refine xgn rfl ?_ | refine tseq ?_ | refine tct rfl ?_ | refine tcf rfl ?_ | refine tskip ?_ | refine treg (by kernel_rfl) ?_ | refine tdraw (by kernel_rfl) (by decide +kernel) ?_ | refine tblock ?_ | refine tblk ?_ | refine texit rfl ?_ | refine xixn rfl rfl rfl (by omega) ?_ | refine xld rfl rfl (by assumption) ?_)
  refine tscope1 (α := Option Addr × List Nat × List Int) 0 rfl (fun x => [(3, .slice (some ⟨w.heap.size, 0, none⟩) ((bs.length + 7) / 8) ((bs.length + 7) / 8)), (4, .int .i64 ((8 * x.2.1.length : Nat) : Int)), (5, .pointer x.1)]) (BytI g w.heap.size bs w ((bs.length + 7) / 8)) (fun x => x.2.1.length) ?_ ?_
  · rintro ⟨q, us, l⟩ w1 ⟨hch, hlt, hbb, hl, hle, hdone, htodo, hext, hb, hn⟩
    dsimp only at hch hlt hbb hl hle hdone htodo
    cases us with
    | nil =>
      have hq : q = none := hch
      subst hq
      dsimp only
      repeat' (first | refine xp rfl ?_ | refine xnil ?_ | refine xai rfl rfl rfl (by omega) (by omega) ?_ | refine xdi rfl rfl rfl (by omega) (by omega) (by omega) ?_ | refine xau rfl rfl rfl (by omega) (by omega) ?_ | refine xct rfl rfl rfl (by omega) ?_ | refine xcf rfl rfl rfl (by omega) ?_ | refine xgy rfl ?_ | refine xgn rfl ?_ | refine tseq ?_ | refine tct rfl ?_ | refine tcf rfl ?_ | refine tskip ?_ | refine treg (by kernel_rfl) ?_ | refine tdraw (by kernel_rfl) (by decide +kernel) ?_ | refine tblock ?_ | refine tblk ?_ | refine texit rfl ?_ | refine xixn rfl rfl rfl (by omega) ?_ | refine xld rfl rfl (by assumption) ?_)
      have hl2 : l = pk bs := List.ext_getElem? fun j => hdone j (by simp)
      subst hl2
      exact tret1 rfl rfl ⟨w.heap.size, by rw [hl], Nat.le_refl _, hbb, hext⟩
    | cons x us =>
      obtain ⟨b, q', rfl, hBx, hch'⟩ := hch
      have hx0 : w1.cell? ⟨b, 0, none⟩ = some (.pointer q') := hBx.cell 0
      have hx1 : w1.cell? ⟨b, 1, none⟩ = some (.int .u64 (x : Int)) := hBx.cell 1
      simp only [List.length_cons] at hle hdone htodo
      dsimp only [List.length_cons]
      repeat' (first | refine xp rfl ?_ | refine xnil ?_ | refine xai rfl rfl rfl (by omega) (by omega) ?_ | refine xdi rfl rfl rfl (by omega) (by omega) (by omega) ?_ | refine xau rfl rfl rfl (by omega) (by omega) ?_ | refine xct rfl rfl rfl (by omega) ?_ | refine xcf rfl rfl rfl (by omega) ?_ | refine xgy rfl ?_ | refine xgn rfl ?_ | refine tseq ?_ | refine tct rfl ?_ | refine tcf rfl ?_ | refine tskip ?_ | refine treg (by kernel_rfl) ?_ | refine tdraw (by kernel_rfl) (by decide +kernel) ?_ | refine tblock ?_ | refine tblk ?_ | refine texit rfl ?_ | refine xixn rfl rfl rfl (by omega) ?_ | refine xld rfl rfl (by assumption) ?_)
      refine xsl2 rfl rfl rfl rfl (by omega) (by omega) (by omega) (fun A' hA' => ?_)
      repeat' (first | refine xp rfl ?_ | refine xnil ?_ | refine xai rfl rfl rfl (by omega) (by omega) ?_ | refine xdi rfl rfl rfl (by omega) (by omega) (by omega) ?_ | refine xau rfl rfl rfl (by omega) (by omega) ?_ | refine xct rfl rfl rfl (by omega) ?_ | refine xcf rfl rfl rfl (by omega) ?_ | refine xgy rfl ?_ | refine xgn rfl ?_ | refine tseq ?_ | refine tct rfl ?_ | refine tcf rfl ?_ | refine tskip ?_ | refine treg (by kernel_rfl) ?_ | refine tdraw (by kernel_rfl) (by decide +kernel) ?_ | refine tblock ?_ | refine tblk ?_ | refine texit rfl ?_ | refine xixn rfl rfl rfl (by omega) ?_ | refine xld rfl rfl (by assumption) ?_)
      have e1 : (((8 * (us.length + 1) : Nat) : Int) - 8).toNat = 8 * us.length := by omega
      have e2 : (((8 * (us.length + 1) : Nat) : Int) - 8 + 8).toNat - (((8 * (us.length + 1) : Nat) : Int) - 8).toNat = 8 := by omega
      rw [e1, Nat.mul_one] at hA'
      rw [e2]
      refine xcall rfl rfl (spread_does w1.drew A' w.heap.size (8 * us.length) 8 _ x l (fun _ => by rw [hA' _ _ rfl (by omega), Nat.zero_add]) hbb (by omega) (by omega)) (fun v w2 h2 => ?_)
      obtain ⟨_, hbb2, hfr2⟩ := h2
      have hF : Fr (· = w.heap.size) w1 w2 := (Fr.drew _ _).t hfr2
      have hbne : b ≠ w.heap.size := fun e => Blk.ne_ hBx hbb (by decide) e
      have hx02 : w2.cell? ⟨b, 0, none⟩ = some (.pointer q') := hF.cell hx0 hbne
      repeat' (first | refine xp rfl ?_ | refine xnil ?_ | refine xai rfl rfl rfl (by omega) (by omega) ?_ | refine xdi rfl rfl rfl (by omega) (by omega) (by omega) ?_ | refine xau rfl rfl rfl (by omega) (by omega) ?_ | refine xct rfl rfl rfl (by omega) ?_ | refine xcf rfl rfl rfl (by omega) ?_ | refine xgy rfl ?_ | refine xgn rfl ?_ | refine tseq ?_ | refine tct rfl ?_ | refine tcf rfl ?_ | refine tskip ?_ | refine treg (by kernel_rfl) ?_ | refine tdraw (by kernel_rfl) (by decide +kernel) ?_ | refine tblock ?_ | refine tblk ?_ | refine texit rfl ?_ | refine xixn rfl rfl rfl (by omega) ?_ | refine xld rfl rfl (by assumption) ?_)
      refine tgoto rfl ⟨_, (by show us.length < us.length + 1; omega), rfl, (q', us, spr l (8 * us.length) x 8), sub ⟨rfl, ieq (by dsimp only; omega), rfl⟩, ⟨hch'.fr hF fun b cs hb e => Blk.ne_ hb hbb (by decide) e, fun y hy => hlt y (by simp [hy]), hbb2, by dsimp only; rw [length_spr]; exact hl, by dsimp only; omega, ?_, ?_, hext.te hF (fun j hj e => by omega), Nat.le_refl _, hn⟩, rfl⟩
      · intro j hj
        dsimp only at hj ⊢
        rw [spr_get _ _ _ _ (by omega)]
        by_cases h8 : 8 * us.length ≤ j ∧ j < 8 * us.length + 8
        · rw [if_pos h8, htodo j (by omega)]
          have e3 : (x :: us).reverse.getD (j / 8) 0 = x := by
            rw [List.reverse_cons, List.getD_eq_getElem?_getD, List.getElem?_append_right (by simp; omega)]
            have : j / 8 - us.reverse.length = 0 := by simp; omega
            rw [this]; rfl
          rw [e3]; congr 3; omega
        · rw [if_neg h8]; exact hdone j (by omega)
      · intro j hj
        dsimp only at hj ⊢
        rw [htodo j (by omega), List.reverse_cons, List.getD_eq_getElem?_getD, List.getD_eq_getElem?_getD, List.getElem?_append_left (by simp; omega)]
  · intro H
    repeat' (first | refine xp rfl ?_ | refine xnil ?_ | refine xai rfl rfl rfl (by omega) (by omega) ?_ | refine xdi rfl rfl rfl (by omega) (by omega) (by omega) ?_ | refine xau rfl rfl rfl (by omega) (by omega) ?_ | refine xct rfl rfl rfl (by omega) ?_ | refine xcf rfl rfl rfl (by omega) ?_ | refine xgy rfl ?_ | refine xgn rfl ?_ | refine tseq ?_ | refine tct rfl ?_ | refine tcf rfl ?_ | refine tskip ?_ | refine treg (by kernel_rfl) ?_ | refine tdraw (by kernel_rfl) (by decide +kernel) ?_ | refine tblock ?_ | refine tblk ?_ | refine texit rfl ?_ | refine xixn rfl rfl rfl (by omega) ?_ | refine xld rfl rfl (by assumption) ?_)
    refine xmk sl_bytes rfl rfl rfl (by omega) (by omega) (by omega) (fun w1 hB1 hE1 hs1 => ?_)
    have e : (((bs.length : Int) + 7) / 8).toNat = (bs.length + 7) / 8 := by omega
    rw [e] at hB1 ⊢
    have hbb1 : BB w1 w.heap.size (List.replicate ((bs.length + 7) / 8) 0) := by
      unfold BB
      rw [List.map_replicate]
      simpa using hB1
    have hd0 := hE1.cell hc0
    have hd1 := hE1.cell hc1
    have hd2 := hE1.cell hc2
    repeat' (first | refine xp rfl ?_ | refine xnil ?_ | refine xai rfl rfl rfl (by omega) (by omega) ?_ | refine xdi rfl rfl rfl (by omega) (by omega) (by omega) ?_ | refine xau rfl rfl rfl (by omega) (by omega) ?_ | refine xct rfl rfl rfl (by omega) ?_ | refine xcf rfl rfl rfl (by omega) ?_ | refine xgy rfl ?_ | refine xgn rfl ?_ | refine tseq ?_ | refine tct rfl ?_ | refine tcf rfl ?_ | refine tskip ?_ | refine treg (by kernel_rfl) ?_ | refine tdraw (by kernel_rfl) (by decide +kernel) ?_ | refine tblock ?_ | refine tblk ?_ | refine texit rfl ?_ | refine xixn rfl rfl rfl (by omega) ?_ | refine xld rfl rfl (by assumption) ?_)
    refine xsl1 rfl rfl rfl (by omega) (by omega) (by omega) (fun A' hA' => ?_)
    have ea : ((bs.length : Int) / 64 * 8).toNat = 8 * ws.length := by omega
    rw [ea, Nat.mul_one] at hA'
    rw [ea]
    repeat' (first | refine xp rfl ?_ | refine xnil ?_ | refine xai rfl rfl rfl (by omega) (by omega) ?_ | refine xdi rfl rfl rfl (by omega) (by omega) (by omega) ?_ | refine xau rfl rfl rfl (by omega) (by omega) ?_ | refine xct rfl rfl rfl (by omega) ?_ | refine xcf rfl rfl rfl (by omega) ?_ | refine xgy rfl ?_ | refine xgn rfl ?_ | refine tseq ?_ | refine tct rfl ?_ | refine tcf rfl ?_ | refine tskip ?_ | refine treg (by kernel_rfl) ?_ | refine tdraw (by kernel_rfl) (by decide +kernel) ?_ | refine tblock ?_ | refine tblk ?_ | refine texit rfl ?_ | refine xixn rfl rfl rfl (by omega) ?_ | refine xld rfl rfl (by assumption) ?_)
    have hpw : val tl * 2 ^ (64 - tl.length) < 2 ^ 64 := by
      have : val tl * 2 ^ (64 - tl.length) < 2 ^ tl.length * 2 ^ (64 - tl.length) := Nat.mul_lt_mul_of_pos_right hv (Nat.two_pow_pos _)
      rwa [← Nat.pow_add, show tl.length + (64 - tl.length) = 64 from by omega] at this
    refine xshl (r := ((val tl * 2 ^ (64 - tl.length) : Nat) : Int)) rfl rfl (by omega) (by simp [IntKind.bits]; omega) (by
      have e3 : ((64 : Int) - (bs.length : Int) % 64).toNat = 64 - tl.length := by omega
      have e4 : (val tl : Int) * 2 ^ (64 - tl.length) = ((val tl * 2 ^ (64 - tl.length) : Nat) : Int) := by rw [Int.natCast_mul, Int.natCast_pow]; rfl
      rw [e3, e4]
      exact u64_in _ (by omega) (by omega)) ?_
    refine xcall rfl rfl (spread_does w1.drew A' w.heap.size (8 * ws.length) _ _ _ (List.replicate ((bs.length + 7) / 8) 0) (fun _ => by rw [hA' _ _ rfl (by omega), Nat.zero_add]) hbb1 (by omega) (by simp; omega)) (fun v w2 h2 => ?_)
    obtain ⟨_, hbb2, hfr2⟩ := h2
    have hF : Fr (· = w.heap.size) w1 w2 := (Fr.drew _ _).t hfr2
    have hg := hB.lt
    have hd02 : w2.cell? ⟨g, 0, none⟩ = some (.pointer p) := hF.cell hd0 (by show ¬ g = _; omega)
    repeat' (first | refine xp rfl ?_ | refine xnil ?_ | refine xai rfl rfl rfl (by omega) (by omega) ?_ | refine xdi rfl rfl rfl (by omega) (by omega) (by omega) ?_ | refine xau rfl rfl rfl (by omega) (by omega) ?_ | refine xct rfl rfl rfl (by omega) ?_ | refine xcf rfl rfl rfl (by omega) ?_ | refine xgy rfl ?_ | refine xgn rfl ?_ | refine tseq ?_ | refine tct rfl ?_ | refine tcf rfl ?_ | refine tskip ?_ | refine treg (by kernel_rfl) ?_ | refine tdraw (by kernel_rfl) (by decide +kernel) ?_ | refine tblock ?_ | refine tblk ?_ | refine texit rfl ?_ | refine xixn rfl rfl rfl (by omega) ?_ | refine xld rfl rfl (by assumption) ?_)
    refine tlabel ?_
    refine tweak (H (p, ws, _) w2 ⟨(hch.fr hE1 fun _ _ _ hh => hh).fr hF fun b cs hb e => Blk.ne_ hb hbb1 (by decide) e, hws, hbb2, by dsimp only; rw [length_spr]; simp, by dsimp only; omega, ?_, ?_, hE1.te hF (fun j hj e => by omega), Nat.le_refl _, rfl⟩) (sub ⟨rfl, ieq (by dsimp only; omega), rfl⟩)
    · intro j hj
      dsimp only at hj ⊢
      rw [spr_get _ _ _ _ (by simp; omega)]
      by_cases h8 : j < (bs.length + 7) / 8
      · rw [if_pos (by omega), pk_get ws tl hws htl htb bs hbs j h8, if_neg (by omega)]
      · rw [if_neg (by omega), List.getElem?_eq_none (by simp; omega), List.getElem?_eq_none (by rw [length_pk]; omega)]
    · intro j hj
      dsimp only at hj ⊢
      rw [pk_get ws tl hws htl htb bs hbs j (by omega), if_pos hj]
end Eng
end Go.Proofs.Ytighkjohpmlemaa
