/-
  Bits as lists of 0 and 1: their value, the bits of a number, bytes filled up. Plain facts.
-/
import Derived.Test.YtighkjohpmlemaaMemB
namespace Go.Proofs.Ytighkjohpmlemaa
namespace Eng

/-- The number that bits spell, the first the heaviest. -/
def val (bs : List Nat) : Nat := bs.foldl (fun a b => 2 * a + b) 0
/-- The lowest l bits of n, the heaviest first. -/
def bitsOf (n : Nat) : Nat → List Nat
  | 0 => []
  | l + 1 => n / 2 ^ l % 2 :: bitsOf n l
def Bits (bs : List Nat) : Prop := ∀ b ∈ bs, b < 2

theorem val_nil : val [] = 0 := rfl
theorem foldl_val (bs : List Nat) : ∀ a, bs.foldl (fun a b => 2 * a + b) a = a * 2 ^ bs.length + val bs := by
  induction bs with
  | nil => intro a; simp [val]
  | cons b r ih =>
    intro a
    simp only [List.foldl_cons, val, List.length_cons]
    rw [ih, ih (2 * 0 + b), Nat.pow_succ]
    have : (2 * a + b) * 2 ^ r.length = a * (2 ^ r.length * 2) + b * 2 ^ r.length := by rw [Nat.add_mul, Nat.mul_comm 2 a, Nat.mul_assoc, Nat.mul_comm 2]
    rw [this]; simp; omega
theorem val_cons (b : Nat) (r : List Nat) : val (b :: r) = b * 2 ^ r.length + val r := by
  show List.foldl _ (2 * 0 + b) r = _
  rw [foldl_val]; simp
theorem val_append (a b : List Nat) : val (a ++ b) = val a * 2 ^ b.length + val b := by
  unfold val; rw [List.foldl_append, foldl_val]; rfl
theorem val_snoc (a : List Nat) (b : Nat) : val (a ++ [b]) = 2 * val a + b := by
  rw [val_append]; simp [val]; omega
theorem val_lt {bs : List Nat} (h : Bits bs) : val bs < 2 ^ bs.length := by
  induction bs with
  | nil => simp [val]
  | cons b r ih =>
    have h1 := ih fun x hx => h x (by simp [hx])
    have h2 := h b (by simp)
    rw [val_cons, List.length_cons, Nat.pow_succ]
    have : b * 2 ^ r.length ≤ 1 * 2 ^ r.length := Nat.mul_le_mul_right _ (by omega)
    omega
theorem val_zeros (k : Nat) : val (List.replicate k 0) = 0 := by
  induction k with
  | zero => rfl
  | succ k ih => rw [List.replicate_succ, val_cons, ih]; simp
theorem val_append_zeros (a : List Nat) (k : Nat) : val (a ++ List.replicate k 0) = val a * 2 ^ k := by rw [val_append, val_zeros]; simp

theorem length_bitsOf (n l : Nat) : (bitsOf n l).length = l := by
  induction l with
  | zero => rfl
  | succ l ih => simp [bitsOf, ih]
theorem bits_bitsOf (n l : Nat) : Bits (bitsOf n l) := by
  induction l with
  | zero => intro b hb; cases hb
  | succ l ih =>
    intro b hb
    rcases List.mem_cons.1 hb with rfl | h
    · omega
    · exact ih b h
theorem val_bitsOf (n l : Nat) : val (bitsOf n l) = n % 2 ^ l := by
  induction l with
  | zero => simp [bitsOf, val, Nat.mod_one]
  | succ l ih =>
    rw [bitsOf, val_cons, ih, length_bitsOf, Nat.pow_succ]
    have h1 := Nat.div_add_mod n (2 ^ l)
    have h2 := Nat.div_add_mod (n / 2 ^ l) 2
    have h3 : n % (2 ^ l * 2) = n % 2 ^ l + 2 ^ l * (n / 2 ^ l % 2) := Nat.mod_mul
    rw [h3, Nat.mul_comm (n / 2 ^ l % 2)]; omega
theorem bitsOf_add (n : Nat) (k l : Nat) : bitsOf n (k + l) = bitsOf (n / 2 ^ l) k ++ bitsOf n l := by
  induction k with
  | zero => simp [bitsOf]
  | succ k ih =>
    rw [show k + 1 + l = (k + l) + 1 from by omega, bitsOf, ih, bitsOf, List.cons_append]
    congr 2
    rw [Nat.div_div_eq_div_mul, ← Nat.pow_add, Nat.add_comm l k]
theorem bitsOf_val {bs : List Nat} (h : Bits bs) : ∀ m, bitsOf (m * 2 ^ bs.length + val bs) bs.length = bs := by
  induction bs with
  | nil => intro m; rfl
  | cons b r ih =>
    intro m
    have h1 := h b (by simp)
    have hr : Bits r := fun x hx => h x (by simp [hx])
    have h2 := val_lt hr
    rw [List.length_cons, bitsOf, val_cons]
    have e : m * 2 ^ (r.length + 1) + (b * 2 ^ r.length + val r) = (2 * m + b) * 2 ^ r.length + val r := by
      rw [Nat.pow_succ, Nat.add_mul]; 
      have : m * (2 ^ r.length * 2) = 2 * m * 2 ^ r.length := by rw [Nat.mul_comm 2 m, Nat.mul_assoc, Nat.mul_comm 2]
      omega
    rw [e, ih hr]
    congr 1
    rw [Nat.mul_comm, Nat.mul_add_div (Nat.two_pow_pos _), Nat.div_eq_of_lt h2]; omega
theorem bitsOf_val' {bs : List Nat} (h : Bits bs) : bitsOf (val bs) bs.length = bs := by simpa using bitsOf_val h 0
theorem bitsOf_mod (n l : Nat) : bitsOf (n % 2 ^ l) l = bitsOf n l := by
  have := bitsOf_val' (bits_bitsOf n l)
  rw [length_bitsOf, val_bitsOf] at this
  exact this

/-- A part of bits is read off their value. -/
theorem val_part (a m c : List Nat) (hm : Bits m) (hc : Bits c) : val (a ++ m ++ c) / 2 ^ c.length % 2 ^ m.length = val m := by
  have h1 := val_lt hm
  have h2 := val_lt hc
  rw [val_append (a ++ m) c, val_append a m, Nat.mul_comm, Nat.mul_add_div (Nat.two_pow_pos _), Nat.div_eq_of_lt h2, Nat.add_zero, Nat.mul_comm (val a), Nat.mul_add_mod, Nat.mod_eq_of_lt h1]

/-- Eight bits, filled up. -/
def byte8 (l : List Nat) : Nat := val (l.take 8 ++ List.replicate (8 - l.length) 0)
/-- Bits as bytes, the last filled up. -/
def pk (bs : List Nat) : List Int := (List.range ((bs.length + 7) / 8)).map fun i => (byte8 (bs.drop (8 * i)) : Int)
theorem length_pk (bs : List Nat) : (pk bs).length = (bs.length + 7) / 8 := by simp [pk]

/-- The bit at a place of bytes. -/
def bitAt (zs : List Int) (p : Nat) : Nat := (zs.getD (p / 8) 0).toNat / 2 ^ (7 - p % 8) % 2
/-- The bits of bytes. -/
def unpk (zs : List Int) (p l : Nat) : List Nat := (List.range l).map fun i => bitAt zs (p + i)

theorem byte8_lt (l : List Nat) (h : Bits l) : byte8 l < 256 := by
  unfold byte8
  have hb : Bits (l.take 8 ++ List.replicate (8 - l.length) 0) := by
    intro b hb
    rcases List.mem_append.1 hb with h' | h'
    · exact h b (List.mem_of_mem_take h')
    · have := (List.mem_replicate.1 h').2; omega
  have h1 := val_lt hb
  have h2 : (l.take 8 ++ List.replicate (8 - l.length) 0).length = 8 := by simp; omega
  rw [h2] at h1; exact h1

theorem bitAt_byte (l : List Nat) (h : Bits l) (j : Nat) (hj : j < 8) : byte8 l / 2 ^ (7 - j) % 2 = (l.take 8 ++ List.replicate (8 - l.length) 0)[j]?.getD 0 := by
  unfold byte8
  generalize hL : l.take 8 ++ List.replicate (8 - l.length) 0 = L
  have hlen : L.length = 8 := by rw [← hL]; simp; omega
  have hB : Bits L := by
    rw [← hL]
    intro b hb
    rcases List.mem_append.1 hb with h' | h'
    · exact h b (List.mem_of_mem_take h')
    · have := (List.mem_replicate.1 h').2; omega
  have hsplit : L = L.take j ++ [L[j]'(by omega)] ++ L.drop (j + 1) := by
    rw [List.append_assoc, List.singleton_append, ← List.drop_eq_getElem_cons (by omega), List.take_append_drop]
  have hd : (L.drop (j + 1)).length = 7 - j := by simp; omega
  have := val_part (L.take j) [L[j]'(by omega)] (L.drop (j + 1)) (fun b hb => by
    have : b = L[j]'(by omega) := by simpa using hb
    rw [this]; exact hB _ (List.getElem_mem _)) (fun b hb => hB b (List.mem_of_mem_drop hb))
  rw [← hsplit, hd] at this
  simp only [List.length_singleton, Nat.pow_one] at this
  rw [this, List.getElem?_eq_getElem (by omega)]
  simp [val]

/-- What was put is there. -/
theorem bitAt_pk (bs : List Nat) (h : Bits bs) (p : Nat) (hp : p < 8 * ((bs.length + 7) / 8)) : bitAt (pk bs) p = bs[p]?.getD 0 := by
  unfold bitAt
  have h1 : p / 8 < (bs.length + 7) / 8 := by omega
  have e : (pk bs).getD (p / 8) 0 = (byte8 (bs.drop (8 * (p / 8))) : Int) := by
    rw [List.getD_eq_getElem?_getD]
    simp [pk, h1]
  rw [e, Int.toNat_natCast, bitAt_byte _ (fun b hb => h b (List.mem_of_mem_drop hb)) _ (Nat.mod_lt _ (by decide))]
  by_cases hlt : p < bs.length
  · have e2 : p % 8 < ((bs.drop (8 * (p / 8))).take 8).length := by simp; omega
    rw [List.getElem?_append_left e2, List.getElem?_take_of_lt (Nat.mod_lt _ (by decide)), List.getElem?_drop]
    congr 2; omega
  · have en : bs[p]? = none := List.getElem?_eq_none (by omega)
    rw [en]
    by_cases e2 : p % 8 < ((bs.drop (8 * (p / 8))).take 8).length
    · simp at e2; omega
    · rw [List.getElem?_append_right (by omega), List.getElem?_replicate]
      split <;> rfl

theorem unpk_pk (bs : List Nat) (h : Bits bs) (p l : Nat) (hp : p + l ≤ bs.length) : unpk (pk bs) p l = (bs.drop p).take l := by
  apply List.ext_getElem
  · simp [unpk]; omega
  · intro i h1 h2
    simp only [unpk, List.getElem_map, List.getElem_range, List.getElem_take, List.getElem_drop]
    have h3 : i < l := by simpa [unpk] using h1
    rw [bitAt_pk bs h (p + i) (by omega), List.getElem?_eq_getElem (by omega)]; rfl

theorem length_unpk (zs : List Int) (p l : Nat) : (unpk zs p l).length = l := by simp [unpk]
theorem bits_unpk (zs : List Int) (p l : Nat) : Bits (unpk zs p l) := by
  intro b hb
  simp only [unpk, List.mem_map] at hb
  obtain ⟨i, _, rfl⟩ := hb
  unfold bitAt; omega
theorem unpk_succ (zs : List Int) (p l : Nat) : unpk zs p (l + 1) = unpk zs p l ++ [bitAt zs (p + l)] := by
  simp [unpk, List.range_succ]

end Eng
end Go.Proofs.Ytighkjohpmlemaa
