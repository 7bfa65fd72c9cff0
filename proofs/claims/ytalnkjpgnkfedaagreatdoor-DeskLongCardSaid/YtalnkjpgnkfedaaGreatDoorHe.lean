/-
  Package huff: symbol, count, Codes; the library's Min and Max.
-/
import Derived.Test.YtalnkjpgnkfedaaGreatDoorHd
import Derived.Test.YtalnkjpgnkfedaaGreatDoorHa
import Derived.Test.YtalnkjpgnkfedaaGreatDoorMem
namespace Go.Proofs.YtalnkjpgnkfedaaGreatDoor
open Go.RowKit
namespace Eng

/-- The place of the k-th element that is l. -/
def symGo : List Int → Int → Nat → Nat → Nat
  | [], _, _, i => i
  | z :: r, l, k, i => if z = l then (match k with
      | 0 => i
      | k + 1 => symGo r l k (i + 1)) else symGo r l k (i + 1)
def symB (zs : List Int) (l : Int) (k : Nat) : Nat := symGo zs l k 0

structure SymI (zs : List Int) (l : Int) (k0 : Nat) (w0 : World) (x : Nat × Nat) (w : World) : Prop where
  w : w = w0
  le : x.1 ≤ zs.length
  cnt : x.2 < (zs.drop x.1).count l
  go : symGo (zs.drop x.1) l x.2 x.1 = symB zs l k0

set_option maxRecDepth 20000 in
set_option maxHeartbeats 1000000 in
theorem symbol_does (w : World) (v : Value) (zs : List Int) (l : Int) (k : Nat) (hv : IRow w v zs) (hk : k < zs.count l) (hl : zs.length ≤ 400) :
    Does Tryz.prog 382 #[v, .int .i64 l, .int .u64 (k : Int)] w fun r w' => r = .int .i64 (symB zs l k : Int) ∧ w = w' := by
  obtain ⟨A, c, rfl, hc, hcm, hA⟩ := hv
  refine does3 Tryz.func382 rfl (by kernel_rfl) ?_
  refine wk ?_
  refine tscope1 (α := Nat × Nat) 0 rfl (fun x => [(0, .slice A zs.length c), (1, .int .i64 l), (2, .int .u64 (x.2 : Int)), (7, .int .i64 (x.1 : Int))]) (SymI zs l k w) (fun x => zs.length - x.1) ?_ ?_
  · rintro ⟨i, j⟩ w' ⟨rfl, hi, hcnt, hgo⟩
    dsimp only at hi hcnt hgo ⊢
    have hlt : i < zs.length := by
      rcases Nat.lt_or_ge i zs.length with h | h
      · exact h
      · rw [List.drop_eq_nil_of_le h] at hcnt; simp at hcnt
    obtain ⟨b, o, z, rfl, hb, hz, hcell, hdrop⟩ := at_row hA hlt
    rw [hdrop] at hcnt hgo
    by_cases hzl : z = l
    · subst hzl
      rw [List.count_cons_self] at hcnt
      cases j with
      | zero =>
        refine wk ?_
        refine tret1 rfl rfl ⟨?_, rfl⟩
        rw [← hgo]; simp [symGo]
      | succ j =>
        have hcl := List.count_le_length (a := z) (l := zs.drop (i + 1))
        rw [List.length_drop] at hcl
        refine wk ?_
        exact tgoto rfl ⟨_, (by show zs.length - (i + 1) < zs.length - i; omega), rfl, (i + 1, j), sub ⟨rfl, rfl, hieq (by dsimp only; omega), rfl⟩, ⟨rfl, by dsimp only; omega, by dsimp only; omega, by dsimp only; rw [← hgo]; simp [symGo]⟩, rfl⟩
    · rw [List.count_cons_of_ne hzl] at hcnt
      refine wk ?_
      exact tgoto rfl ⟨_, (by show zs.length - (i + 1) < zs.length - i; omega), rfl, (i + 1, j), sub ⟨rfl, rfl, rfl, rfl⟩, ⟨rfl, by dsimp only; omega, hcnt, by dsimp only; rw [← hgo]; simp [symGo, hzl]⟩, rfl⟩
  · intro H
    refine wk ?_
    refine tlabel ?_
    exact tweak (H (0, k) w ⟨rfl, by simp, by simpa using hk, by simp [symB]⟩) (sub ⟨rfl, rfl, rfl, rfl⟩)

/-- The least and the greatest. -/
def minL (zs : List Int) : Int := zs.tail.foldl min (zs.headD 0)
def maxL (zs : List Int) : Int := zs.tail.foldl max (zs.headD 0)

structure FoldI (f : Int → Int → Int) (zs : List Int) (w0 : World) (k : Nat) (w : World) : Prop where
  w : w = w0
  k1 : 1 ≤ k
  le : k ≤ zs.length

theorem foldl_take_succ (f : Int → Int → Int) (zs : List Int) (a : Int) (k : Nat) (z : Int) (hk : 1 ≤ k) (hz : zs[k]? = some z) : f ((zs.tail.take (k - 1)).foldl f a) z = (zs.tail.take k).foldl f a := by
  obtain ⟨j, rfl⟩ : ∃ j, k = j + 1 := ⟨k - 1, by omega⟩
  rw [Nat.add_sub_cancel]
  cases zs with
  | nil => simp at hz
  | cons y r =>
    simp only [List.tail_cons, List.getElem?_cons_succ] at hz ⊢
    rw [List.take_add_one, hz]; simp

set_option maxRecDepth 20000 in
set_option maxHeartbeats 1000000 in
theorem min_does (w : World) (v : Value) (zs : List Int) (hv : IRow w v zs) (hn : 0 < zs.length) (hl : zs.length ≤ 2 ^ 40) :
    Does Tryz.prog 305 #[v] w fun r w' => r = .int .i64 (minL zs) ∧ w = w' := by
  obtain ⟨A, c, rfl, hc, hcm, hA⟩ := hv
  obtain ⟨b, o, z, rfl, hb, hz, hcell, _⟩ := at_row hA hn
  have hh : zs.headD 0 = z := by cases zs with
    | nil => simp at hz
    | cons y r => simpa using hz
  rw [Nat.add_zero] at hcell
  refine does1 Tryz.func305 rfl (by kernel_rfl) ?_
  refine wk ?_
  refine tloop (α := Nat) (fun k => [(0, .slice (some ⟨b, o, none⟩) zs.length c), (3, .int .i64 ((zs.tail.take (k - 1)).foldl min z)), (4, .int .i64 (k : Int))]) (FoldI min zs w) (fun k => zs.length - k) 1 (sub ⟨rfl, by simp [look], rfl⟩) ⟨rfl, by omega, by omega⟩ ?_
  rintro k w' ⟨rfl, h1, hle⟩
  by_cases hlt : k < zs.length
  · obtain ⟨b', o', z', e, hb', hz', hcell', _⟩ := at_row hA hlt
    injection e with e; injection e with e1 e2; subst e1; subst e2
    refine wk ?_
    refine xmin rfl rfl ?_
    rw [foldl_take_succ min zs z k z' h1 hz']
    refine wk ?_
    exact tfin ⟨k + 1, sub ⟨rfl, rfl, rfl⟩, ⟨rfl, by omega, by omega⟩, by dsimp only; omega⟩
  · obtain rfl : k = zs.length := by omega
    refine wk ?_
    refine tret1 rfl rfl ⟨?_, rfl⟩
    unfold minL
    rw [hh, List.take_of_length_le (by simp)]

set_option maxRecDepth 20000 in
set_option maxHeartbeats 1000000 in
theorem max_does (w : World) (v : Value) (zs : List Int) (hv : IRow w v zs) (hn : 0 < zs.length) (hl : zs.length ≤ 2 ^ 40) :
    Does Tryz.prog 306 #[v] w fun r w' => r = .int .i64 (maxL zs) ∧ w = w' := by
  obtain ⟨A, c, rfl, hc, hcm, hA⟩ := hv
  obtain ⟨b, o, z, rfl, hb, hz, hcell, _⟩ := at_row hA hn
  have hh : zs.headD 0 = z := by cases zs with
    | nil => simp at hz
    | cons y r => simpa using hz
  rw [Nat.add_zero] at hcell
  refine does1 Tryz.func306 rfl (by kernel_rfl) ?_
  refine wk ?_
  refine tloop (α := Nat) (fun k => [(0, .slice (some ⟨b, o, none⟩) zs.length c), (3, .int .i64 ((zs.tail.take (k - 1)).foldl max z)), (4, .int .i64 (k : Int))]) (FoldI max zs w) (fun k => zs.length - k) 1 (sub ⟨rfl, by simp [look], rfl⟩) ⟨rfl, by omega, by omega⟩ ?_
  rintro k w' ⟨rfl, h1, hle⟩
  by_cases hlt : k < zs.length
  · obtain ⟨b', o', z', e, hb', hz', hcell', _⟩ := at_row hA hlt
    injection e with e; injection e with e1 e2; subst e1; subst e2
    refine wk ?_
    refine xmax rfl rfl ?_
    rw [foldl_take_succ max zs z k z' h1 hz']
    refine wk ?_
    exact tfin ⟨k + 1, sub ⟨rfl, rfl, rfl⟩, ⟨rfl, by omega, by omega⟩, by dsimp only; omega⟩
  · obtain rfl : k = zs.length := by omega
    refine wk ?_
    refine tret1 rfl rfl ⟨?_, rfl⟩
    unfold maxL
    rw [hh, List.take_of_length_le (by simp)]
end Eng
end Go.Proofs.YtalnkjpgnkfedaaGreatDoor
