/-
  Plain law: the two queues and the depths.
-/
import Derived.Test.YtighkjohpmlemaaOrd
import Derived.Test.YtighkjohpmlemaaHh
namespace Go.Proofs.Ytighkjohpmlemaa
open Go.RowKit
namespace Eng

def takeI (n leaf made : Nat) (sm : List Int) : Nat := if takeB n leaf made sm then leaf else made
def takeL (n leaf made : Nat) (sm : List Int) : Nat := if takeB n leaf made sm then leaf + 1 else leaf
def takeM (n leaf made : Nat) (sm : List Int) : Nat := if takeB n leaf made sm then made else made + 1

/-- What lies in the merge: the weights, the parents, the next leaf, the next joined node. -/
structure HSt where
  sm : List Int
  up : List Int
  leaf : Nat
  made : Nat

def HSt.i1 (n : Nat) (x : HSt) : Nat := takeI n x.leaf x.made x.sm
def HSt.l1 (n : Nat) (x : HSt) : Nat := takeL n x.leaf x.made x.sm
def HSt.m1 (n : Nat) (x : HSt) : Nat := takeM n x.leaf x.made x.sm
def HSt.i2 (n : Nat) (x : HSt) : Nat := takeI n (x.l1 n) (x.m1 n) x.sm
def HSt.step (n : Nat) (x : HSt) : HSt :=
  ⟨x.sm ++ [x.sm.getD (x.i1 n) 0 + x.sm.getD (x.i2 n) 0], (x.up.set (x.i1 n) (x.sm.length : Int)).set (x.i2 n) (x.sm.length : Int), takeL n (x.l1 n) (x.m1 n) x.sm, takeM n (x.l1 n) (x.m1 n) x.sm⟩
def HSt.run (n : Nat) : Nat → HSt → HSt
  | 0, x => x
  | k + 1, x => (HSt.run n k x).step n

/-- What holds all along. -/
structure HOk (n : Nat) (x : HSt) : Prop where
  n2 : 2 ≤ n
  lf : x.leaf ≤ n
  md : x.made ≤ x.sm.length
  nm : n ≤ x.made
  sum : x.leaf + x.made + n = 2 * x.sm.length
  big : x.sm.length + 1 ≤ 2 * n
  ul : x.up.length + 1 = 2 * n
  upr : ∀ i, i < x.leaf ∨ (n ≤ i ∧ i < x.made) → (i : Int) < x.up.getD i 0 ∧ x.up.getD i 0 < x.sm.length

theorem take_cases (n leaf made : Nat) (sm : List Int) (h1 : leaf ≤ n) (h2 : made ≤ sm.length) (h3 : leaf + made < n + sm.length) :
    (takeI n leaf made sm = leaf ∧ takeL n leaf made sm = leaf + 1 ∧ takeM n leaf made sm = made ∧ leaf < n) ∨ (takeI n leaf made sm = made ∧ takeL n leaf made sm = leaf ∧ takeM n leaf made sm = made + 1 ∧ made < sm.length) := by
  unfold takeI takeL takeM
  by_cases hT : takeB n leaf made sm = true
  · left
    rw [if_pos hT, if_pos hT, if_pos hT]
    simp only [takeB, Bool.and_eq_true, decide_eq_true_eq] at hT
    exact ⟨rfl, rfl, rfl, hT.1⟩
  · right
    rw [if_neg hT, if_neg hT, if_neg hT]
    refine ⟨rfl, rfl, rfl, ?_⟩
    simp only [takeB, Bool.and_eq_true, Bool.or_eq_true, decide_eq_true_eq] at hT
    by_cases h : made = sm.length
    · exact absurd ⟨by omega, .inl h⟩ hT
    · omega

theorem getD_set {l : List Int} {i j : Nat} {z : Int} : (l.set i z).getD j 0 = if i = j ∧ i < l.length then z else l.getD j 0 := by
  rw [List.getD_eq_getElem?_getD, List.getD_eq_getElem?_getD, List.getElem?_set]
  by_cases h : i = j
  · subst h
    by_cases h2 : i < l.length
    · simp [h2]
    · simp [h2]
  · simp [h]

theorem HOk.step {n : Nat} {x : HSt} (h : HOk n x) (hb : x.sm.length + 2 ≤ 2 * n) : HOk n (x.step n) := by
  obtain ⟨n2, lf, md, nm, sum, big, ul, upr⟩ := h
  have t1 := take_cases n x.leaf x.made x.sm lf md (by omega)
  have l1d : x.l1 n = takeL n x.leaf x.made x.sm := rfl
  have m1d : x.m1 n = takeM n x.leaf x.made x.sm := rfl
  have i1d : x.i1 n = takeI n x.leaf x.made x.sm := rfl
  have t2 := take_cases n (x.l1 n) (x.m1 n) x.sm (by omega) (by omega) (by omega)
  have i2d : x.i2 n = takeI n (x.l1 n) (x.m1 n) x.sm := rfl
  refine ⟨n2, ?_, ?_, ?_, ?_, ?_, ?_, ?_⟩
  · show takeL n (x.l1 n) (x.m1 n) x.sm ≤ n; omega
  · show takeM n (x.l1 n) (x.m1 n) x.sm ≤ (x.sm ++ [_]).length; rw [List.length_append]; simp only [List.length_cons, List.length_nil]; omega
  · show n ≤ takeM n (x.l1 n) (x.m1 n) x.sm; omega
  · show takeL n (x.l1 n) (x.m1 n) x.sm + takeM n (x.l1 n) (x.m1 n) x.sm + n = 2 * (x.sm ++ [_]).length; rw [List.length_append]; simp only [List.length_cons, List.length_nil]; omega
  · show (x.sm ++ [_]).length + 1 ≤ 2 * n; rw [List.length_append]; simp only [List.length_cons, List.length_nil]; omega
  · show ((x.up.set _ _).set _ _).length + 1 = 2 * n; rw [List.length_set, List.length_set]; exact ul
  · intro i hi
    have hi' : i < takeL n (x.l1 n) (x.m1 n) x.sm ∨ n ≤ i ∧ i < takeM n (x.l1 n) (x.m1 n) x.sm := hi
    show (i : Int) < ((x.up.set (x.i1 n) _).set (x.i2 n) _).getD i 0 ∧ ((x.up.set (x.i1 n) _).set (x.i2 n) _).getD i 0 < ((x.sm ++ [_]).length : Int)
    rw [List.length_append]
    simp only [List.length_cons, List.length_nil]
    rw [getD_set, getD_set, List.length_set]
    split
    · omega
    · split
      · omega
      · have := upr i (by omega)
        omega

theorem HOk.run {n : Nat} {x : HSt} (h : HOk n x) (hl : x.sm.length = n) : ∀ k, k + 1 ≤ n → HOk n (x.run n k) ∧ (x.run n k).sm.length = n + k
  | 0, _ => ⟨h, hl⟩
  | k + 1, hk => by
    obtain ⟨h1, h2⟩ := HOk.run h hl k (by omega)
    refine ⟨h1.step (by omega), ?_⟩
    show ((HSt.run n k x).sm ++ [_]).length = _
    rw [List.length_append, h2]
    simp only [List.length_cons, List.length_nil]
    omega

/-- The start. -/
def HSt.init (ws : List Int) : HSt := ⟨ws, List.replicate (2 * ws.length - 1) 0, 0, ws.length⟩
theorem HOk.init {ws : List Int} (h : 2 ≤ ws.length) : HOk ws.length (HSt.init ws) :=
  ⟨h, Nat.zero_le _, Nat.le_refl _, Nat.le_refl _, by show 0 + ws.length + ws.length = 2 * ws.length; omega, by show ws.length + 1 ≤ _; omega, by show (List.replicate _ _).length + 1 = _; rw [List.length_replicate]; omega, fun i hi => by
    have hi' : i < 0 ∨ ws.length ≤ i ∧ i < ws.length := hi
    omega⟩

/-- The depths of all below i. -/
def dgo (up : List Int) : Nat → List Int → List Int
  | 0, d => d
  | i + 1, d => dgo up i (d.set i (d.getD (up.getD i 0).toNat 0 + 1))
/-- The depths as the code lays them: those from i on are laid. -/
def dto (up : List Int) (m : Nat) : Nat → List Int
  | 0 => List.replicate (m + 1) 0
  | k + 1 => (dto up m k).set (m - (k + 1)) ((dto up m k).getD (up.getD (m - (k + 1)) 0).toNat 0 + 1)
@[simp] theorem length_dto (up : List Int) (m k : Nat) : (dto up m k).length = m + 1 := by induction k with
  | zero => simp [dto]
  | succ k ih => simp [dto, ih]
theorem dto_le (up : List Int) (m : Nat) : ∀ k i, 0 ≤ (dto up m k).getD i 0 ∧ (dto up m k).getD i 0 ≤ k
  | 0, i => by
    unfold dto
    rw [List.getD_eq_getElem?_getD, List.getElem?_replicate]
    split <;> simp
  | k + 1, i => by
    unfold dto
    rw [getD_set]
    split
    · have := dto_le up m k (up.getD (m - (k + 1)) 0).toNat
      omega
    · have := dto_le up m k i
      omega

/-- The lengths laid at the symbols' places. -/
def lgo (S deep lens : List Int) : Nat → List Int
  | 0 => lens
  | k + 1 => (lgo S deep lens k).set (S.getD k 0).toNat (deep.getD k 0)
@[simp] theorem length_lgo (S deep lens : List Int) (k : Nat) : (lgo S deep lens k).length = lens.length := by induction k with
  | zero => rfl
  | succ k ih => simp [lgo, ih]

def deepB (ws : List Int) : List Int := dto ((HSt.init ws).run ws.length (ws.length - 1)).up (2 * ws.length - 2) (2 * ws.length - 2)
/-- What merge computes. -/
def mergeB (cs : List Int) : List Int :=
  let S := ordB cs
  let z := List.replicate cs.length (0 : Int)
  if S.length = 0 then z
  else if S.length = 1 then z.set (S.getD 0 0).toNat 1
  else lgo S (deepB (S.map (cnt cs))) z S.length

end Eng
end Go.Proofs.Ytighkjohpmlemaa
