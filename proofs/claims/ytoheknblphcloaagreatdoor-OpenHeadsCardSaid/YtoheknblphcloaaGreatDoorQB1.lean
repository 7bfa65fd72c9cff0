/-
  Parts of the proof: Hg, Hh, Pa, Hi, Hj, Ra, Rc, Mb, Hk, Hl, Eo, Eob, Eoe, Eoa, Eoc, Eof, Eop.
-/
import Derived.Test.YtoheknblphcloaaGreatDoorQB0a
import Derived.Test.YtoheknblphcloaaGreatDoorQB0c
import Derived.Test.YtoheknblphcloaaGreatDoorQB0d
import Derived.Test.YtoheknblphcloaaGreatDoorQHf
set_option maxRecDepth 100000
set_option maxHeartbeats 64000000
namespace Go.Proofs.YtoheknblphcloaaGreatDoor.Eng
open Go.RowKit
section
theorem foldl_max_mem (l : List Int) : ∀ a : Int, l.foldl max a = a ∨ l.foldl max a ∈ l := by
 induction l with
 | nil => intro a; left; rfl
 | cons x r ih =>
  intro a
  rw [List.foldl_cons]
  rcases ih (max a x) with h | h
  ·by_cases hx : x ≤ a
   ·left; rw [h]; omega
   ·right; rw [h]; have : max a x = x := by omega
    rw [this]; simp
  ·right; simp [h]
theorem maxL_mem {zs : List Int} (h : zs ≠ []) : maxL zs ∈ zs := by
 cases zs with
 | nil => exact absurd rfl h
 | cons y r =>
  unfold maxL
  simp only [List.tail_cons, List.headD_cons]
  rcases foldl_max_mem r y with e | e
  ·rw [e]; simp
  ·simp [e]
end
section
section
variable {hs : List Nat} {H : World → Prop} {full : Array Oper} {K : Env → World → Prop} {rest : List Oper} {env : Env} {w : World} {d : Tmp} {dst : Option Tmp} {ty : TypeId} {pos : String} {af : Array Edge}
end
def takeB (n leaf made : Nat) (sm : List Int) : Bool := decide (leaf < n) && (decide (made = sm.length) || decide (sm.getD leaf 0 ≤ sm.getD made 0))
end
section
def posB (cs : List Int) : List Int := ((List.range cs.length).filter fun i => decide (0 < cs.getD i 0)).map fun (i : Nat) => (i : Int)
def cnt (cs : List Int) (x : Int) : Int := cs.getD x.toNat 0
def insB (c : Int → Int) (x : Int) : List Int → List Int
 | [] => [x]
 | y :: l => if c x < c y ∨ c x = c y ∧ x < y then x :: y :: l else y :: insB c x l
def srtB (c : Int → Int) : List Int → List Int
 | [] => []
 | x :: l => insB c x (srtB c l)
theorem insB_perm (c : Int → Int) (x : Int) : ∀ l, (insB c x l).Perm (x :: l)
 | [] => List.Perm.refl _
 | y :: l => by
  unfold insB
  split
  ·exact List.Perm.refl _
  ·exact ((insB_perm c x l).cons y).trans (List.Perm.swap x y l)
theorem srtB_perm (c : Int → Int) : ∀ l, (srtB c l).Perm l
 | [] => List.Perm.refl _
 | x :: l => (insB_perm c x _).trans ((srtB_perm c l).cons x)
theorem insB_sorted (c : Int → Int) (x : Int) : ∀ l, l.Pairwise (lt c) → (∀ y ∈ l, x ≠ y) → (insB c x l).Pairwise (lt c)
 | [], _, _ => by simp [insB]
 | y :: l, h, hn => by
  unfold insB
  rw [List.pairwise_cons] at h
  split
  ·rename_i hh
   rw [List.pairwise_cons, List.pairwise_cons]
   refine ⟨fun z hz => ?_, h.1, h.2⟩
   rcases List.mem_cons.1 hz with rfl | hz
   ·exact hh
   ·exact lt_trans hh (h.1 z hz)
  ·rename_i hh
   rw [List.pairwise_cons]
   refine ⟨fun z hz => ?_, insB_sorted c x l h.2 fun z hz => hn z (List.mem_cons_of_mem _ hz)⟩
   rcases List.mem_cons.1 ((insB_perm c x l).subset hz) with rfl | hz
   ·have := hn y (List.mem_cons_self ..)
    unfold lt; omega
   ·exact h.1 z hz
theorem srtB_sorted (c : Int → Int) : ∀ l : List Int, l.Nodup → (srtB c l).Pairwise (lt c)
 | [], _ => List.Pairwise.nil
 | x :: l, h => by
  rw [List.nodup_cons] at h
  exact insB_sorted c x _ (srtB_sorted c l h.2) fun y hy e => h.1 (by rw [e]; exact (srtB_perm c l).subset hy)
theorem posB_asc (cs : List Int) : (posB cs).Pairwise (· < ·) := by
 unfold posB
 rw [List.pairwise_map]
 exact ((List.pairwise_lt_range).filter _).imp fun h => by omega
theorem posB_mem {cs : List Int} {x : Int} (h : x ∈ posB cs) : 0 ≤ x ∧ x < cs.length ∧ 0 < cnt cs x := by
 unfold posB at h
 obtain ⟨i, hi, rfl⟩ := List.mem_map.1 h
 rw [List.mem_filter, List.mem_range] at hi
 exact ⟨by omega, by omega, by simpa [cnt] using hi.2⟩
theorem posB_nodup (cs : List Int) : (posB cs).Nodup := (posB_asc cs).imp fun h e => by omega
def ordB (cs : List Int) : List Int := srtB (cnt cs) (posB cs)
theorem ordB_perm (cs : List Int) : (ordB cs).Perm (posB cs) := srtB_perm _ _
theorem ordB_sorted (cs : List Int) : (ordB cs).Pairwise (lt (cnt cs)) := srtB_sorted _ _ (posB_nodup cs)
end
section
def takeI (n leaf made : Nat) (sm : List Int) : Nat := if takeB n leaf made sm then leaf else made
def takeL (n leaf made : Nat) (sm : List Int) : Nat := if takeB n leaf made sm then leaf + 1 else leaf
def takeM (n leaf made : Nat) (sm : List Int) : Nat := if takeB n leaf made sm then made else made + 1
structure HSt where
 sm : List Int
 up : List Int
 leaf : Nat
 made : Nat
def HSt.i1 (n : Nat) (x : HSt) : Nat := takeI n x.leaf x.made x.sm
def HSt.l1 (n : Nat) (x : HSt) : Nat := takeL n x.leaf x.made x.sm
def HSt.m1 (n : Nat) (x : HSt) : Nat := takeM n x.leaf x.made x.sm
def HSt.i2 (n : Nat) (x : HSt) : Nat := takeI n (x.l1 n) (x.m1 n) x.sm
def HSt.step (n : Nat) (x : HSt) : HSt :=
 ⟨x.sm ++ [x.sm.getD (x.i1 n) 0 + x.sm.getD (x.i2 n) 0], (x.up.set (x.i1 n) (x.sm.length : Int)).set (x.i2 n) (x.sm.length : Int), takeL n (x.l1 n) (x.m1 n) x.sm, takeM n (x.l1 n) (x.m1 n) x.sm⟩
def HSt.run (n : Nat) : Nat → HSt → HSt
 | 0, x => x
 | k + 1, x => (HSt.run n k x).step n
structure HOk (n : Nat) (x : HSt) : Prop where
 n2 : 2 ≤ n
 lf : x.leaf ≤ n
 md : x.made ≤ x.sm.length
 nm : n ≤ x.made
 sum : x.leaf + x.made + n = 2 * x.sm.length
 big : x.sm.length + 1 ≤ 2 * n
 ul : x.up.length + 1 = 2 * n
 upr : ∀ i, i < x.leaf ∨ (n ≤ i ∧ i < x.made) → (i : Int) < x.up.getD i 0 ∧ x.up.getD i 0 < x.sm.length
theorem take_cases (n leaf made : Nat) (sm : List Int) (h1 : leaf ≤ n) (h2 : made ≤ sm.length) (h3 : leaf + made < n + sm.length) :
  (takeI n leaf made sm = leaf ∧ takeL n leaf made sm = leaf + 1 ∧ takeM n leaf made sm = made ∧ leaf < n) ∨ (takeI n leaf made sm = made ∧ takeL n leaf made sm = leaf ∧ takeM n leaf made sm = made + 1 ∧ made < sm.length) := by
 unfold takeI takeL takeM
 by_cases hT : takeB n leaf made sm = true
 ·left
  rw [if_pos hT, if_pos hT, if_pos hT]
  simp only [takeB, Bool.and_eq_true, decide_eq_true_eq] at hT
  exact ⟨rfl, rfl, rfl, hT.1⟩
 ·right
  rw [if_neg hT, if_neg hT, if_neg hT]
  refine ⟨rfl, rfl, rfl, ?_⟩
  simp only [takeB, Bool.and_eq_true, Bool.or_eq_true, decide_eq_true_eq] at hT
  by_cases h : made = sm.length
  ·exact absurd ⟨by omega, .inl h⟩ hT
  ·omega
theorem getD_set {l : List Int} {i j : Nat} {z : Int} : (l.set i z).getD j 0 = if i = j ∧ i < l.length then z else l.getD j 0 := by
 rw [List.getD_eq_getElem?_getD, List.getD_eq_getElem?_getD, List.getElem?_set]
 by_cases h : i = j
 ·subst h
  by_cases h2 : i < l.length
  ·simp [h2]
  ·simp [h2]
 ·simp [h]
theorem HOk.step {n : Nat} {x : HSt} (h : HOk n x) (hb : x.sm.length + 2 ≤ 2 * n) : HOk n (x.step n) := by
 obtain ⟨n2, lf, md, nm, sum, big, ul, upr⟩ := h
 have t1 := take_cases n x.leaf x.made x.sm lf md (by omega)
 have l1d : x.l1 n = takeL n x.leaf x.made x.sm := rfl
 have m1d : x.m1 n = takeM n x.leaf x.made x.sm := rfl
 have i1d : x.i1 n = takeI n x.leaf x.made x.sm := rfl
 have t2 := take_cases n (x.l1 n) (x.m1 n) x.sm (by omega) (by omega) (by omega)
 have i2d : x.i2 n = takeI n (x.l1 n) (x.m1 n) x.sm := rfl
 refine ⟨n2, ?_, ?_, ?_, ?_, ?_, ?_, ?_⟩
 ·show takeL n (x.l1 n) (x.m1 n) x.sm ≤ n; omega
 ·show takeM n (x.l1 n) (x.m1 n) x.sm ≤ (x.sm ++ [_]).length; rw [List.length_append]; simp only [List.length_cons, List.length_nil]; omega
 ·show n ≤ takeM n (x.l1 n) (x.m1 n) x.sm; omega
 ·show takeL n (x.l1 n) (x.m1 n) x.sm + takeM n (x.l1 n) (x.m1 n) x.sm + n = 2 * (x.sm ++ [_]).length; rw [List.length_append]; simp only [List.length_cons, List.length_nil]; omega
 ·show (x.sm ++ [_]).length + 1 ≤ 2 * n; rw [List.length_append]; simp only [List.length_cons, List.length_nil]; omega
 ·show ((x.up.set _ _).set _ _).length + 1 = 2 * n; rw [List.length_set, List.length_set]; exact ul
 ·intro i hi
  have hi' : i < takeL n (x.l1 n) (x.m1 n) x.sm ∨ n ≤ i ∧ i < takeM n (x.l1 n) (x.m1 n) x.sm := hi
  show (i : Int) < ((x.up.set (x.i1 n) _).set (x.i2 n) _).getD i 0 ∧ ((x.up.set (x.i1 n) _).set (x.i2 n) _).getD i 0 < ((x.sm ++ [_]).length : Int)
  rw [List.length_append]
  simp only [List.length_cons, List.length_nil]
  rw [getD_set, getD_set, List.length_set]
  split
  ·omega
  ·split
   ·omega
   ·have := upr i (by omega)
    omega
theorem HOk.run {n : Nat} {x : HSt} (h : HOk n x) (hl : x.sm.length = n) : ∀ k, k + 1 ≤ n → HOk n (x.run n k) ∧ (x.run n k).sm.length = n + k
 | 0, _ => ⟨h, hl⟩
 | k + 1, hk => by
  obtain ⟨h1, h2⟩ := HOk.run h hl k (by omega)
  refine ⟨h1.step (by omega), ?_⟩
  show ((HSt.run n k x).sm ++ [_]).length = _
  rw [List.length_append, h2]
  simp only [List.length_cons, List.length_nil]
  omega
def HSt.init (ws : List Int) : HSt := ⟨ws, List.replicate (2 * ws.length - 1) 0, 0, ws.length⟩
theorem HOk.init {ws : List Int} (h : 2 ≤ ws.length) : HOk ws.length (HSt.init ws) :=
 ⟨h, Nat.zero_le _, Nat.le_refl _, Nat.le_refl _, by show 0 + ws.length + ws.length = 2 * ws.length; omega, by show ws.length + 1 ≤ _; omega, by show (List.replicate _ _).length + 1 = _; rw [List.length_replicate]; omega, fun i hi => by
  have hi' : i < 0 ∨ ws.length ≤ i ∧ i < ws.length := hi
  omega⟩
def dto (up : List Int) (m : Nat) : Nat → List Int
 | 0 => List.replicate (m + 1) 0
 | k + 1 => (dto up m k).set (m - (k + 1)) ((dto up m k).getD (up.getD (m - (k + 1)) 0).toNat 0 + 1)
@[simp] theorem length_dto (up : List Int) (m k : Nat) : (dto up m k).length = m + 1 := by induction k with
 | zero => simp [dto]
 | succ k ih => simp [dto, ih]
def lgo (S deep lens : List Int) : Nat → List Int
 | 0 => lens
 | k + 1 => (lgo S deep lens k).set (S.getD k 0).toNat (deep.getD k 0)
@[simp] theorem length_lgo (S deep lens : List Int) (k : Nat) : (lgo S deep lens k).length = lens.length := by induction k with
 | zero => rfl
 | succ k ih => simp [lgo, ih]
def deepB (ws : List Int) : List Int := dto ((HSt.init ws).run ws.length (ws.length - 1)).up (2 * ws.length - 2) (2 * ws.length - 2)
def mergeB (cs : List Int) : List Int :=
 let S := ordB cs
 let z := List.replicate cs.length (0 : Int)
 if S.length = 0 then z
 else if S.length = 1 then z.set (S.getD 0 0).toNat 1
 else lgo S (deepB (S.map (cnt cs))) z S.length
end
end Go.Proofs.YtoheknblphcloaaGreatDoor.Eng
namespace Go.Proofs.YtoheknblphcloaaGreatDoor
open Go.RowKit
namespace Eng
inductive Tr where
 | leaf (i : Nat)
 | node (a b : Tr)
def fibo : Nat → Int
 | 0 => 1
 | 1 => 2
 | k + 2 => fibo (k + 1) + fibo k
namespace Tr
def h : Tr → Nat
 | .leaf _ => 0
 | .node a b => max a.h b.h + 1
def w (ws : List Int) : Tr → Int
 | .leaf i => ws.getD i 0
 | .node a b => a.w ws + b.w ws
def sy : Tr → List Nat
 | .leaf i => [i]
 | .node a b => a.sy ++ b.sy
def lv (d : Nat) : Tr → List (Nat × Nat)
 | .leaf i => [(i, d)]
 | .node a b => a.lv (d + 1) ++ b.lv (d + 1)
def ok (ws : List Int) : Tr → Prop
 | .leaf i => 1 ≤ ws.getD i 0
 | .node a b => a.ok ws ∧ b.ok ws ∧ fibo (max a.h b.h + 1) ≤ a.w ws + b.w ws
theorem lv_sy : ∀ (t : Tr) (d : Nat), (t.lv d).map (·.1) = t.sy
 | .leaf _, _ => rfl
 | .node a b, d => by simp only [lv, sy, List.map_append, lv_sy a, lv_sy b]
theorem lv_bd : ∀ (t : Tr) (d j e : Nat), (j, e) ∈ t.lv d → d ≤ e ∧ e ≤ d + t.h
 | .leaf i, d, j, e, h => by
  simp only [lv, List.mem_singleton, Prod.mk.injEq] at h
  simp only [Tr.h]; omega
 | .node a b, d, j, e, h => by
  simp only [lv, List.mem_append] at h
  simp only [Tr.h]
  rcases h with h | h
  ·have := lv_bd a _ _ _ h; omega
  ·have := lv_bd b _ _ _ h; omega
theorem lv_top : ∀ (t : Tr) (d : Nat), ∃ j, (j, d + t.h) ∈ t.lv d
 | .leaf i, d => ⟨i, by simp [lv, Tr.h]⟩
 | .node a b, d => by
  obtain ⟨j, hj⟩ := lv_top a (d + 1)
  obtain ⟨j', hj'⟩ := lv_top b (d + 1)
  simp only [Tr.h, lv, List.mem_append]
  rcases Nat.le_total a.h b.h with hh | hh
  ·refine ⟨j', .inr ?_⟩
   rw [Nat.max_eq_right hh, show d + (b.h + 1) = d + 1 + b.h from by omega]; exact hj'
  ·refine ⟨j, .inl ?_⟩
   rw [Nat.max_eq_left hh, show d + (a.h + 1) = d + 1 + a.h from by omega]; exact hj
theorem kraft (H : Nat) : ∀ (t : Tr) (d : Nat), d + t.h ≤ H → ((t.lv d).map fun p => 2 ^ (H - p.2)).sum = 2 ^ (H - d)
 | .leaf i, d, _ => by simp [lv]
 | .node a b, d, hh => by
  simp only [Tr.h] at hh
  simp only [lv, List.map_append, List.sum_append]
  rw [kraft H a (d + 1) (by omega), kraft H b (d + 1) (by omega), show H - d = (H - (d + 1)) + 1 from by omega, Nat.pow_succ]
  omega
theorem ok_fib (ws : List Int) : ∀ t : Tr, t.ok ws → fibo t.h ≤ t.w ws
 | .leaf _, h => h
 | .node _ _, h => h.2.2
theorem ok_pos {ws : List Int} : ∀ t : Tr, t.ok ws → 1 ≤ t.w ws
 | .leaf _, h => h
 | .node a b, h => by
  have := ok_pos a h.1
  have := ok_pos b h.2.1
  simp only [w]; omega
theorem sy_pos : ∀ t : Tr, 0 < t.sy.length
 | .leaf _ => by simp [sy]
 | .node a b => by have := sy_pos a; simp [sy]; omega
end Tr
def Av (n len leaf made i : Nat) : Prop := (leaf ≤ i ∧ i < n) ∨ (made ≤ i ∧ i < len)
theorem take_min (n leaf made : Nat) (sm : List Int) (h1 : leaf ≤ n) (h2 : made ≤ sm.length) (h0 : n ≤ made) (h3 : leaf + made < n + sm.length)
  (hs : ∀ i j, i ≤ j → j < n → sm.getD i 0 ≤ sm.getD j 0) (hm : ∀ i j, n ≤ i → i ≤ j → j < sm.length → sm.getD i 0 ≤ sm.getD j 0) :
  Av n sm.length leaf made (takeI n leaf made sm) ∧ (∀ j, Av n sm.length leaf made j → sm.getD (takeI n leaf made sm) 0 ≤ sm.getD j 0) ∧
  ∀ j, Av n sm.length (takeL n leaf made sm) (takeM n leaf made sm) j ↔ Av n sm.length leaf made j ∧ j ≠ takeI n leaf made sm := by
 unfold takeI takeL takeM Av
 by_cases hT : takeB n leaf made sm = true
 ·rw [if_pos hT, if_pos hT, if_pos hT]
  simp only [takeB, Bool.and_eq_true, Bool.or_eq_true, decide_eq_true_eq] at hT
  refine ⟨by omega, fun j hj => ?_, fun j => by omega⟩
  rcases hj with hj | hj
  ·exact hs _ _ hj.1 hj.2
  ·rcases hT.2 with h | h
   ·omega
   ·exact Int.le_trans h (hm _ _ h0 hj.1 hj.2)
 ·rw [if_neg hT, if_neg hT, if_neg hT]
  simp only [takeB, Bool.and_eq_true, Bool.or_eq_true, decide_eq_true_eq, not_and, not_or] at hT
  have hml : made < sm.length := by
   by_cases hh : leaf < n
   ·have := (hT hh).1; omega
   ·omega
  refine ⟨by omega, fun j hj => ?_, fun j => by omega⟩
  rcases hj with hj | hj
  ·have := (hT (by omega)).2
   have := hs _ _ hj.1 hj.2
   omega
  ·exact hm _ _ h0 hj.1 hj.2
def d0 : Tr := .leaf 0
def Tk (n : Nat) (x : HSt) (i : Nat) : Prop := i < x.leaf ∨ (n ≤ i ∧ i < x.made)
structure TOk (ws : List Int) (x : HSt) (ts : List Tr) : Prop where
 ok : HOk ws.length x
 len : ts.length = x.sm.length
 n0 : ws.length ≤ x.sm.length
 wt : ∀ i, i < x.sm.length → x.sm.getD i 0 = (ts.getD i d0).w ws
 lf : ∀ i, i < ws.length → ts.getD i d0 = .leaf i
 asc : ∀ i j, ws.length ≤ i → i ≤ j → j < x.sm.length → x.sm.getD i 0 ≤ x.sm.getD j 0
 two : ∀ i j, Av ws.length x.sm.length x.leaf x.made i → Av ws.length x.sm.length x.leaf x.made j → i ≠ j → ∀ m, ws.length ≤ m → m < x.sm.length → x.sm.getD m 0 ≤ x.sm.getD i 0 + x.sm.getD j 0
 kid : ∀ i a b, Av ws.length x.sm.length x.leaf x.made i → ts.getD i d0 = .node a b → ∀ j, Av ws.length x.sm.length x.leaf x.made j → j ≠ i → a.w ws ≤ x.sm.getD j 0 ∧ b.w ws ≤ x.sm.getD j 0
 fib : ∀ i, i < x.sm.length → (ts.getD i d0).ok ws
 par : ∀ p, ws.length ≤ p → p < x.sm.length → ∃ i j, Tk ws.length x i ∧ Tk ws.length x j ∧ x.up.getD i 0 = p ∧ x.up.getD j 0 = p ∧ ts.getD p d0 = .node (ts.getD i d0) (ts.getD j d0)
 mono : ∀ i j, i ≤ j → (j < x.leaf ∨ ws.length ≤ i ∧ j < x.made) → x.up.getD i 0 ≤ x.up.getD j 0
 sys : ((List.range' x.leaf (ws.length - x.leaf) ++ List.range' x.made (x.sm.length - x.made)).flatMap fun i => (ts.getD i d0).sy).Perm (List.range ws.length)
 last : ws.length < x.sm.length → x.made < x.sm.length
 upn : ∀ i, Tk ws.length x i → (ws.length : Int) ≤ x.up.getD i 0
def tstep (n : Nat) (x : HSt) (ts : List Tr) : List Tr := ts ++ [.node (ts.getD (x.i1 n) d0) (ts.getD (x.i2 n) d0)]
theorem getD_snoc_lt {α : Type} (l : List α) (x d : α) (i : Nat) (h : i < l.length) : (l ++ [x]).getD i d = l.getD i d := by
 rw [List.getD_eq_getElem?_getD, List.getD_eq_getElem?_getD, List.getElem?_append_left h]
theorem getD_snoc_eq {α : Type} (l : List α) (x d : α) (i : Nat) (h : i = l.length) : (l ++ [x]).getD i d = x := by
 subst h; simp [List.getD_eq_getElem?_getD]
structure Pick (n : Nat) (x : HSt) (a b : Nat) : Prop where
 ava : Av n x.sm.length x.leaf x.made a
 avb : Av n x.sm.length x.leaf x.made b
 ne : a ≠ b
 mina : ∀ j, Av n x.sm.length x.leaf x.made j → x.sm.getD a 0 ≤ x.sm.getD j 0
 minb : ∀ j, Av n x.sm.length x.leaf x.made j → j ≠ a → x.sm.getD b 0 ≤ x.sm.getD j 0
 av' : ∀ j, Av n x.sm.length (x.step n).leaf (x.step n).made j ↔ Av n x.sm.length x.leaf x.made j ∧ j ≠ a ∧ j ≠ b
 tk : ∀ j, Tk n (x.step n) j ↔ Tk n x j ∨ j = a ∨ j = b
 mle : (x.step n).made ≤ x.sm.length
theorem TOk.leaves {ws : List Int} {x : HSt} {ts : List Tr} (h : TOk ws x ts) (hs : ∀ i j, i ≤ j → j < ws.length → ws.getD i 0 ≤ ws.getD j 0) : ∀ i j, i ≤ j → j < ws.length → x.sm.getD i 0 ≤ x.sm.getD j 0 := by
 intro i j hij hj
 have := h.n0
 rw [h.wt i (by omega), h.wt j (by omega), h.lf i (by omega), h.lf j hj]
 exact hs i j hij hj
theorem TOk.pick {ws : List Int} {x : HSt} {ts : List Tr} (h : TOk ws x ts) (hs : ∀ i j, i ≤ j → j < ws.length → ws.getD i 0 ≤ ws.getD j 0) (hb : x.sm.length + 2 ≤ 2 * ws.length) : Pick ws.length x (x.i1 ws.length) (x.i2 ws.length) := by
 have hl := h.leaves hs
 obtain ⟨n2, lf, md, nm, sum, big, ul, upr⟩ := h.ok
 have t1 := take_cases ws.length x.leaf x.made x.sm lf md (by omega)
 have m1 := take_min ws.length x.leaf x.made x.sm lf md nm (by omega) hl h.asc
 have e1 : takeI ws.length x.leaf x.made x.sm = x.i1 ws.length := rfl
 have e2 : takeL ws.length x.leaf x.made x.sm = x.l1 ws.length := rfl
 have e3 : takeM ws.length x.leaf x.made x.sm = x.m1 ws.length := rfl
 rw [e1, e2, e3] at t1 m1
 have t2 := take_cases ws.length (x.l1 ws.length) (x.m1 ws.length) x.sm (by omega) (by omega) (by omega)
 have m2 := take_min ws.length (x.l1 ws.length) (x.m1 ws.length) x.sm (by omega) (by omega) (by omega) (by omega) hl h.asc
 have e4 : takeI ws.length (x.l1 ws.length) (x.m1 ws.length) x.sm = x.i2 ws.length := rfl
 have e5 : takeL ws.length (x.l1 ws.length) (x.m1 ws.length) x.sm = (x.step ws.length).leaf := rfl
 have e6 : takeM ws.length (x.l1 ws.length) (x.m1 ws.length) x.sm = (x.step ws.length).made := rfl
 rw [e4, e5, e6] at t2 m2
 obtain ⟨a1, a2, a3⟩ := m1
 obtain ⟨b1, b2, b3⟩ := m2
 have b1' := (a3 _).1 b1
 refine ⟨a1, b1'.1, fun e => b1'.2 e.symm, a2, fun j hj hja => b2 j ((a3 j).2 ⟨hj, hja⟩), fun j => ?_, fun j => ?_, by omega⟩
 ·rw [b3 j, a3 j]; exact ⟨fun hh => ⟨hh.1.1, hh.1.2, hh.2⟩, fun hh => ⟨⟨hh.1, hh.2.1⟩, hh.2.2⟩⟩
 ·unfold Tk; omega
theorem range_take (leaf n : Nat) (h : leaf < n) : List.range' leaf (n - leaf) = leaf :: List.range' (leaf + 1) (n - (leaf + 1)) := by
 rw [show n - leaf = (n - (leaf + 1)) + 1 from by omega, List.range'_succ]
def avl (n len leaf made : Nat) : List Nat := List.range' leaf (n - leaf) ++ List.range' made (len - made)
theorem avl_take (n leaf made : Nat) (sm : List Int) (h1 : leaf ≤ n) (h2 : made ≤ sm.length) (h3 : leaf + made < n + sm.length) : (avl n sm.length leaf made).Perm (takeI n leaf made sm :: avl n sm.length (takeL n leaf made sm) (takeM n leaf made sm)) := by
 unfold avl
 rcases take_cases n leaf made sm h1 h2 h3 with ⟨e1, e2, e3, e4⟩ | ⟨e1, e2, e3, e4⟩
 ·rw [e1, e2, e3, range_take leaf n e4]; exact List.Perm.refl _
 ·rw [e1, e2, e3, range_take made sm.length e4]; exact List.perm_middle
theorem TOk.step {ws : List Int} {x : HSt} {ts : List Tr} (h : TOk ws x ts) (hs : ∀ i j, i ≤ j → j < ws.length → ws.getD i 0 ≤ ws.getD j 0) (hb : x.sm.length + 2 ≤ 2 * ws.length) : TOk ws (x.step ws.length) (tstep ws.length x ts) := by
 have pk := h.pick hs hb
 have ok' := h.ok.step hb
 obtain ⟨a, ha⟩ : ∃ a, a = x.i1 ws.length := ⟨_, rfl⟩
 obtain ⟨b, hb'⟩ : ∃ b, b = x.i2 ws.length := ⟨_, rfl⟩
 have hsm : (x.step ws.length).sm = x.sm ++ [x.sm.getD a 0 + x.sm.getD b 0] := by rw [ha, hb']; rfl
 have hup : (x.step ws.length).up = (x.up.set a (x.sm.length : Int)).set b (x.sm.length : Int) := by rw [ha, hb']; rfl
 have hts : tstep ws.length x ts = ts ++ [.node (ts.getD a d0) (ts.getD b d0)] := by rw [ha, hb']; rfl
 rw [← ha, ← hb'] at pk
 have hlen : (x.step ws.length).sm.length = x.sm.length + 1 := by rw [hsm]; simp
 have avlt : ∀ {j}, Av ws.length x.sm.length x.leaf x.made j → j < x.sm.length := fun {j} hj => by have := h.n0; unfold Av at hj; omega
 have hal := avlt pk.ava
 have hbl := avlt pk.avb
 have gl : ∀ i, i < x.sm.length → (x.step ws.length).sm.getD i 0 = x.sm.getD i 0 := fun i hi => by rw [hsm, getD_snoc_lt _ _ _ _ hi]
 have ge : (x.step ws.length).sm.getD x.sm.length 0 = x.sm.getD a 0 + x.sm.getD b 0 := by rw [hsm, getD_snoc_eq _ _ _ _ rfl]
 have tl : ∀ i, i < x.sm.length → (tstep ws.length x ts).getD i d0 = ts.getD i d0 := fun i hi => by rw [hts, getD_snoc_lt _ _ _ _ (by rw [h.len]; exact hi)]
 have te : (tstep ws.length x ts).getD x.sm.length d0 = .node (ts.getD a d0) (ts.getD b d0) := by rw [hts, getD_snoc_eq _ _ _ _ h.len.symm]
 have wa := h.wt a hal
 have wb := h.wt b hbl
 have oka := h.fib a hal
 have okb := h.fib b hbl
 have posa := Tr.ok_pos _ oka
 have posb := Tr.ok_pos _ okb
 have av2 : ∀ j, Av ws.length (x.step ws.length).sm.length (x.step ws.length).leaf (x.step ws.length).made j → j = x.sm.length ∨ (Av ws.length x.sm.length x.leaf x.made j ∧ j ≠ a ∧ j ≠ b) := fun j hj => by
  rw [← pk.av' j]
  rw [hlen] at hj
  unfold Av at hj ⊢
  omega
 have lasta : ∀ m, ws.length ≤ m → m < x.sm.length → x.sm.getD m 0 ≤ x.sm.getD a 0 + x.sm.getD b 0 := fun m h1 h2 => h.two a b pk.ava pk.avb pk.ne m h1 h2
 have n0 := h.n0
 have minb' : ∀ j, Av ws.length x.sm.length x.leaf x.made j → j ≠ a → x.sm.getD a 0 ≤ x.sm.getD j 0 ∧ x.sm.getD b 0 ≤ x.sm.getD j 0 := fun j hj hja => ⟨pk.mina j hj, pk.minb j hj hja⟩
 refine ⟨ok', by rw [hts, hlen]; simp [h.len], by omega, fun i hi => ?_, fun i hi => ?_, fun i j h1 h2 h3 => ?_, fun i j hi hj hij m h1 h2 => ?_, fun i ta tb hi he j hj hij => ?_, fun i hi => ?_, fun p h1 h2 => ?_, fun i j h1 h2 => ?_, ?_, fun _ => by have := pk.mle; omega, fun i hi => ?_⟩
 ·by_cases hi' : i < x.sm.length
  ·rw [gl i hi', tl i hi']; exact h.wt i hi'
  ·obtain rfl : i = x.sm.length := by omega
   rw [ge, te]; simp only [Tr.w]; omega
 ·rw [tl i (by omega)]; exact h.lf i hi
 ·by_cases h3' : j < x.sm.length
  ·rw [gl i (by omega), gl j h3']; exact h.asc i j h1 h2 h3'
  ·obtain rfl : j = x.sm.length := by omega
   rw [ge]
   by_cases h4 : i < x.sm.length
   ·rw [gl i h4]; exact lasta i h1 h4
   ·obtain rfl : i = x.sm.length := by omega
    rw [ge]; omega
 ·have hi' := av2 i hi
  have hj' := av2 j hj
  have key : (x.step ws.length).sm.getD m 0 ≤ x.sm.getD a 0 + x.sm.getD b 0 := by
   by_cases h4 : m < x.sm.length
   ·rw [gl m h4]; exact lasta m h1 h4
   ·obtain rfl : m = x.sm.length := by omega
    rw [ge]; omega
  rcases hi' with rfl | ⟨hi1, hi2, hi3⟩
  ·rcases hj' with rfl | ⟨hj1, hj2, hj3⟩
   ·exact absurd rfl hij
   ·have := minb' j hj1 hj2
    rw [ge, gl j (avlt hj1)]; omega
  ·rcases hj' with rfl | ⟨hj1, hj2, hj3⟩
   ·have := minb' i hi1 hi2
    rw [ge, gl i (avlt hi1)]; omega
   ·have := minb' j hj1 hj2
    have := minb' i hi1 hi2
    rw [gl i (avlt hi1), gl j (avlt hj1)]; omega
 ·have hi' := av2 i hi
  have hj' := av2 j hj
  rcases hi' with rfl | ⟨hi1, hi2, hi3⟩
  ·rw [te] at he
   injection he with e1 e2
   subst e1; subst e2
   rcases hj' with rfl | ⟨hj1, hj2, hj3⟩
   ·exact absurd rfl hij
   ·have := minb' j hj1 hj2
    rw [gl j (avlt hj1)]; omega
  ·rw [tl i (avlt hi1)] at he
   rcases hj' with rfl | ⟨hj1, hj2, hj3⟩
   ·have := h.kid i ta tb hi1 he a pk.ava (fun e => hi2 e.symm)
    rw [ge]; omega
   ·have := h.kid i ta tb hi1 he j hj1 hij
    rw [gl j (avlt hj1)]; exact this
 ·by_cases hi' : i < x.sm.length
  ·rw [tl i hi']; exact h.fib i hi'
  ·obtain rfl : i = x.sm.length := by omega
   rw [te]
   refine ⟨oka, okb, ?_⟩
   have fa := Tr.ok_fib ws _ oka
   have fb := Tr.ok_fib ws _ okb
   have key : ∀ (s t : Tr), s.ok ws → t.ok ws → t.h ≤ s.h → (∀ u v, s = .node u v → u.w ws ≤ t.w ws ∧ v.w ws ≤ t.w ws) → fibo (s.h + 1) ≤ s.w ws + t.w ws := by
    intro s t hs ht hle hk
    have p1 := Tr.ok_pos s hs
    have p2 := Tr.ok_pos t ht
    cases s with
    | leaf i => show (2 : Int) ≤ _; omega
    | node u v =>
     have hk' := hk u v rfl
     have f1 := Tr.ok_fib ws _ hs
     have hu := Tr.ok_fib ws u hs.1
     have hv := Tr.ok_fib ws v hs.2.1
     have e : (Tr.node u v).h = max u.h v.h + 1 := rfl
     rw [e] at f1 ⊢
     simp only [fibo]
     rcases Nat.le_total u.h v.h with hh | hh
     ·rw [Nat.max_eq_right hh] at f1 ⊢; omega
     ·rw [Nat.max_eq_left hh] at f1 ⊢; omega
   rcases Nat.le_total (ts.getD b d0).h (ts.getD a d0).h with hh | hh
   ·rw [Nat.max_eq_left hh]
    refine key _ _ oka okb hh fun u v e => ?_
    have := h.kid a u v pk.ava e b pk.avb (fun e => pk.ne e.symm)
    rw [wb] at this; exact this
   ·rw [Nat.max_eq_right hh, Int.add_comm]
    refine key _ _ okb oka hh fun u v e => ?_
    have := h.kid b u v pk.avb e a pk.ava pk.ne
    rw [wa] at this; exact this
 ·have ul := h.ok.ul
  have tkn : ∀ i, Tk ws.length x i → i ≠ a ∧ i ≠ b ∧ i < x.sm.length := fun i hi => by
   have h1 := pk.ava; have h2 := pk.avb; have h3 := h.ok.lf; have h4 := h.ok.nm; have h5 := h.ok.md
   unfold Tk at hi; unfold Av at h1 h2; omega
  by_cases h2' : p < x.sm.length
  ·obtain ⟨i, j, hi, hj, ui, uj, ht⟩ := h.par p h1 h2'
   have ni := tkn i hi
   have nj := tkn j hj
   refine ⟨i, j, (pk.tk i).2 (.inl hi), (pk.tk j).2 (.inl hj), ?_, ?_, ?_⟩
   ·rw [hup, getD_set, getD_set, if_neg (by omega), if_neg (by omega)]; exact ui
   ·rw [hup, getD_set, getD_set, if_neg (by omega), if_neg (by omega)]; exact uj
   ·rw [tl p h2', tl i ni.2.2, tl j nj.2.2]; exact ht
  ·obtain rfl : p = x.sm.length := by omega
   refine ⟨a, b, (pk.tk a).2 (.inr (.inl rfl)), (pk.tk b).2 (.inr (.inr rfl)), ?_, ?_, ?_⟩
   ·rw [hup, getD_set, getD_set, List.length_set]
    split
    ·rfl
    ·rw [if_pos (by omega)]
   ·rw [hup, getD_set, getD_set, List.length_set, if_pos (by omega)]
   ·rw [te, tl a hal, tl b hbl]
 ·have ul := h.ok.ul
  have hj' := pk.tk j
  have hi' := pk.tk i
  have h1a := pk.ava; have h2a := pk.avb; have h3a := h.ok.lf; have h4a := h.ok.nm; have h5a := h.ok.md
  have hup' : ∀ i, (x.step ws.length).up.getD i 0 = if i = a ∨ i = b then (x.sm.length : Int) else x.up.getD i 0 := fun i => by
   rw [hup, getD_set, getD_set, List.length_set]
   by_cases e1 : b = i
   ·rw [if_pos (by omega), if_pos (by omega)]
   ·rw [if_neg (by omega)]
    by_cases e2 : a = i
    ·rw [if_pos (by omega), if_pos (by omega)]
    ·rw [if_neg (by omega), if_neg (by omega)]
  rw [hup' i, hup' j]
  by_cases e1 : j = a ∨ j = b
  ·rw [if_pos e1]
   by_cases e2 : i = a ∨ i = b
   ·rw [if_pos e2]; omega
   ·rw [if_neg e2]
    have hk : Tk ws.length x i := by
     have : Tk ws.length (x.step ws.length) i := by unfold Tk; have := ok'.nm; have := ok'.lf; omega
     exact (hi'.1 this).resolve_right e2
    have := (h.ok.upr i hk).2; omega
  ·rw [if_neg e1]
   have hk : Tk ws.length x j := by
    have : Tk ws.length (x.step ws.length) j := by unfold Tk; omega
    exact (hj'.1 this).resolve_right e1
   have hk2 : i = a ∨ i = b → False := fun e2 => by
    unfold Tk at hk; unfold Av at h1a h2a; have := ok'.nm; have := ok'.lf; omega
   rw [if_neg hk2]
   refine h.mono i j h1 ?_
   unfold Tk at hk
   have := ok'.nm; have := ok'.lf
   omega
 ·have lf := h.ok.lf; have md := h.ok.md; have sum := h.ok.sum; have nm := h.ok.nm
  have t1 := take_cases ws.length x.leaf x.made x.sm lf md (by omega)
  have p1 := avl_take ws.length x.leaf x.made x.sm lf md (by omega)
  have e2 : takeL ws.length x.leaf x.made x.sm = x.l1 ws.length := rfl
  have e3 : takeM ws.length x.leaf x.made x.sm = x.m1 ws.length := rfl
  have e1 : takeI ws.length x.leaf x.made x.sm = a := ha.symm
  rw [e1, e2, e3] at p1
  rw [e2, e3] at t1
  have p2 := avl_take ws.length (x.l1 ws.length) (x.m1 ws.length) x.sm (by omega) (by omega) (by omega)
  have e4 : takeI ws.length (x.l1 ws.length) (x.m1 ws.length) x.sm = b := hb'.symm
  have e5 : takeL ws.length (x.l1 ws.length) (x.m1 ws.length) x.sm = (x.step ws.length).leaf := rfl
  have e6 : takeM ws.length (x.l1 ws.length) (x.m1 ws.length) x.sm = (x.step ws.length).made := rfl
  rw [e4, e5, e6] at p2
  have mle := pk.mle
  have p3 : (avl ws.length x.sm.length x.leaf x.made).Perm (a :: b :: avl ws.length x.sm.length (x.step ws.length).leaf (x.step ws.length).made) := p1.trans (p2.cons a)
  have p4 := (List.Perm.flatMap_right (fun i => (ts.getD i d0).sy) p3).symm.trans h.sys
  refine List.Perm.trans ?_ p4
  have e7 : List.range' (x.step ws.length).made ((x.step ws.length).sm.length - (x.step ws.length).made) = List.range' (x.step ws.length).made (x.sm.length - (x.step ws.length).made) ++ [x.sm.length] := by
   rw [hlen, show x.sm.length + 1 - (x.step ws.length).made = (x.sm.length - (x.step ws.length).made) + 1 from by omega, List.range'_concat]
   congr 2; omega
  rw [e7, ← List.append_assoc, List.flatMap_append]
  have e8 : (avl ws.length x.sm.length (x.step ws.length).leaf (x.step ws.length).made).flatMap (fun i => ((tstep ws.length x ts).getD i d0).sy) = (avl ws.length x.sm.length (x.step ws.length).leaf (x.step ws.length).made).flatMap (fun i => (ts.getD i d0).sy) := by
   rw [List.flatMap_def, List.flatMap_def]
   congr 1
   refine List.map_congr_left fun i hi => ?_
   rw [tl i]
   unfold avl at hi
   rw [List.mem_append, List.mem_range'_1, List.mem_range'_1] at hi
   have := ok'.lf
   omega
  show (List.flatMap (fun i => ((tstep ws.length x ts).getD i d0).sy) (avl ws.length x.sm.length (x.step ws.length).leaf (x.step ws.length).made) ++ _).Perm _
  rw [e8]
  simp only [List.flatMap_cons, List.flatMap_nil, List.append_nil, te, Tr.sy]
  exact List.perm_append_comm.trans (by rw [List.append_assoc])
 ·rw [hup, getD_set, getD_set]
  split
  ·omega
  ·split
   ·omega
   ·rename_i h1 h2
    have ul := h.ok.ul
    rw [List.length_set] at h1
    exact h.upn i (((pk.tk i).1 hi).resolve_right (by omega))
def trsB (ws : List Int) : Nat → List Tr
 | 0 => (List.range ws.length).map .leaf
 | k + 1 => tstep ws.length ((HSt.init ws).run ws.length k) (trsB ws k)
theorem flat_one (l : List Nat) (f : Nat → List Nat) (h : ∀ i ∈ l, f i = [i]) : l.flatMap f = l := by
 induction l with
 | nil => rfl
 | cons x r ih => rw [List.flatMap_cons, h x (List.mem_cons_self ..), ih fun i hi => h i (List.mem_cons_of_mem _ hi)]; rfl
theorem TOk.init {ws : List Int} (h2 : 2 ≤ ws.length) (hp : ∀ i, i < ws.length → 1 ≤ ws.getD i 0) : TOk ws (HSt.init ws) (trsB ws 0) := by
 have hg : ∀ i, i < ws.length → (trsB ws 0).getD i d0 = .leaf i := fun i hi => by
  simp [trsB, List.getD_eq_getElem?_getD, hi]
 have hl : (HSt.init ws).sm = ws := rfl
 have hle : (HSt.init ws).leaf = 0 := rfl
 have hma : (HSt.init ws).made = ws.length := rfl
 refine ⟨HOk.init h2, by simp [trsB, hl], by rw [hl]; omega, fun i hi => ?_, hg, fun i j h1 h2 h3 => ?_, fun i j _ _ _ m h1 h2 => ?_, fun i a b hi he => ?_, fun i hi => ?_, fun p h1 h2 => ?_, fun i j h1 h2 => ?_, ?_, fun hh => ?_, fun i hi => ?_⟩
 ·rw [hl] at hi ⊢; rw [hg i hi]; rfl
 ·rw [hl] at h3; omega
 ·rw [hl] at h2; omega
 ·rw [hl, hle, hma] at hi
  unfold Av at hi
  rw [hg i (by omega)] at he; cases he
 ·rw [hl] at hi; rw [hg i hi]; exact hp i hi
 ·rw [hl] at h2; omega
 ·rw [hle, hma] at h2; omega
 ·rw [hl, hle, hma, Nat.sub_self, Nat.sub_zero]
  simp only [List.range'_zero, List.append_nil]
  rw [flat_one _ _ fun i hi => by rw [List.mem_range'_1] at hi; rw [hg i (by omega)]; rfl, List.range_eq_range']
 ·rw [hl] at hh; omega
 ·unfold Tk at hi; rw [hle, hma] at hi; omega
theorem TOk.run {ws : List Int} (h2 : 2 ≤ ws.length) (hp : ∀ i, i < ws.length → 1 ≤ ws.getD i 0) (hs : ∀ i j, i ≤ j → j < ws.length → ws.getD i 0 ≤ ws.getD j 0) :
  ∀ k, k + 1 ≤ ws.length → TOk ws ((HSt.init ws).run ws.length k) (trsB ws k) ∧ ((HSt.init ws).run ws.length k).sm.length = ws.length + k
 | 0, _ => ⟨TOk.init h2 hp, rfl⟩
 | k + 1, hk => by
  obtain ⟨h1, h3⟩ := TOk.run h2 hp hs k (by omega)
  exact ⟨h1.step hs (by omega), ((HOk.init h2).run rfl (k + 1) hk).2⟩
structure Mrg (ws deep : List Int) (T : Tr) : Prop where
 ok : T.ok ws
 sy : T.sy.Perm (List.range ws.length)
 dp : ∀ j e, (j, e) ∈ T.lv 0 → deep.getD j 0 = (e : Int)
 h1 : 1 ≤ T.h
 mono : ∀ i j, i ≤ j → j < ws.length → deep.getD j 0 ≤ deep.getD i 0
end Eng
end Go.Proofs.YtoheknblphcloaaGreatDoor
namespace Go.Proofs.YtoheknblphcloaaGreatDoor.Eng
open Go.RowKit
section
theorem maxL_le {zs : List Int} {z : Int} (h : z ∈ zs) : z ≤ maxL zs := by
 have key : ∀ (l : List Int) (a : Int), a ≤ l.foldl max a ∧ ∀ y ∈ l, y ≤ l.foldl max a := by
  intro l
  induction l with
  | nil => intro a; exact ⟨Int.le_refl _, fun y hy => by cases hy⟩
  | cons x r ih =>
   intro a
   obtain ⟨h1, h2⟩ := ih (max a x)
   rw [List.foldl_cons]
   refine ⟨by omega, fun y hy => ?_⟩
   rcases List.mem_cons.1 hy with rfl | hy
   ·omega
   ·exact h2 y hy
 cases zs with
 | nil => cases h
 | cons x r =>
  unfold maxL
  simp only [List.tail_cons, List.headD_cons]
  rcases List.mem_cons.1 h with rfl | h
  ·exact (key r _).1
  ·exact (key r x).2 z h
def mg (z : Int) : Nat := if 0 < z then 2 ^ (12 - z.toNat) else 0
def npos (zs : List Int) : Nat := zs.countP fun z => decide (0 < z)
theorem mayGo_eq : ∀ (zs : List Int) (c s : Int), Lens zs → hmayGo zs c s = hmayGo [] (c + npos zs) (s + (zs.map mg).sum)
 | [], c, s, _ => by simp [npos]
 | z :: r, c, s, h => by
  have hz := h z (List.mem_cons_self ..)
  have hr : Lens r := fun y hy => h y (List.mem_cons_of_mem _ hy)
  rw [hmayGo_cons, if_neg (by omega)]
  by_cases h0 : 0 < z
  ·rw [if_pos h0, mayGo_eq r _ _ hr]
   have e1 : npos (z :: r) = npos r + 1 := by unfold npos; rw [List.countP_cons_of_pos (by simpa using h0)]
   have e2 : (mg z : Int) = p2 (12 - z) := by
    unfold mg p2
    rw [if_pos h0, show (12 - z).toNat = 12 - z.toNat from by omega]
    simp
   rw [e1, List.map_cons, List.sum_cons]
   congr 1
   ·omega
   ·rw [← e2]; omega
  ·rw [if_neg h0, mayGo_eq r _ _ hr]
   have e1 : npos (z :: r) = npos r := by unfold npos; rw [List.countP_cons_of_neg (by simpa using h0)]
   have e2 : mg z = 0 := by unfold mg; rw [if_neg h0]
   rw [e1, List.map_cons, List.sum_cons, e2, Nat.zero_add]
theorem mayB_of {zs : List Int} (hl : zs.length ≤ 400) (h : Lens zs) (hn : 2 ≤ npos zs) (hs : (zs.map mg).sum = 4096) : mayB zs = true := by
 unfold mayB
 rw [mayGo_eq zs 0 0 h, hmayGo_nil, if_neg (by omega), hs]
 simp [hl]
theorem ordB_mem {cs : List Int} {x : Int} : x ∈ ordB cs ↔ x ∈ posB cs := (ordB_perm cs).mem_iff
theorem posB_iff {cs : List Int} {x : Int} : x ∈ posB cs ↔ 0 ≤ x ∧ x < cs.length ∧ 0 < cnt cs x := by
 refine ⟨posB_mem, fun h => ?_⟩
 unfold posB
 refine List.mem_map.2 ⟨x.toNat, List.mem_filter.2 ⟨List.mem_range.2 (by omega), ?_⟩, by omega⟩
 have := h.2.2
 unfold cnt at this
 simpa using this
theorem getD_mem {l : List Int} {j : Nat} (h : j < l.length) : l.getD j 0 ∈ l := by
 rw [List.getD_eq_getElem?_getD, List.getElem?_eq_getElem h]; exact List.getElem_mem h
def wts (cs : List Int) : List Int := (ordB cs).map (cnt cs)
theorem wts_get (cs : List Int) (i : Nat) (h : i < (ordB cs).length) : (wts cs).getD i 0 = cnt cs ((ordB cs).getD i 0) := by
 unfold wts
 rw [List.getD_eq_getElem?_getD, List.getD_eq_getElem?_getD, List.getElem?_map, List.getElem?_eq_getElem h]; rfl
theorem wts_len (cs : List Int) : (wts cs).length = (ordB cs).length := by unfold wts; simp
theorem wts_asc (cs : List Int) : ∀ i j, i ≤ j → j < (wts cs).length → (wts cs).getD i 0 ≤ (wts cs).getD j 0 := fun i j hij hj => by
 rw [wts_len] at hj
 rcases Nat.lt_or_eq_of_le hij with h | h
 ·rw [wts_get cs i (by omega), wts_get cs j hj]
  have := List.pairwise_iff_getElem.1 (ordB_sorted cs) i j (by omega) hj h
  rw [List.getD_eq_getElem?_getD, List.getD_eq_getElem?_getD, List.getElem?_eq_getElem hj, List.getElem?_eq_getElem (show i < (ordB cs).length by omega)]
  show cnt cs (ordB cs)[i] ≤ cnt cs (ordB cs)[j]
  unfold lt at this; omega
 ·subst h; omega
@[simp] theorem mergeB_len (cs : List Int) : (mergeB cs).length = cs.length := by
 unfold mergeB
 simp only
 split
 ·simp
 ·split
  ·simp
  ·simp
structure LOk (cs lens : List Int) (T : Tr) : Prop where
 len : lens.length = cs.length
 mrg : ∃ deep, Mrg (wts cs) deep T ∧ ∀ j, j < (ordB cs).length → lens.getD ((ordB cs).getD j 0).toNat 0 = deep.getD j 0
 zero : ∀ s, s < cs.length → ¬ 0 < cs.getD s 0 → lens.getD s 0 = 0
section
variable {cs lens : List Int} {T : Tr}
theorem LOk.at_ (h : LOk cs lens T) {s : Nat} (hs : s < cs.length) (h0 : 0 < cs.getD s 0) : ∃ j e, j < (ordB cs).length ∧ (ordB cs).getD j 0 = (s : Int) ∧ (j, e) ∈ T.lv 0 ∧ lens.getD s 0 = (e : Int) := by
 obtain ⟨deep, hm, hl⟩ := h.mrg
 have hmem : (s : Int) ∈ ordB cs := ordB_mem.2 (posB_iff.2 ⟨by omega, by omega, by unfold cnt; simpa using h0⟩)
 obtain ⟨j, hj, he⟩ := List.getElem_of_mem hmem
 have hg : (ordB cs).getD j 0 = (s : Int) := by rw [List.getD_eq_getElem?_getD, List.getElem?_eq_getElem hj, he]; rfl
 have hjs : j ∈ T.sy := hm.sy.symm.subset (by rw [List.mem_range, wts_len]; exact hj)
 rw [← Tr.lv_sy T 0] at hjs
 obtain ⟨⟨j', e⟩, hp, e1⟩ := List.mem_map.1 hjs
 dsimp only at e1
 subst e1
 refine ⟨j', e, hj, hg, hp, ?_⟩
 have := hl j' hj
 rw [hg] at this
 rw [Int.toNat_natCast] at this
 rw [this, hm.dp j' e hp]
theorem LOk.bd (h : LOk cs lens T) {s : Nat} (hs : s < cs.length) : 0 ≤ lens.getD s 0 ∧ lens.getD s 0 ≤ T.h ∧ (0 < lens.getD s 0 ↔ 0 < cs.getD s 0) := by
 obtain ⟨deep, hm, hl⟩ := h.mrg
 by_cases h0 : 0 < cs.getD s 0
 ·obtain ⟨j, e, hj, hg, hp, hle⟩ := h.at_ hs h0
  have hb := Tr.lv_bd T 0 j e hp
  have h1 : 1 ≤ e := by
   have := hm.h1
   cases T with
   | leaf i => simp [Tr.h] at this
   | node a b =>
    simp only [Tr.lv, List.mem_append] at hp
    rcases hp with hp | hp
    ·have := Tr.lv_bd _ _ _ _ hp; omega
    ·have := Tr.lv_bd _ _ _ _ hp; omega
  rw [hle]
  refine ⟨by omega, by omega, fun _ => h0, fun _ => by omega⟩
 ·rw [h.zero s hs h0]
  exact ⟨by omega, by omega, fun hh => by omega, fun hh => absurd hh h0⟩
theorem LOk.top (h : LOk cs lens T) : ∃ s, s < cs.length ∧ lens.getD s 0 = (T.h : Int) := by
 obtain ⟨deep, hm, hl⟩ := h.mrg
 obtain ⟨j, hj⟩ := Tr.lv_top T 0
 have hjs : j ∈ T.sy := by rw [← Tr.lv_sy T 0]; exact List.mem_map.2 ⟨_, hj, rfl⟩
 have hjn := List.mem_range.1 (hm.sy.subset hjs)
 rw [wts_len] at hjn
 have hmm := posB_mem (ordB_mem.1 (getD_mem hjn))
 refine ⟨((ordB cs).getD j 0).toNat, by omega, ?_⟩
 rw [hl j hjn, hm.dp j _ hj]; omega
theorem mem_get_of {l : List Int} {z : Int} (h : z ∈ l) : ∃ i, i < l.length ∧ l.getD i 0 = z := by
 obtain ⟨i, hi, e⟩ := List.getElem_of_mem h
 exact ⟨i, hi, by rw [List.getD_eq_getElem?_getD, List.getElem?_eq_getElem hi, e]; rfl⟩
theorem LOk.max (h : LOk cs lens T) : maxL lens = T.h := by
 obtain ⟨s, hs, e⟩ := h.top
 have hm : lens.getD s 0 ∈ lens := getD_mem (by rw [h.len]; exact hs)
 have h1 := maxL_le hm
 have hne : lens ≠ [] := fun e => by rw [e] at hm; cases hm
 obtain ⟨i, hi, e2⟩ := mem_get_of (maxL_mem hne)
 have := (h.bd (by rw [← h.len]; exact hi)).2.1
 omega
theorem sum_filter (p : Nat → Bool) (f : Nat → Nat) : ∀ l : List Nat, (∀ x ∈ l, p x = false → f x = 0) → ((l.filter p).map f).sum = (l.map f).sum
 | [], _ => rfl
 | x :: l, h => by
  have ih := sum_filter p f l fun y hy => h y (List.mem_cons_of_mem _ hy)
  cases hp : p x with
  | true => rw [List.filter_cons_of_pos hp, List.map_cons, List.map_cons, List.sum_cons, List.sum_cons, ih]
  | false => rw [List.filter_cons_of_neg (by rw [hp]; decide), List.map_cons, List.sum_cons, h x (List.mem_cons_self ..) hp, ih]; omega
theorem list_range (l : List Int) : l = (List.range l.length).map fun s => l.getD s 0 := by
 apply List.ext_getElem
 ·simp
 ·intro i h1 h2
  simp only [List.getElem_map, List.getElem_range]
  rw [List.getD_eq_getElem?_getD, List.getElem?_eq_getElem h1]; rfl
theorem LOk.sum (h : LOk cs lens T) (g : Int → Nat) (hg : g 0 = 0) : (lens.map g).sum = ((T.lv 0).map fun p => g (p.2 : Int)).sum := by
 obtain ⟨deep, hm, hl⟩ := h.mrg
 have e1 : (lens.map g).sum = ((List.range cs.length).map fun s => g (lens.getD s 0)).sum := by
  rw [← h.len]
  conv => lhs; rw [list_range lens]
  rw [List.map_map]; rfl
 have e2 := sum_filter (fun i => decide (0 < cs.getD i 0)) (fun s => g (lens.getD s 0)) (List.range cs.length) (fun s hs hp => by
  rw [h.zero s (List.mem_range.1 hs) (by simpa using hp)]; exact hg)
 have e3 : ((posB cs).map fun x => g (lens.getD x.toNat 0)).sum = (((List.range cs.length).filter fun i => decide (0 < cs.getD i 0)).map fun s => g (lens.getD s 0)).sum := by
  unfold posB
  rw [List.map_map]
  congr 1
 have e4 : ((ordB cs).map fun x => g (lens.getD x.toNat 0)).sum = ((posB cs).map fun x => g (lens.getD x.toNat 0)).sum := List.Perm.sum_nat ((ordB_perm cs).map _)
 have e5 : ((ordB cs).map fun x => g (lens.getD x.toNat 0)).sum = ((List.range (ordB cs).length).map fun j => g (deep.getD j 0)).sum := by
  congr 1
  conv => lhs; rw [list_range (ordB cs)]
  rw [List.map_map]
  refine List.map_congr_left fun j hj => ?_
  show g (lens.getD ((ordB cs).getD j 0).toNat 0) = _
  rw [hl j (List.mem_range.1 hj)]
 have e6 : (T.sy.map fun j => g (deep.getD j 0)).sum = ((List.range (ordB cs).length).map fun j => g (deep.getD j 0)).sum := List.Perm.sum_nat (by have := hm.sy; rw [wts_len] at this; exact this.map _)
 have e7 : (T.sy.map fun j => g (deep.getD j 0)).sum = ((T.lv 0).map fun p => g (p.2 : Int)).sum := by
  rw [← Tr.lv_sy T 0, List.map_map]
  congr 1
  refine List.map_congr_left fun p hp => ?_
  show g (deep.getD p.1 0) = _
  rw [hm.dp p.1 p.2 hp]
 rw [e1, ← e2, ← e3, ← e4, e5, ← e6, e7]
theorem countP_sum (p : Int → Bool) : ∀ l : List Int, l.countP p = (l.map fun z => if p z then 1 else 0).sum
 | [] => rfl
 | x :: l => by
  rw [List.map_cons, List.sum_cons, List.countP_cons, countP_sum p l]
  omega
theorem LOk.lv1 (h : LOk cs lens T) {p : Nat × Nat} (hp : p ∈ T.lv 0) : 1 ≤ p.2 ∧ p.2 ≤ T.h := by
 obtain ⟨deep, hm, hl⟩ := h.mrg
 obtain ⟨j, e⟩ := p
 have hb := Tr.lv_bd T 0 j e hp
 have := hm.h1
 refine ⟨?_, by omega⟩
 cases T with
 | leaf i => simp [Tr.h] at this
 | node a b =>
  simp only [Tr.lv, List.mem_append] at hp
  rcases hp with hp | hp
  ·have := Tr.lv_bd _ _ _ _ hp; omega
  ·have := Tr.lv_bd _ _ _ _ hp; omega
theorem LOk.may (h : LOk cs lens T) (hl : cs.length ≤ 400) (h12 : T.h ≤ 12) : mayB lens = true := by
 have hs := h.sum mg (by decide)
 have hk := Tr.kraft 12 T 0 (by omega)
 have e : ((T.lv 0).map fun p => mg (p.2 : Int)) = (T.lv 0).map fun p => 2 ^ (12 - p.2) := by
  refine List.map_congr_left fun p hp => ?_
  have := (h.lv1 hp).1
  unfold mg
  rw [if_pos (by omega), Int.toNat_natCast]
 rw [e, hk] at hs
 refine mayB_of (by rw [h.len]; exact hl) (fun z hz => ?_) ?_ (by rw [hs])
 ·obtain ⟨i, hi, e⟩ := mem_get_of hz
  have := h.bd (s := i) (by rw [← h.len]; exact hi)
  omega
 ·have hc := h.sum (fun z => if decide (0 < z) then 1 else 0) (by decide)
  unfold npos
  rw [countP_sum, hc]
  obtain ⟨deep, hm, hl⟩ := h.mrg
  have h1 := hm.h1
  have e2 : ((T.lv 0).map fun p => if decide (0 < (p.2 : Int)) then 1 else 0) = (T.lv 0).map fun _ => 1 := by
   refine List.map_congr_left fun p hp => ?_
   have := (h.lv1 hp).1
   rw [if_pos (by simp; omega)]
  rw [e2]
  have e3 : ∀ l : List (Nat × Nat), (l.map fun _ => 1).sum = l.length := by intro l; induction l with
   | nil => rfl
   | cons x r ih => rw [List.map_cons, List.sum_cons, ih, List.length_cons]; omega
  rw [e3]
  have e4 : (T.lv 0).length = T.sy.length := by rw [← Tr.lv_sy T 0]; simp
  rw [e4]
  cases T with
  | leaf i => simp [Tr.h] at h1
  | node a b => have := Tr.sy_pos a; have := Tr.sy_pos b; simp [Tr.sy]; omega
theorem LOk.mono (h : LOk cs lens T) {s s' : Nat} (hs : s < cs.length) (hs' : s' < cs.length) (h0 : 0 < cs.getD s 0) (hlt : cs.getD s 0 < cs.getD s' 0) : lens.getD s' 0 ≤ lens.getD s 0 := by
 obtain ⟨j, e, hj, hg, _, _⟩ := h.at_ hs h0
 obtain ⟨j', e', hj', hg', _, _⟩ := h.at_ hs' (by omega)
 obtain ⟨deep, hm, hl⟩ := h.mrg
 have d1 := hl j hj
 have d2 := hl j' hj'
 rw [hg] at d1
 rw [hg'] at d2
 rw [Int.toNat_natCast] at d1 d2
 rw [d1, d2]
 have hle : j ≤ j' := by
  rcases Nat.lt_or_ge j' j with h | h
  ·have := wts_asc cs j' j (by omega) (by rw [wts_len]; exact hj)
   rw [wts_get cs j' hj', wts_get cs j hj, hg, hg'] at this
   simp only [cnt, Int.toNat_natCast] at this
   omega
  ·exact h
 exact hm.mono j j' hle (by rw [wts_len]; exact hj')
end
end
section
def halfB (cs : List Int) : List Int := cs.map fun c => (c + 1) / 2
@[simp] theorem halfB_len (cs : List Int) : (halfB cs).length = cs.length := by simp [halfB]
end
section
def ksum (zs : List Int) : Nat → Nat
 | 0 => 0
 | l + 1 => ksum zs l + manyB zs (l + 1) * 2 ^ (12 - (l + 1))
theorem ksum_eq (zs : List Int) : ∀ l, l ≤ 12 → 2 ^ (12 - l) * (firstB zs l + manyB zs l) = ksum zs l
 | 0, _ => by simp [firstB, manyB, ksum]
 | l + 1, h => by
  have ih := ksum_eq zs l (by omega)
  simp only [ksum, firstB]
  rw [← ih, show 12 - l = (12 - (l + 1)) + 1 from by omega, Nat.pow_succ]
  generalize 2 ^ (12 - (l + 1)) = p
  generalize firstB zs l + manyB zs l = q
  rw [Nat.mul_add, Nat.mul_comm (manyB zs (l + 1)) p]
  have : p * (q * 2) = p * 2 * q := by rw [Nat.mul_assoc, Nat.mul_comm 2 q]
  omega
theorem many_cons (z : Int) (r : List Int) (l : Nat) : manyB (z :: r) (l + 1) = manyB r (l + 1) + if z = ((l + 1 : Nat) : Int) then 1 else 0 := by
 unfold manyB
 rw [if_neg (by omega), if_neg (by omega), List.count_cons]
 by_cases h : z = ((l + 1 : Nat) : Int)
 ·simp [h]
 ·have : (z == ((l + 1 : Nat) : Int)) = false := by simpa using h
  rw [this, if_neg h]; rfl
theorem ksum_cons (z : Int) (r : List Int) : ∀ l, l ≤ 12 → ksum (z :: r) l = ksum r l + if 0 < z ∧ z ≤ l then mg z else 0
 | 0, _ => by simp only [ksum]; rw [if_neg (by omega)]
 | l + 1, h => by
  simp only [ksum]
  rw [ksum_cons z r l (by omega), many_cons, Nat.add_mul]
  by_cases h1 : z = ((l + 1 : Nat) : Int)
  ·rw [if_pos h1, if_neg (by omega), if_pos (by omega)]
   unfold mg
   rw [if_pos (by omega), h1, Int.toNat_natCast]; omega
  ·rw [if_neg h1]
   by_cases h2 : 0 < z ∧ z ≤ l
   ·rw [if_pos h2, if_pos (by omega)]; omega
   ·rw [if_neg h2, if_neg (by omega)]; omega
theorem ksum_all : ∀ zs : List Int, Lens zs → ksum zs 12 = (zs.map mg).sum
 | [], _ => by decide
 | z :: r, h => by
  have hz := h z (List.mem_cons_self ..)
  rw [ksum_cons z r 12 (by omega), ksum_all r fun y hy => h y (List.mem_cons_of_mem _ hy), List.map_cons, List.sum_cons]
  by_cases h0 : 0 < z
  ·rw [if_pos (by omega)]; omega
  ·rw [if_neg (by omega)]
   have : mg z = 0 := by unfold mg; rw [if_neg h0]
   omega
theorem may_cases {zs : List Int} (h : mayB zs = true) : (npos zs = 0 ∧ (zs.map mg).sum = 0) ∨ (npos zs = 1 ∧ (zs.map mg).sum = 2048) ∨ (2 ≤ npos zs ∧ (zs.map mg).sum = 4096) := by
 have hL := may_lens h
 have hm := h
 unfold mayB at hm
 rw [Bool.and_eq_true, mayGo_eq zs 0 0 hL, hmayGo_nil] at hm
 have hm := hm.2
 have zero : npos zs = 0 → (zs.map mg).sum = 0 := fun h0 => by
  unfold npos at h0
  rw [List.countP_eq_zero] at h0
  have : zs.map mg = zs.map fun _ => 0 := List.map_congr_left fun z hz => by
   have := h0 z hz
   unfold mg
   rw [if_neg (by simpa using this)]
  rw [this]
  have zs0 : ∀ l : List Int, (l.map fun _ => (0 : Nat)).sum = 0 := by
   intro l
   induction l with
   | nil => rfl
   | cons x r ih => rw [List.map_cons, List.sum_cons, ih]
  exact zs0 zs
 rcases Nat.eq_zero_or_pos (npos zs) with h0 | h0
 ·exact .inl ⟨h0, zero h0⟩
 ·rcases Nat.eq_or_lt_of_le h0 with h1 | h1
  ·refine .inr (.inl ⟨by omega, ?_⟩)
   rw [if_pos (by omega)] at hm
   simp only [decide_eq_true_eq] at hm
   omega
  ·refine .inr (.inr ⟨by omega, ?_⟩)
   rw [if_neg (by omega)] at hm
   simp only [Bool.or_eq_true, decide_eq_true_eq] at hm
   omega
theorem code_eq {zs : List Int} {s q : Nat} (hs : zs[s]? = some (q : Int)) (hq : 0 < q) : codeB zs s = firstB zs q + (zs.take s).count (q : Int) := by
 unfold codeB
 rw [hs]
 dsimp only
 rw [if_pos (by omega), Int.toNat_natCast]
end
section
abbrev Hp := Int × List Int
def hp0 : Hp := (0, [])
def incs : List Int → List Int → List Int
 | lens, [] => lens
 | lens, s :: r => incs (lens.set s.toNat (lens.getD s.toNat 0 + 1)) r
@[simp] theorem incs_len : ∀ (L lens : List Int), (incs lens L).length = lens.length
 | [], _ => rfl
 | s :: r, lens => by rw [incs, incs_len r]; simp
end
section
def IB (w : World) (b : Nat) (l : List Int) : Prop := Blk w b 3 (l.map (Value.int .i64)).toArray
theorem IB.lt {w : World} {b : Nat} {l : List Int} (h : IB w b l) : b < w.heap.size := Blk.lt h
theorem IB.fr {S : Nat → Prop} {w w' : World} {b : Nat} {l : List Int} (h : IB w b l) (hf : Fr S w w') (hS : ¬ S b) : IB w' b l := Blk.fr h hf hS
theorem IB.ext {w w' : World} {b : Nat} {l : List Int} (h : IB w b l) (hf : Ext w w') : IB w' b l := Blk.ext h hf
theorem IB.row {w : World} {b : Nat} {l : List Int} (h : IB w b l) (hl : l.length ≤ maxLen) (n : Nat) (hn : n = l.length) : IRow w (.slice (some ⟨b, 0, none⟩) n n) l := by
 subst hn
 exact ⟨_, _, rfl, Nat.le_refl _, hl, fun _ => ⟨b, 0, rfl, Blk.lt h, fun j u hu => by rw [Nat.zero_add, Blk.cell h]; simpa using hu⟩⟩
theorem IB.cell {w : World} {b : Nat} {l : List Int} (h : IB w b l) {i : Nat} (hi : i < l.length) : w.cell? ⟨b, i, none⟩ = some (.int .i64 (l.getD i 0)) := by
 rw [Blk.cell h, List.getD_eq_getElem?_getD, List.getElem?_eq_getElem hi]
 simp [hi]
theorem IB.new {w : World} {b n : Nat} (h : Blk w b 3 (Array.replicate n (.int .i64 0))) : IB w b (List.replicate n 0) := by
 unfold IB
 rw [List.map_replicate, List.toArray_replicate]; exact h
section
variable {hs : List Nat} {H : World → Prop} {full : Array Oper} {K : Env → World → Prop} {rest : List Oper} {env : Env} {w : World} {d : Tmp} {dst : Option Tmp} {ty : TypeId} {pos : String} {af : Array Edge}
end
end
section
def Cl (k : IntKind) (w : World) (A : Option Addr) (zs : List Int) : Prop := 0 < zs.length → ∃ b o, A = some ⟨b, o, none⟩ ∧ b < w.heap.size ∧ ∀ j u, (zs.map (Value.int k))[j]? = some u → w.cell? ⟨b, o + j, none⟩ = some u
theorem Cl.at_ {k : IntKind} {w : World} {A : Option Addr} {zs : List Int} (h : Cl k w A zs) {i : Nat} (hi : i < zs.length) : ∃ b o z, A = some ⟨b, o, none⟩ ∧ b < w.heap.size ∧ zs[i]? = some z ∧ w.cell? ⟨b, o + i, none⟩ = some (.int k z) ∧ zs.drop i = z :: zs.drop (i + 1) := at_row h hi
theorem IRow.op {w : World} {v : Value} {zs : List Int} (h : IRow w v zs) : ∃ A c, v = .slice A zs.length c ∧ zs.length ≤ c ∧ c ≤ 9223372036854775807 ∧ Cl .i64 w A zs := by
 obtain ⟨A, c, h1, h2, h3, h4⟩ := h
 exact ⟨A, c, h1, h2, h3, h4⟩
theorem URow.op {w : World} {v : Value} {zs : List Int} (h : URow w v zs) : ∃ A c, v = .slice A zs.length c ∧ zs.length ≤ c ∧ c ≤ 9223372036854775807 ∧ Cl .u64 w A zs := by
 obtain ⟨A, c, h1, h2, h3, h4⟩ := h
 exact ⟨A, c, h1, h2, h3, h4⟩
theorem BRow.op {w : World} {v : Value} {zs : List Int} (h : BRow w v zs) : ∃ A c, v = .slice A zs.length c ∧ zs.length ≤ c ∧ c ≤ 9223372036854775807 ∧ Cl .u8 w A zs := by
 obtain ⟨A, c, h1, h2, h3, h4⟩ := h
 exact ⟨A, c, h1, h2, h3, h4⟩
end
section
attribute [local irreducible] xs T
def hcs (hs : List (Int × Value)) : List Value := hs.flatMap fun h => [.int .i64 h.1, h.2]
def Cz (w : World) (A : Option Addr) (n : Nat) (vs : List Value) : Prop := 0 < n → ∃ b o, A = some ⟨b, o, none⟩ ∧ b < w.heap.size ∧ ∀ j u, vs[j]? = some u → w.cell? ⟨b, o + j, none⟩ = some u
theorem Row.op {w : World} {v : Value} {n : Nat} {vs : List Value} (h : Row w v n vs) : ∃ A c, v = .slice A n c ∧ n ≤ c ∧ c ≤ 9223372036854775807 ∧ Cz w A n vs := by
 obtain ⟨A, c, h1, h2, h3, h4⟩ := h
 exact ⟨A, c, h1, h2, h3, h4⟩
theorem Cz.at_ {w : World} {A : Option Addr} {n : Nat} {vs : List Value} (h : Cz w A n vs) (hn : 0 < n) : ∃ b o, A = some ⟨b, o, none⟩ ∧ b < w.heap.size ∧ ∀ j u, vs[j]? = some u → w.cell? ⟨b, o + j, none⟩ = some u := h hn
end
section
attribute [local irreducible] xs T
structure HL (w : World) (gl : Nat) (v : Value) (l : List Hp) (hs : List (Int × Value)) : Prop where
 len : hs.length = l.length
 at_ : ∀ (i : Nat) (h : Int × Value) (p : Hp), hs[i]? = some h → l[i]? = some p → h.1 = p.1 ∧ IRow w h.2 p.2 ∧ ∀ b, h.2.ownBlock = some b → gl < b ∧ b < w.heap.size ∧ v.ownBlock ≠ some b
theorem HL.fst {w : World} {gl : Nat} {v : Value} {l : List Hp} {hs : List (Int × Value)} (h : HL w gl v l hs) : hs.map (·.1) = l.map (·.1) := by
 apply List.ext_getElem
 ·simp [h.len]
 ·intro i h1 h2
  simp only [List.length_map] at h1 h2
  simp only [List.getElem_map]
  exact (h.at_ i _ _ (List.getElem?_eq_getElem h1) (List.getElem?_eq_getElem h2)).1
theorem HL.one {w : World} {gl : Nat} {v : Value} {l : List Hp} {hs : List (Int × Value)} (h : HL w gl v l hs) : ∀ x ∈ hs, x.2.oneCell' = true := by
 intro x hx
 obtain ⟨i, hi, e⟩ := List.getElem_of_mem hx
 have hl := h.len
 obtain ⟨A, c, e2, _⟩ := (h.at_ i x l[i] (by rw [List.getElem?_eq_getElem hi, e]) (List.getElem?_eq_getElem (by omega))).2.1
 rw [e2]; rfl
theorem HL.fr {S : Nat → Prop} {w w' : World} {gl : Nat} {v : Value} {l : List Hp} {hs : List (Int × Value)} (h : HL w gl v l hs) (hf : Fr S w w') (hS : ∀ b, S b → b ≤ gl ∨ v.ownBlock = some b ∨ w.heap.size ≤ b) (v' : Value) (hv : ∀ b, v'.ownBlock = some b → v.ownBlock = some b ∨ w.heap.size ≤ b) : HL w' gl v' l hs :=
 ⟨h.len, fun i x p hx hp => by
  obtain ⟨h1, h2, h3⟩ := h.at_ i x p hx hp
  refine ⟨h1, h2.fr hf fun b hb hs => ?_, fun b hb => ?_⟩
  ·have := h3 b hb
   rcases hS b hs with h | h | h
   ·omega
   ·exact this.2.2 h
   ·omega
  ·have h4 := h3 b hb
   refine ⟨h4.1, Nat.lt_of_lt_of_le h4.2.1 hf.size, fun e => ?_⟩
   rcases hv b e with h | h
   ·exact h4.2.2 h
   ·omega⟩
theorem HL.erase {w : World} {gl : Nat} {v : Value} {l : List Hp} {hs : List (Int × Value)} (h : HL w gl v l hs) (k : Nat) : HL w gl v (l.eraseIdx k) (hs.eraseIdx k) := by
 refine ⟨by rw [List.length_eraseIdx, List.length_eraseIdx, h.len], fun i x p hx hp => ?_⟩
 rw [List.getElem?_eraseIdx] at hx hp
 split at hx
 ·rename_i hik; rw [if_pos hik] at hp; exact h.at_ i x p hx hp
 ·rename_i hik; rw [if_neg hik] at hp; exact h.at_ (i + 1) x p hx hp
theorem HL.snoc {w : World} {gl : Nat} {v : Value} {l : List Hp} {hs : List (Int × Value)} (h : HL w gl v l hs) {x : Int × Value} {p : Hp} (h1 : x.1 = p.1) (h2 : IRow w x.2 p.2) (h3 : ∀ b, x.2.ownBlock = some b → gl < b ∧ b < w.heap.size ∧ v.ownBlock ≠ some b) : HL w gl v (l ++ [p]) (hs ++ [x]) := by
 refine ⟨by simp [h.len], fun i y q hy hq => ?_⟩
 have hl := h.len
 rcases Nat.lt_or_ge i hs.length with hi | hi
 ·rw [List.getElem?_append_left hi] at hy
  rw [List.getElem?_append_left (by omega)] at hq
  exact h.at_ i y q hy hq
 ·rw [List.getElem?_append_right hi] at hy
  rw [List.getElem?_append_right (by omega)] at hq
  cases hk : i - hs.length with
  | zero =>
   rw [hk] at hy
   rw [show i - l.length = 0 from by omega] at hq
   simp only [List.getElem?_cons_zero, Option.some.injEq] at hy hq
   subst hy; subst hq
   exact ⟨h1, h2, h3⟩
  | succ m => rw [hk] at hy; simp at hy
end
section
def HC (ga gb : Nat) (a1 a2 b1 b2 : Value) (w : World) : Prop := w.cell? ⟨ga, 0, none⟩ = some a1 ∧ w.cell? ⟨ga, 1, none⟩ = some a2 ∧ w.cell? ⟨gb, 0, none⟩ = some b1 ∧ w.cell? ⟨gb, 1, none⟩ = some b2
theorem HC.fr {S : Nat → Prop} {ga gb : Nat} {a1 a2 b1 b2 : Value} {w w' : World} (h : HC ga gb a1 a2 b1 b2 w) (hf : Fr S w w') (h1 : ¬ S ga) (h2 : ¬ S gb) : HC ga gb a1 a2 b1 b2 w' :=
 ⟨hf.cell h.1 h1, hf.cell h.2.1 h1, hf.cell h.2.2.1 h2, hf.cell h.2.2.2 h2⟩
theorem HC.ext {ga gb : Nat} {a1 a2 b1 b2 : Value} {w w' : World} (h : HC ga gb a1 a2 b1 b2 w) (hf : Ext w w') : HC ga gb a1 a2 b1 b2 w' := h.fr hf (fun hh => hh) fun hh => hh
attribute [local irreducible] xs T xf
end
section
attribute [local irreducible] xs T
theorem getD_of {zs : List Int} {i : Nat} {z : Int} (h : zs[i]? = some z) : zs.getD i 0 = z := by rw [List.getD_eq_getElem?_getD, h]; rfl
end
section
theorem IB.of {w : World} {b : Nat} {l : List Int} {a : Array Value} (h : Blk w b 3 a) (e : a = (l.map (Value.int .i64)).toArray) : IB w b l := by subst e; exact h
theorem UB.ext {w w' : World} {b : Nat} {l : List Int} (h : UB w b l) (hf : Ext w w') : UB w' b l := Blk.ext h hf
theorem UB.fr {S : Nat → Prop} {w w' : World} {b : Nat} {l : List Int} (h : UB w b l) (hf : Fr S w w') (hS : ¬ S b) : UB w' b l := Blk.fr h hf hS
theorem UB.cell {w : World} {b : Nat} {l : List Int} (h : UB w b l) {i : Nat} (hi : i < l.length) : w.cell? ⟨b, i, none⟩ = some (.int .u64 (l.getD i 0)) := by
 rw [Blk.cell h, List.getD_eq_getElem?_getD, List.getElem?_eq_getElem hi]
 simp [hi]
end
section
attribute [local irreducible] xs T
theorem mg_cast {q : Nat} (h0 : 0 < q) (h : q ≤ 12) : (mg (q : Int) : Int) = p2 (12 - (q : Int)) := by
 unfold mg p2
 rw [if_pos (by omega), Int.toNat_natCast, show (12 - (q : Int)).toNat = 12 - q from by omega]
 simp
theorem mg_le (z : Int) : mg z ≤ 4096 := by
 unfold mg
 split
 ·exact Nat.le_trans (Nat.pow_le_pow_right (by decide) (Nat.sub_le _ _)) (by decide)
 ·omega
theorem mg_sum_le : ∀ l : List Int, (l.map mg).sum ≤ 4096 * l.length
 | [] => by simp
 | z :: r => by
  have := mg_sum_le r
  have := mg_le z
  rw [List.map_cons, List.sum_cons, List.length_cons]; omega
theorem mg_take {zs : List Int} {i : Nat} {z : Int} (h : zs[i]? = some z) : ((zs.take (i + 1)).map mg).sum = ((zs.take i).map mg).sum + mg z := by
 rw [List.take_add_one, h]; simp
end
end Go.Proofs.YtoheknblphcloaaGreatDoor.Eng
namespace Go.Proofs.YtoheknblphcloaaGreatDoor
open Go.RowKit
namespace Eng
namespace Rn
noncomputable def e0 : En := ⟨[], [], [], []⟩
noncomputable def nmK (q : IntKind) (l : List SV) (k : List Nat → Rs) : Rs := List.rec (motive := fun _ => (List Nat → Rs) → Rs) (fun k => k []) (fun x _ ih k => onN (.v x) fun q' a => kkK q' q (ih fun r => k (a :: r))) l k
noncomputable def inK (σ : Mem) (x : AV) (k : List Nat → Rs) : Rs := onL x (k []) (fun id z j n => rdK σ id (Nat.mul j z) n fun l => nmK .i64 l k) (fun id z j n _ => rdK σ id (Nat.mul j z) n fun l => nmK .i64 l k) (k []) (fun _ => .no) fun _ _ => .no
noncomputable def on1 (al : List AV) (k : AV → Rs) : Rs := List.rec (motive := fun _ => Rs) .no (fun x r _ => List.rec (motive := fun _ => Rs) (k x) (fun _ _ _ => .no) r) al
noncomputable def bR (σ : Mem) (b : Bool) : Rs := Bool.rec (motive := fun _ => Rs) (.mk (.val (.v (.b false))) e0 σ) (.mk (.val (.v (.b true))) e0 σ) b
noncomputable def lnN (l : List Nat) : Nat := List.rec (motive := fun _ => Nat) 0 (fun _ _ ih => Nat.add ih 1) l
theorem lnN_eq : ∀ l : List Nat, lnN l = l.length
 | [] => rfl
 | _ :: l => by
  show Nat.add (lnN l) 1 = _
  rw [lnN_eq l]; rfl
section
variable {w0 : Fm} {σ : Mem} {res : Rs} {ρ : Pl} {w : World} (hr : res ≠ .no)
include hr
theorem nmK_inv {q : IntKind} : ∀ {l : List SV} {vs : List Value} {k : List Nat → Rs}, nmK q l k = res → SRs ρ l vs → ∃ r : List Nat, r.length = l.length ∧ vs = r.map (fun a => Value.int q (Int.ofNat a)) ∧ k r = res
 | [], vs, k, h, hl => by
  cases hl
  exact ⟨[], rfl, rfl, h⟩
 | x :: l, vs, k, h, hl => by
  cases hl with
  | cons h1 h2 =>
   obtain ⟨q', a, e0, g1⟩ := onN_inv hr (show onN (.v x) (fun q' a => kkK q' q (nmK q l fun r => k (a :: r))) = res from h)
   obtain ⟨g2, g3⟩ := kkK_inv hr g1
   subst g2
   injection e0 with e0
   subst e0
   obtain ⟨r, g4, g5, g6⟩ := nmK_inv g3 h2
   exact ⟨a :: r, by simp [g4], by rw [h1.2.1, g5, List.map_cons], g6⟩
theorem inK_inv (hM : MR w0 ρ σ w) {x : AV} {vx : Value} {k : List Nat → Rs} (hx : AR ρ x vx) (h : inK σ x k = res) : ∃ r : List Nat, IRow w vx (r.map Int.ofNat) ∧ k r = res := by
 have row : ∀ {id o n cap : Nat} {p : At} {k : List Nat → Rs}, ρ[id]? = some p → n ≤ cap → cap ≤ maxLen → rdK σ id o n (fun l => nmK .i64 l k) = res → ∃ r : List Nat, IRow w (.slice (some ⟨p.b, o, none⟩) n cap) (r.map Int.ofNat) ∧ k r = res := fun {id o n cap p k} hp h1 h2 h => by
  obtain ⟨ob, l, g3, g4, g5, g6⟩ := rdK_inv hr h
  obtain ⟨vs, h4, h5⟩ := hM.cells hp (l := l) (o := o) (fun i hi => g5 i (by omega))
  obtain ⟨r, h6, h7, h8⟩ := nmK_inv hr g6 h4
  refine ⟨r, ⟨some ⟨p.b, o, none⟩, cap, by rw [List.length_map, h6, g4], by rw [List.length_map, h6, g4]; exact h1, h2, fun hn => ⟨p.b, o, rfl, ?_, fun j u hu => ?_⟩⟩, h8⟩
  ·rw [List.length_map] at hn
   have hv0 : vs[0]? = some (Value.int .i64 (Int.ofNat r[0])) := by rw [h7]; simp [hn]
   exact World.block_lt_of_cell? w ⟨p.b, o + 0, none⟩ (h5 0 _ hv0).1
  ·refine (h5 j u ?_).1
   rw [h7]
   rw [List.map_map] at hu
   exact hu
 rcases onL_inv hr h with ⟨e1, g1⟩ | ⟨id, z, j, n, e1, g1⟩ | ⟨id, z, j, n, c, e1, g1⟩ | ⟨_, _, _, _, e1, g1⟩ | ⟨l, e1, g1⟩ | ⟨id, o, e1, g1⟩ <;> subst e1
 ·have e2 : vx = .slice none 0 0 := hx
  subst e2
  exact ⟨[], ⟨none, 0, rfl, Nat.le_refl _, Nat.zero_le _, fun hn => absurd hn (by simp)⟩, g1⟩
 ·obtain ⟨p, hp, _, hc, hm, rfl⟩ := hx
  exact row hp (by omega) (by omega) g1
 ·obtain ⟨p, hp, hnc, hm, rfl⟩ := hx
  exact row hp hnc hm g1
 ·obtain ⟨p, hp, hm, rfl⟩ := hx
  exact ⟨[], ⟨_, _, rfl, Nat.zero_le _, by omega, fun hn => absurd hn (by simp)⟩, g1⟩
 ·exact absurd g1.symm hr
 ·exact absurd g1.symm hr
theorem on1_inv {al : List AV} {vs : List Value} {k : AV → Rs} (ha : ARs ρ al vs) (h : on1 al k = res) : ∃ x v, vs = [v] ∧ AR ρ x v ∧ k x = res := by
 cases ha with
 | nil => exact absurd h.symm hr
 | cons h1 h2 =>
  cases h2 with
  | nil => exact ⟨_, _, rfl, h1, h⟩
  | cons _ _ => exact absurd h.symm hr
end
theorem val_ne {v : AV} {e : En} {σ : Mem} : Rs.mk (.val v) e σ ≠ .no := fun h => by cases h
theorem bR_inv {σ σ' : Mem} {b : Bool} {v : AV} {e : En} (h : bR σ b = .mk (.val v) e σ') : v = .v (.b b) ∧ σ' = σ := by
 cases b <;> (injection h with h1 _ h3; injection h1 with h1; exact ⟨h1.symm, h3.symm⟩)
theorem orc_row {f : Nat} {o : List AV → Mem → Rs} {g : List Nat → Mem → Rs} (ho : ∀ al σ, o al σ = on1 al fun x => inK σ x fun l => g l σ) (hg : ∀ (r : List Nat) (v : Value) (σ : Mem) (w : World) (a : AV) e σ', IRow w v (r.map Int.ofNat) → g r σ = .mk (.val a) e σ' → σ' = σ ∧ Does Tryz.prog f #[v] w fun val w' => (∀ ρ, AR ρ a val) ∧ Ext w w') : OrcS f o := fun w0 al σ a e' σ' ρ vs w h ha hM => by
 rw [ho] at h
 obtain ⟨x, v, rfl, h1, h2⟩ := on1_inv val_ne ha h
 obtain ⟨r, h3, h4⟩ := inK_inv val_ne hM h1 h2
 obtain ⟨rfl, hd⟩ := hg r v σ w a e' σ' h3 h4
 exact Does.mono hd fun val w' hh => ⟨ρ, Up.refl ρ, hh.1 ρ, hM.ext hh.2⟩
noncomputable def mayGN (l : List Nat) (c s : Nat) : Bool := List.rec (motive := fun _ => Nat → Nat → Bool) (fun c s => Bool.rec (motive := fun _ => Bool) (Bool.rec (motive := fun _ => Bool) (Nat.beq s 4096) true (Nat.beq c 0)) (Nat.beq s 2048) (Nat.beq c 1)) (fun n _ ih c s => Bool.rec (motive := fun _ => Bool) false (Nat.rec (motive := fun _ => Bool) (ih c s) (fun _ _ => cN (Nat.add c 1) fun c => cN (Nat.add s (Nat.pow 2 (Nat.sub 12 n))) fun s => ih c s) n) (Nat.ble n 12)) l c s
noncomputable def mayN (l : List Nat) : Bool := an (Nat.ble (lnN l) 400) (mayGN l 0 0)
theorem beq_dec (a b : Nat) : Nat.beq a b = decide (a = b) := by
 rcases beq_cases a b with ⟨h1, h2⟩ | ⟨h1, h2⟩
 ·rw [h2]; simp [h1]
 ·rw [h2]; simp [h1]
theorem an_and (a b : Bool) : an a b = (a && b) := by cases a <;> rfl
theorem mayGN_eq : ∀ (l : List Nat) (c s : Nat), mayGN l c s = hmayGo (l.map Int.ofNat) c s
 | [], c, s => by
  show Bool.rec (motive := fun _ => Bool) (Bool.rec (motive := fun _ => Bool) (Nat.beq s 4096) true (Nat.beq c 0)) (Nat.beq s 2048) (Nat.beq c 1) = _
  rw [List.map_nil, hmayGo_nil]
  rcases beq_cases c 1 with ⟨h1, h2⟩ | ⟨h1, h2⟩
  ·have hc1 : (c : Int) = 1 := by omega
   rw [h2, if_pos hc1]
   show Nat.beq s 2048 = _
   rw [beq_dec]
   exact decide_eq_decide.2 (by omega)
  ·have hc1 : ¬ (c : Int) = 1 := by omega
   rw [h2, if_neg hc1]
   rcases beq_cases c 0 with ⟨h3, h4⟩ | ⟨h3, h4⟩
   ·rw [h4]
    have : decide ((c : Int) = 0) = true := by simp; exact h3
    rw [this]; rfl
   ·rw [h4]
    have : decide ((c : Int) = 0) = false := by simp; exact h3
    rw [this, Bool.false_or]
    show Nat.beq s 4096 = _
    rw [beq_dec]
    exact decide_eq_decide.2 (by omega)
 | n :: l, c, s => by
  have e1 : mayGN (n :: l) c s = Bool.rec (motive := fun _ => Bool) false (Nat.rec (motive := fun _ => Bool) (mayGN l c s) (fun _ _ => cN (Nat.add c 1) fun c => cN (Nat.add s (Nat.pow 2 (Nat.sub 12 n))) fun s => mayGN l c s) n) (Nat.ble n 12) := rfl
  rw [e1, List.map_cons, hmayGo_cons]
  cases hb : Nat.ble n 12 with
  | false =>
   have : ¬ n ≤ 12 := fun hh => by rw [Nat.ble_eq_true_of_le hh] at hb; cases hb
   rw [if_pos (.inr (by show (12 : Int) < (n : Int); omega))]
  | true =>
   have hle := Nat.le_of_ble_eq_true hb
   rw [if_neg (by show ¬ ((n : Int) < 0 ∨ (12 : Int) < (n : Int)); omega)]
   cases n with
   | zero =>
    rw [if_neg (by decide)]
    exact mayGN_eq l c s
   | succ m =>
    rw [if_pos (by show (0 : Int) < ((m + 1 : Nat) : Int); omega)]
    show cN (Nat.add c 1) (fun c => cN (Nat.add s (Nat.pow 2 (Nat.sub 12 (m + 1)))) fun s => mayGN l c s) = _
    rw [cN_eq, cN_eq, mayGN_eq]
    congr 1
    show ((s + 2 ^ (12 - (m + 1)) : Nat) : Int) = _
    have : p2 (12 - Int.ofNat (m + 1)) = ((2 ^ (12 - (m + 1)) : Nat) : Int) := by
     unfold p2
     have : (12 - Int.ofNat (m + 1)).toNat = 12 - (m + 1) := by show ((12 : Int) - ((m + 1 : Nat) : Int)).toNat = _; omega
     rw [this]; simp
    rw [this]; omega
theorem mayN_eq (l : List Nat) : mayN l = mayB (l.map Int.ofNat) := by
 unfold mayN mayB
 rw [an_and, mayGN_eq, ble_dec, lnN_eq, List.length_map]
 rfl
noncomputable def mayO (al : List AV) (σ : Mem) : Rs := on1 al fun x => inK σ x fun l => bR σ (mayN l)
theorem may_orc : OrcS 231 mayO := orc_row (g := fun l σ => bR σ (mayN l)) (fun _ _ => rfl) fun r v σ w a e σ' hv h => by
 obtain ⟨rfl, rfl⟩ := bR_inv h
 refine ⟨rfl, Does.mono (hmay_does w v _ hv) fun val w' hh => ?_⟩
 obtain ⟨rfl, rfl⟩ := hh
 exact ⟨fun ρ => by rw [mayN_eq]; rfl, Fr.refl _ _⟩
noncomputable def mxK (up : Bool) (l : List Nat) (a : Nat) (k : Nat → Rs) : Rs := List.rec (motive := fun _ => Nat → Rs) k (fun x _ ih a => ifK (eB up (Nat.ble a x)) (ih x) (ih a)) l a
theorem mxK_eq (up : Bool) : ∀ (l : List Nat) (a : Nat) (k : Nat → Rs), mxK up l a k = k (l.foldl (fun a x => if up then max a x else min a x) a)
 | [], _, _ => rfl
 | x :: l, a, k => by
  have e1 : mxK up (x :: l) a k = ifK (eB up (Nat.ble a x)) (mxK up l x k) (mxK up l a k) := rfl
  rw [e1, ifK_eq, eB_eq, mxK_eq, mxK_eq, ble_dec, List.foldl_cons]
  cases up with
  | true =>
   by_cases h : a ≤ x
   ·rw [if_pos (by simp [h])]; simp [Nat.max_eq_right h]
   ·rw [if_neg (by simp [h])]; simp [Nat.max_eq_left (Nat.le_of_not_le h)]
  | false =>
   by_cases h : a ≤ x
   ·rw [if_neg (by simp [h])]; simp [Nat.min_eq_left h]
   ·rw [if_pos (by simp [h])]; simp [Nat.min_eq_right (Nat.le_of_not_le h)]
noncomputable def mxO (up : Bool) (al : List AV) (σ : Mem) : Rs := on1 al fun x => inK σ x fun l => List.rec (motive := fun _ => Rs) .no (fun a r _ => okK (Nat.ble (lnN (a :: r)) 1000000) (mxK up r a fun m => okK (Nat.ble m 9223372036854775807) (.mk (.val (.v (.n .i64 m))) e0 σ))) l
theorem mx_inv {up : Bool} {σ σ' : Mem} {l : List Nat} {v : AV} {e : En} (h : (List.rec (motive := fun _ => Rs) .no (fun a r _ => okK (Nat.ble (lnN (a :: r)) 1000000) (mxK up r a fun m => okK (Nat.ble m 9223372036854775807) (.mk (.val (.v (.n .i64 m))) e0 σ))) l) = .mk (.val v) e σ') : ∃ a r, l = a :: r ∧ l.length ≤ 1000000 ∧ v = .v (.n .i64 (r.foldl (fun a x => if up then max a x else min a x) a)) ∧ r.foldl (fun a x => if up then max a x else min a x) a ≤ 9223372036854775807 ∧ σ' = σ := by
 cases l with
 | nil => cases h
 | cons a r =>
  obtain ⟨h1, h⟩ := okK_inv (show okK (Nat.ble (lnN (a :: r)) 1000000) (mxK up r a fun m => okK (Nat.ble m 9223372036854775807) (.mk (.val (.v (.n .i64 m))) e0 σ)) = _ from h) val_ne
  rw [mxK_eq] at h
  obtain ⟨h2, h⟩ := okK_inv h val_ne
  have h1 := Nat.le_of_ble_eq_true h1
  rw [lnN_eq] at h1
  injection h with h3 _ h5
  injection h3 with h3
  exact ⟨a, r, rfl, h1, h3.symm, Nat.le_of_ble_eq_true h2, h5.symm⟩
theorem fold_max : ∀ (r : List Nat) (a : Nat), (r.map Int.ofNat).foldl max (a : Int) = ((r.foldl (fun a x => if true then max a x else min a x) a : Nat) : Int)
 | [], _ => rfl
 | x :: r, a => by
  rw [List.map_cons, List.foldl_cons, List.foldl_cons]
  have : max (a : Int) (Int.ofNat x) = ((max a x : Nat) : Int) := by show max (a : Int) (x : Int) = _; omega
  rw [this]; exact fold_max r _
theorem fold_min : ∀ (r : List Nat) (a : Nat), (r.map Int.ofNat).foldl min (a : Int) = ((r.foldl (fun a x => if false then max a x else min a x) a : Nat) : Int)
 | [], _ => rfl
 | x :: r, a => by
  rw [List.map_cons, List.foldl_cons, List.foldl_cons]
  have : min (a : Int) (Int.ofNat x) = ((min a x : Nat) : Int) := by show min (a : Int) (x : Int) = _; omega
  rw [this]; exact fold_min r _
theorem max_orc : OrcS 228 (mxO true) := orc_row (g := fun l σ => List.rec (motive := fun _ => Rs) .no (fun a r _ => okK (Nat.ble (lnN (a :: r)) 1000000) (mxK true r a fun m => okK (Nat.ble m 9223372036854775807) (.mk (.val (.v (.n .i64 m))) e0 σ))) l) (fun _ _ => rfl) fun r v σ w a e σ' hv h => by
 obtain ⟨x, r, rfl, h1, rfl, h2, rfl⟩ := mx_inv h
 refine ⟨rfl, Does.mono (max_does w v _ hv (by simp) (by rw [List.length_map]; omega)) fun val w' hh => ?_⟩
 obtain ⟨rfl, rfl⟩ := hh
 exact ⟨fun ρ => ⟨by unfold maxL; rw [List.map_cons]; exact congrArg _ (fold_max r x), h2⟩, Fr.refl _ _⟩
theorem min_orc : OrcS 227 (mxO false) := orc_row (g := fun l σ => List.rec (motive := fun _ => Rs) .no (fun a r _ => okK (Nat.ble (lnN (a :: r)) 1000000) (mxK false r a fun m => okK (Nat.ble m 9223372036854775807) (.mk (.val (.v (.n .i64 m))) e0 σ))) l) (fun _ _ => rfl) fun r v σ w a e σ' hv h => by
 obtain ⟨x, r, rfl, h1, rfl, h2, rfl⟩ := mx_inv h
 refine ⟨rfl, Does.mono (min_does w v _ hv (by simp) (by rw [List.length_map]; omega)) fun val w' hh => ?_⟩
 obtain ⟨rfl, rfl⟩ := hh
 exact ⟨fun ρ => ⟨by unfold minL; rw [List.map_cons]; exact congrArg _ (fold_min r x), h2⟩, Fr.refl _ _⟩
end Rn
end Eng
end Go.Proofs.YtoheknblphcloaaGreatDoor
namespace Go.Proofs.YtoheknblphcloaaGreatDoor
open Go.RowKit
namespace Eng
namespace Rn
structure Eb where
 id : Nat
 e : TypeId
 d : Nat
 l : List SV
structure Me where
 n : Nat
 al : List AV
 l0 : List Eb
 v : AV
 n1 : Nat
 l1 : List Eb
noncomputable def lnS (l : List SV) : Nat := List.rec (motive := fun _ => Nat) 0 (fun _ _ ih => Nat.add ih 1) l
theorem lnS_eq : ∀ l : List SV, lnS l = l.length
 | [] => rfl
 | _ :: l => by
  show Nat.add (lnS l) 1 = _
  rw [lnS_eq l]; rfl
noncomputable def ckE (σ : Mem) (x : Eb) (r : Rs) : Rs := obK σ x.id fun ob => okK (Nat.beq ob.e x.e) (rdT ob.d ob.m 0 (lnS x.l) fun l => okK (lE x.l l) r)
noncomputable def ckL (σ : Mem) (l : List Eb) (r : Rs) : Rs := List.rec (motive := fun _ => Rs) r (fun x _ ih => ckE σ x ih) l
noncomputable def seE (x : Eb) (h : Tr Ob) (c : Tr Ob → Rs) : Rs := fN (lnS x.l) fun q => fillT x.d 0 x.l .nil fun m => setK dI x.id ⟨x.e, x.d, q, m⟩ h c
noncomputable def seL (l : List Eb) (h : Tr Ob) (c : Tr Ob → Rs) : Rs := List.rec (motive := fun _ => Tr Ob → (Tr Ob → Rs) → Rs) (fun h c => c h) (fun x _ ih h c => seE x h fun h => ih h c) l h c
noncomputable def kiL (l : List Eb) (h : Tr Ob) (c : Tr Ob → Rs) : Rs := List.rec (motive := fun _ => Tr Ob → (Tr Ob → Rs) → Rs) (fun h c => c h) (fun x _ ih h c => setK dI x.id ⟨0, 0, 0, .nil⟩ h fun h => ih h c) l h c
noncomputable def tvE (x y : TV) : Bool := match x, y with
 | .v a, .v b => sE a b
 | .g a, .g b => lE a b
 | _, _ => false
noncomputable def tlE (a : List TV) : List TV → Bool := List.rec (motive := fun _ => List TV → Bool) (fun b => match b with
 | [] => true
 | _ :: _ => false) (fun x _ ih b => match b with
 | [] => false
 | y :: r => an (tvE x y) (ih r)) a
noncomputable def avE (x y : AV) : Bool := match x, y with
 | .v a, .v b => sE a b
 | .g a, .g b => lE a b
 | .t a, .t b => tlE a b
 | .f g a, .f g' b => an (Nat.beq g g') (lE a b)
 | _, _ => false
noncomputable def alE (a : List AV) : List AV → Bool := List.rec (motive := fun _ => List AV → Bool) (fun b => match b with
 | [] => true
 | _ :: _ => false) (fun x _ ih b => match b with
 | [] => false
 | y :: r => an (avE x y) (ih r)) a
noncomputable def meO (m : Me) (al : List AV) (σ : Mem) : Rs := okK (alE m.al al) (ckL σ m.l0 (kiL m.l0 σ.h fun h => seL m.l1 h fun h => .mk (.val m.v) e0 ⟨m.n1, h, []⟩))
noncomputable def memoO (es : List Me) (al : List AV) (σ : Mem) : Rs := List.rec (motive := fun _ => Rs) .no (fun m _ ih => ifK (Nat.beq m.n σ.n) (meO m al σ) ih) es
noncomputable def ranK (m : Me) (r : Rs) : Rs := Rs.rec (motive := fun _ => Rs) .no (fun x _ σ => Ex.rec (motive := fun _ => Rs) .no (fun _ => .no) (fun _ => .no) .no (fun v => okK (avE m.v v) (okK (Nat.beq m.n1 σ.n) (ckL σ m.l1 (.mk .ret e0 σ)))) x) r
noncomputable def ranB (tab : List (Nat × Fe)) (N f : Nat) (m : Me) : Bool := Rs.rec (motive := fun _ => Bool) false (fun _ _ _ => true) (seL m.l0 .nil fun h => ranK m (run tab N f m.al ⟨m.n, h, []⟩))
theorem tvE_eq {x y : TV} (h : tvE x y = true) : x = y := by
 cases x with
 | v a =>
  cases y with
  | v b => have h : sE a b = true := h; rw [sE_eq h]
  | g b => cases h
 | g a =>
  cases y with
  | v b => cases h
  | g b => have h : lE a b = true := h; rw [lE_eq h]
theorem tlE_eq : ∀ {a b : List TV}, tlE a b = true → a = b
 | [], [], _ => rfl
 | [], _ :: _, h => by cases h
 | _ :: _, [], h => by cases h
 | x :: a, y :: b, h => by
  obtain ⟨h1, h2⟩ := an_inv (show an (tvE x y) (tlE a b) = true from h)
  rw [tvE_eq h1, tlE_eq h2]
theorem avE_eq {x y : AV} (h : avE x y = true) : x = y := by
 cases x with
 | v a =>
  cases y with
  | v b => have h : sE a b = true := h; rw [sE_eq h]
  | _ => cases h
 | g a =>
  cases y with
  | g b => have h : lE a b = true := h; rw [lE_eq h]
  | _ => cases h
 | t a =>
  cases y with
  | t b => have h : tlE a b = true := h; rw [tlE_eq h]
  | _ => cases h
 | f g a =>
  cases y with
  | f g' b =>
   obtain ⟨h1, h2⟩ := an_inv (show an (Nat.beq g g') (lE a b) = true from h)
   rw [Nat.eq_of_beq_eq_true h1, lE_eq h2]
  | _ => cases h
theorem alE_eq : ∀ {a b : List AV}, alE a b = true → a = b
 | [], [], _ => rfl
 | [], _ :: _, h => by cases h
 | _ :: _, [], h => by cases h
 | x :: a, y :: b, h => by
  obtain ⟨h1, h2⟩ := an_inv (show an (avE x y) (alE a b) = true from h)
  rw [avE_eq h1, alE_eq h2]
def Has (σ : Mem) (l : List Eb) : Prop := ∀ x ∈ l, ∃ ob, oget σ x.id = some ob ∧ ob.e = x.e ∧ ∀ i, i < x.l.length → tget ob.d i ob.m = x.l[i]?
def IsB (x : Eb) (id : Nat) (ob : Ob) : Prop := x.id = id ∧ ob.e = x.e ∧ ob.n = x.l.length ∧ ∀ o, tget ob.d o ob.m = x.l[o]?
section
variable {res : Rs} (hr : res ≠ .no)
include hr
theorem ckL_inv {σ : Mem} {r : Rs} : ∀ {l : List Eb}, ckL σ l r = res → Has σ l ∧ r = res
 | [], h => ⟨fun x hx => (by cases hx), h⟩
 | x :: l, h => by
  obtain ⟨ob, h1, h⟩ := obK_inv hr (show obK σ x.id (fun ob => okK (Nat.beq ob.e x.e) (rdT ob.d ob.m 0 (lnS x.l) fun l' => okK (lE x.l l') (ckL σ l r))) = res from h)
  obtain ⟨h2, h⟩ := okK_inv h hr
  obtain ⟨l', h3, h4, h⟩ := rdT_inv hr h
  obtain ⟨h5, h⟩ := okK_inv h hr
  have h5 := lE_eq h5
  obtain ⟨h6, h7⟩ := ckL_inv h
  rw [lnS_eq] at h3 h4
  refine ⟨fun y hy => ?_, h7⟩
  rcases List.mem_cons.1 hy with rfl | hy
  ·exact ⟨ob, h1, Nat.eq_of_beq_eq_true h2, fun i hi => by have := h4 i hi; rw [Nat.zero_add] at this; rw [this, ← h5]⟩
  ·exact h6 y hy
theorem seL_inv : ∀ {l : List Eb} {h : Tr Ob} {c : Tr Ob → Rs}, seL l h c = res → ∃ h', c h' = res ∧ ∀ id ob, tget dI id h' = some ob → (∃ x ∈ l, IsB x id ob) ∨ ((∀ x ∈ l, x.id ≠ id) ∧ tget dI id h = some ob)
 | [], h, c, hh => ⟨h, hh, fun id ob ho => .inr ⟨fun x hx => (by cases hx), ho⟩⟩
 | x :: l, h, c, hh => by
  have hh : fN (lnS x.l) (fun q => fillT x.d 0 x.l .nil fun m => setK dI x.id ⟨x.e, x.d, q, m⟩ h fun h => seL l h c) = res := hh
  rw [fN_eq, lnS_eq] at hh
  obtain ⟨m, h1, hh⟩ := fillT_inv hr hh
  obtain ⟨t', h2, hh⟩ := setK_inv hr hh
  obtain ⟨h', h3, h4⟩ := seL_inv hh
  refine ⟨h', h3, fun id ob ho => ?_⟩
  rcases h4 id ob ho with ⟨y, hy, h5⟩ | ⟨h5, h6⟩
  ·exact .inl ⟨y, List.mem_cons_of_mem _ hy, h5⟩
  ·by_cases hid : id = x.id
   ·subst hid
    rw [h2.1] at h6
    obtain rfl := Option.some.inj h6
    refine .inl ⟨x, List.mem_cons_self, rfl, rfl, rfl, fun o => ?_⟩
    show tget x.d o m = _
    rw [h1 o, tget_nil]
    by_cases ho' : o < x.l.length
    ·rw [if_pos ⟨Nat.zero_le _, by omega⟩, Nat.sub_zero]
    ·rw [if_neg (fun hh => ho' (by omega)), List.getElem?_eq_none (by omega)]
   ·refine .inr ⟨fun y hy => ?_, by rw [← h2.2 id hid]; exact h6⟩
    rcases List.mem_cons.1 hy with rfl | hy
    ·exact fun e => hid e.symm
    ·exact h5 y hy
theorem kiL_inv : ∀ {l : List Eb} {h : Tr Ob} {c : Tr Ob → Rs}, kiL l h c = res → ∃ h', c h' = res ∧ ∀ id ob, tget dI id h' = some ob → ob.m = .nil ∨ ((∀ x ∈ l, x.id ≠ id) ∧ tget dI id h = some ob)
 | [], h, c, hh => ⟨h, hh, fun id ob ho => .inr ⟨fun x hx => (by cases hx), ho⟩⟩
 | x :: l, h, c, hh => by
  obtain ⟨t', h2, hh⟩ := setK_inv hr (show setK dI x.id ⟨0, 0, 0, .nil⟩ h (fun h => kiL l h c) = res from hh)
  obtain ⟨h', h3, h4⟩ := kiL_inv hh
  refine ⟨h', h3, fun id ob ho => ?_⟩
  rcases h4 id ob ho with h5 | ⟨h5, h6⟩
  ·exact .inl h5
  ·by_cases hid : id = x.id
   ·subst hid
    rw [h2.1] at h6
    obtain rfl := Option.some.inj h6
    exact .inl rfl
   ·refine .inr ⟨fun y hy => ?_, by rw [← h2.2 id hid]; exact h6⟩
    rcases List.mem_cons.1 hy with rfl | hy
    ·exact fun e => hid e.symm
    ·exact h5 y hy
end
theorem me_sound {tab : List (Nat × Fe)} (ht : TabOK tab) {N f : Nat} {m : Me} (hm : ranB tab N f m = true) {w0 : Fm} {al : List AV} {σ σ' : Mem} {a : AV} {e' : En} {ρ : Pl} {vs : List Value} {w : World} (hn : m.n = σ.n) (hq : meO m al σ = .mk (.val a) e' σ') (ha : ARs ρ al vs) (hM : MR w0 ρ σ w) : Does Tryz.prog f vs.toArray w (fun val w' => ∃ ρ', Up ρ ρ' ∧ AR ρ' a val ∧ MR w0 ρ' σ' w') := by
 obtain ⟨h1, h⟩ := okK_inv hq val_ne
 clear hq
 have h1 := alE_eq h1
 subst h1
 obtain ⟨h2, h⟩ := ckL_inv val_ne h
 obtain ⟨hk, h, h3⟩ := kiL_inv val_ne h
 obtain ⟨hs, h, h4⟩ := seL_inv val_ne h
 injection h with h5 _ h7
 injection h5 with h5
 subst h5; subst h7
 have hne : (seL m.l0 .nil fun h => ranK m (run tab N f m.al ⟨m.n, h, []⟩)) ≠ .no := fun hh => by
  unfold ranB at hm
  rw [hh] at hm; cases hm
 obtain ⟨hb, hrun, h8⟩ := seL_inv hne (l := m.l0) (h := .nil) (c := fun h => ranK m (run tab N f m.al ⟨m.n, h, []⟩)) rfl
 have h8 : ∀ id ob, tget dI id hb = some ob → ∃ x ∈ m.l0, IsB x id ob := fun id ob ho => by
  rcases h8 id ob ho with hh | ⟨_, hh⟩
  ·exact hh
  ·rw [tget_nil] at hh; cases hh
 have hrn : ranK m (run tab N f m.al ⟨m.n, hb, []⟩) ≠ .no := fun hh => hne (by rw [← hrun]; exact hh)
 obtain ⟨v1, e1, σ1, hr1, hv1, hn1, hl1⟩ : ∃ v1 e1 σ1, run tab N f m.al ⟨m.n, hb, []⟩ = .mk (.val v1) e1 σ1 ∧ m.v = v1 ∧ m.n1 = σ1.n ∧ Has σ1 m.l1 := by
  generalize hq : run tab N f m.al ⟨m.n, hb, []⟩ = q at hrn
  cases q with
  | no => exact absurd rfl hrn
  | mk x e1 σ1 =>
   cases x with
   | val v1 =>
    have g0 : okK (avE m.v v1) (okK (Nat.beq m.n1 σ1.n) (ckL σ1 m.l1 (.mk .ret e0 σ1))) ≠ .no := hrn
    obtain ⟨g1, g⟩ := okK_inv rfl g0
    obtain ⟨g2, g⟩ := okK_inv g g0
    obtain ⟨g3, _⟩ := ckL_inv g0 g
    exact ⟨v1, e1, σ1, rfl, avE_eq g1, Nat.eq_of_beq_eq_true g2, g3⟩
   | _ => exact absurd rfl hrn
 subst hv1
 have hsub : ∀ id o x, cget ⟨m.n, hb, []⟩ id o = some x → cget σ id o = some x ∧ ∃ y ∈ m.l0, y.id = id := fun id o x hx => by
  obtain ⟨ob, q1, q2⟩ := cget_iff.1 hx
  obtain ⟨y, hy, q3, _, _, q5⟩ := h8 id ob q1
  obtain ⟨ob2, q6, _, q8⟩ := h2 y hy
  rw [q5 o] at q2
  have hlt := (List.getElem?_eq_some_iff.1 q2).1
  exact ⟨cget_iff.2 ⟨ob2, by rw [← q3]; exact q6, by rw [q8 o hlt]; exact q2⟩, y, hy, q3⟩
 have hin : ∀ y ∈ m.l0, ∀ (i : Nat), i < y.l.length → (cget σ y.id i).isSome = true := fun y hy i hi => by
  obtain ⟨ob2, q6, _, q8⟩ := h2 y hy
  rw [cget_iff.2 ⟨ob2, q6, (q8 i hi).trans (List.getElem?_eq_getElem hi)⟩]; rfl
 have hok : TabI (fun b => ∃ id o p, (cget ⟨m.n, hb, []⟩ id o).isSome = true ∧ ρ[id]? = some p ∧ p.b = b) w := w0.ok.of hM.old fun b hb' => by
  obtain ⟨id, o, p, q1, q2, rfl⟩ := hb'
  obtain ⟨x, hx⟩ := Option.isSome_iff_exists.1 q1
  exact hM.far id o p (by rw [(hsub id o x hx).1]; rfl) q2
 have hM0 : MR ⟨fun b => ∃ id o p, (cget ⟨m.n, hb, []⟩ id o).isSome = true ∧ ρ[id]? = some p ∧ p.b = b, w, hok⟩ ρ ⟨m.n, hb, []⟩ w := {
  len := by rw [hM.len]; exact hn.symm
  blk := fun id ob q1 q2 => by
   obtain ⟨o, q2⟩ := q2
   obtain ⟨x, hx⟩ := Option.isSome_iff_exists.1 q2
   obtain ⟨y, hy, q3, q4, _, q5⟩ := h8 id ob q1
   obtain ⟨ob2, q6, q7, q8⟩ := h2 y hy
   have hcell : ∀ o x, tget ob.d o ob.m = some x → tget ob2.d o ob2.m = some x := fun o x hx => by
    rw [q5 o] at hx
    rw [q8 o (List.getElem?_eq_some_iff.1 hx).1]; exact hx
   obtain ⟨p, cs, r1, r2, r3, r4⟩ := hM.blk id ob2 (by rw [← q3]; exact q6) ⟨o, by rw [hcell o x hx]; rfl⟩
   exact ⟨p, cs, r1, by rw [q4, ← q7]; exact r2, r3, fun o x hx => r4 o x (hcell o x hx)⟩
  old := Fr.refl _ _
  far := fun id o p q1 q2 => .inr ⟨id, o, p, q1, q2, rfl⟩
  pre := fun id ob q1 o ho => by
   obtain ⟨y, hy, _, _, q4, q5⟩ := h8 id ob q1
   rw [q5 o, List.getElem?_eq_none (by omega)]
  apart := fun id id' o o' p p' hne q1 q2 q3 q4 => by
   obtain ⟨x, hx⟩ := Option.isSome_iff_exists.1 q1
   obtain ⟨x', hx'⟩ := Option.isSome_iff_exists.1 q2
   exact hM.apart id id' o o' p p' hne (by rw [(hsub id o x hx).1]; rfl) (by rw [(hsub id' o' x' hx').1]; rfl) q3 q4
  mps := Mps.nil _ _ _ }
 refine Does.mono (run_sound ht N _ f m.al ⟨m.n, hb, []⟩ _ e1 σ1 ρ vs w hr1 ha hM0) fun val w' hh => ?_
 obtain ⟨ρ', hu, hav, hM1⟩ := hh
 refine ⟨ρ', hu, hav, ?_⟩
 have off : ∀ id o p, (cget σ id o).isSome = true → ρ[id]? = some p → (∀ x ∈ m.l0, x.id ≠ id) → ¬ ∃ id o p', (cget ⟨m.n, hb, []⟩ id o).isSome = true ∧ ρ[id]? = some p' ∧ p'.b = p.b := fun id o p q1 q2 q3 => by
  rintro ⟨id2, o2, p2, r1, r2, r3⟩
  obtain ⟨x, hx⟩ := Option.isSome_iff_exists.1 r1
  obtain ⟨r4, y, hy, r5⟩ := hsub id2 o2 x hx
  exact hM.apart id2 id o2 o p2 p (fun e => q3 y hy (r5.trans e)) (by rw [r4]; rfl) q1 r2 q2 r3
 have may1 : ∀ b, (Fm.mk (fun b => ∃ id o p, (cget ⟨m.n, hb, []⟩ id o).isSome = true ∧ ρ[id]? = some p ∧ p.b = b) w hok).may b → w0.may b := fun b hb' => by
  rcases hb' with hb' | ⟨id, o, p, r1, r2, rfl⟩
  ·exact .inl (Nat.le_trans hM.old.size hb')
  ·obtain ⟨x, hx⟩ := Option.isSome_iff_exists.1 r1
   exact hM.far id o p (by rw [(hsub id o x hx).1]; rfl) r2
 have cls : ∀ id ob, oget ⟨m.n1, hs, []⟩ id = some ob → (∃ o, (tget ob.d o ob.m).isSome = true) → (∃ x ∈ m.l1, IsB x id ob) ∨ ((∀ x ∈ m.l0, x.id ≠ id) ∧ oget σ id = some ob) := fun id ob q1 q2 => by
  rcases h4 id ob q1 with hh | ⟨_, hh⟩
  ·exact .inl hh
  ·rcases h3 id ob hh with hh | hh
   ·obtain ⟨o, q2⟩ := q2
    rw [hh, tget_nil] at q2; cases q2
   ·exact .inr hh
 have one : ∀ x ∈ m.l1, ∀ id ob, IsB x id ob → ∃ ob1, oget σ1 id = some ob1 ∧ ob1.e = ob.e ∧ ∀ o y, tget ob.d o ob.m = some y → tget ob1.d o ob1.m = some y := fun x hx id ob hi => by
  obtain ⟨i1, i2, _, i4⟩ := hi
  obtain ⟨ob1, r1, r2, r3⟩ := hl1 x hx
  refine ⟨ob1, by rw [← i1]; exact r1, by rw [r2, i2], fun o y hy => ?_⟩
  rw [i4 o] at hy
  rw [r3 o (List.getElem?_eq_some_iff.1 hy).1]; exact hy
 have cell : ∀ id o, (cget ⟨m.n1, hs, []⟩ id o).isSome = true → (cget σ1 id o).isSome = true ∨ ((∀ x ∈ m.l0, x.id ≠ id) ∧ (cget σ id o).isSome = true) := fun id o q => by
  obtain ⟨y, hy⟩ := Option.isSome_iff_exists.1 q
  obtain ⟨ob, q1, q2⟩ := cget_iff.1 hy
  rcases cls id ob q1 ⟨o, by rw [q2]; rfl⟩ with ⟨x, hx, hi⟩ | ⟨r1, r2⟩
  ·obtain ⟨ob1, r1, _, r3⟩ := one x hx id ob hi
   exact .inl (by rw [cget_iff.2 ⟨ob1, r1, r3 o y q2⟩]; rfl)
  ·exact .inr ⟨r1, by rw [cget_iff.2 ⟨ob, r2, q2⟩]; rfl⟩
 have old : ∀ id o p, (cget σ id o).isSome = true → ρ'[id]? = some p → ρ[id]? = some p := fun id o p q1 q2 => by
  obtain ⟨y, hy⟩ := Option.isSome_iff_exists.1 q1
  obtain ⟨p0, _, _, _, r1, _⟩ := hM.at_ hy
  have := hu _ _ r1
  rw [q2] at this
  rw [r1, Option.some.inj this]
 exact {
  len := hM1.len.trans hn1.symm
  blk := fun id ob q1 q2 => by
   rcases cls id ob q1 q2 with ⟨x, hx, hi⟩ | ⟨r1, r2⟩
   ·obtain ⟨ob1, r1, r2, r3⟩ := one x hx id ob hi
    obtain ⟨o, q2⟩ := q2
    obtain ⟨y, hy⟩ := Option.isSome_iff_exists.1 q2
    obtain ⟨p, cs, s1, s2, s3, s4⟩ := hM1.blk id ob1 r1 ⟨o, by rw [r3 o y hy]; rfl⟩
    exact ⟨p, cs, s1, by rw [← r2]; exact s2, s3, fun o y hy => s4 o y (r3 o y hy)⟩
   ·obtain ⟨p, cs, s1, s2, s3, s4⟩ := hM.blk id ob r2 q2
    obtain ⟨o, q2⟩ := q2
    obtain ⟨y, hy⟩ := Option.isSome_iff_exists.1 q2
    refine ⟨p, cs, hu _ _ s1, s2.fr hM1.old (off id o p (by rw [cget_iff.2 ⟨ob, r2, hy⟩]; rfl) s1 r1), s3, fun o y hy => ?_⟩
    obtain ⟨v, t1, t2⟩ := s4 o y hy
    exact ⟨v, t1, t2.up hu⟩
  old := hM.old.trans hM1.old fun j hj hS => by
   rcases may1 j (.inr hS) with hh | hh
   ·have hh : w0.w.heap.size ≤ j := hh
    omega
   ·exact hh
  far := fun id o p q1 q2 => by
   rcases cell id o q1 with hh | ⟨_, hh⟩
   ·exact may1 _ (hM1.far id o p hh q2)
   ·exact hM.far id o p hh (old id o p hh q2)
  pre := fun id ob q1 o ho => by
   cases hq : tget ob.d o ob.m with
   | none => rfl
   | some y =>
    rcases cls id ob q1 ⟨o, by rw [hq]; rfl⟩ with ⟨x, hx, _, _, i3, i4⟩ | ⟨_, r2⟩
    ·rw [i4 o, List.getElem?_eq_none (by omega)] at hq; cases hq
    ·rw [hM.pre id ob r2 o ho] at hq; cases hq
  apart := fun id id' o o' p p' hne q1 q2 q3 q4 => by
   have mix : ∀ id id' o o' p p', (cget σ1 id o).isSome = true → ρ'[id]? = some p → (∀ x ∈ m.l0, x.id ≠ id') → (cget σ id' o').isSome = true → ρ'[id']? = some p' → p.b ≠ p'.b := fun id id' o o' p p' r1 r2 r3 r4 r5 => by
    have r6 := old id' o' p' r4 r5
    rcases hM1.far id o p r1 r2 with hh | hh
    ·have hh : w.heap.size ≤ p.b := hh
     have := hM.below id' o' p' r4 r6
     omega
    ·intro e
     refine off id' o' p' r4 r6 r3 ?_
     rw [← e]; exact hh
   rcases cell id o q1 with hh | ⟨g1, hh⟩
   ·rcases cell id' o' q2 with hh' | ⟨g1', hh'⟩
    ·exact hM1.apart id id' o o' p p' hne hh hh' q3 q4
    ·exact mix id id' o o' p p' hh q3 g1' hh' q4
   ·rcases cell id' o' q2 with hh' | ⟨g1', hh'⟩
    ·exact (mix id' id o' o p' p hh' q4 g1 hh q3).symm
    ·exact hM.apart id id' o o' p p' hne hh hh' (old id o p hh q3) (old id' o' p' hh' q4)
  mps := Mps.nil _ _ _ }
theorem memo_nil {f : Nat} : OrcS f (memoO []) := fun w0 al σ a e' σ' ρ vs w h ha hM => by cases h
theorem memo_cons {tab : List (Nat × Fe)} (ht : TabOK tab) {N f : Nat} {m : Me} {es : List Me} (hm : ranB tab N f m = true) (h0 : OrcS f (memoO es)) : OrcS f (memoO (m :: es)) := fun w0 al σ a e' σ' ρ vs w h ha hM => by
 have h : ifK (Nat.beq m.n σ.n) (meO m al σ) (memoO es al σ) = .mk (.val a) e' σ' := h
 rw [ifK_eq] at h
 split at h
 ·rename_i hb
  exact me_sound ht hm (Nat.eq_of_beq_eq_true hb) h ha hM
 ·exact h0 w0 al σ a e' σ' ρ vs w h ha hM
theorem tok_nil : TabOK [] := fun x hx => by cases hx
theorem tok_cons {f : Nat} {x : Fe} {l : List (Nat × Fe)} (h : FeOK f x) (t : TabOK l) : TabOK ((f, x) :: l) := fun y hy => by
 rcases List.mem_cons.1 hy with rfl | hy
 ·exact h
 ·exact t y hy
noncomputable def nv (k : IntKind) (l : List Nat) : List SV := List.rec (motive := fun _ => List SV) [] (fun x _ ih => .n k x :: ih) l
end Rn
end Eng
end Go.Proofs.YtoheknblphcloaaGreatDoor
namespace Go.Proofs.YtoheknblphcloaaGreatDoor
open Go.RowKit
namespace Eng
namespace Rn
noncomputable def sB (n : Nat) (x : SV) : Bool := match x with
 | .p id _ => Nat.blt id n
 | .l id _ _ _ => Nat.blt id n
 | .lx id _ _ _ _ => Nat.blt id n
 | .le id _ _ _ => Nat.blt id n
 | .mp _ => false
 | .x _ _ => false
 | .sl _ => false
 | _ => true
noncomputable def lB (n : Nat) (l : List SV) : Bool := List.rec (motive := fun _ => Bool) true (fun x _ ih => an (sB n x) ih) l
noncomputable def tB (n : Nat) (x : TV) : Bool := match x with
 | .v x => sB n x
 | .g l => lB n l
noncomputable def tsB (n : Nat) (l : List TV) : Bool := List.rec (motive := fun _ => Bool) true (fun x _ ih => an (tB n x) ih) l
noncomputable def aB (n : Nat) (x : AV) : Bool := match x with
 | .v x => sB n x
 | .g l => lB n l
 | .t l => tsB n l
 | .f _ _ => false
noncomputable def asB (n : Nat) (l : List AV) : Bool := List.rec (motive := fun _ => Bool) true (fun x _ ih => an (aB n x) ih) l
noncomputable def ebB (n : Nat) (l : List Eb) : Bool := List.rec (motive := fun _ => Bool) true (fun x _ ih => an (an (Nat.blt x.id n) (lB n x.l)) ih) l
theorem blt_lt {a b : Nat} (h : Nat.blt a b = true) : a < b := Nat.le_of_ble_eq_true h
theorem Up.dn {ρ0 ρ : Pl} (hu : Up ρ0 ρ) {id : Nat} (hi : id < ρ0.length) {p : At} (h : ρ[id]? = some p) : ρ0[id]? = some p := by
 obtain ⟨q, hq⟩ : ∃ q, ρ0[id]? = some q := ⟨_, List.getElem?_eq_getElem hi⟩
 have := hu _ _ hq
 rw [h] at this
 rw [hq, Option.some.inj this]
theorem SR.dn {ρ0 ρ : Pl} (hu : Up ρ0 ρ) {x : SV} {v : Value} (hb : sB ρ0.length x = true) (h : SR ρ x v) : SR ρ0 x v := by
 cases x with
 | p id o => obtain ⟨p, h1, h2⟩ := h; exact ⟨p, hu.dn (blt_lt hb) h1, h2⟩
 | l id z j n => obtain ⟨p, h1, h2⟩ := h; exact ⟨p, hu.dn (blt_lt hb) h1, h2⟩
 | lx id z j n c => obtain ⟨p, h1, h2⟩ := h; exact ⟨p, hu.dn (blt_lt hb) h1, h2⟩
 | le id z j a => obtain ⟨p, h1, h2⟩ := h; exact ⟨p, hu.dn (blt_lt hb) h1, h2⟩
 | mp id => cases hb
 | x k id => cases hb
 | sl l => cases hb
 | _ => exact h
theorem SRs.dn {ρ0 ρ : Pl} (hu : Up ρ0 ρ) {l : List SV} {vs : List Value} (h : SRs ρ l vs) : lB ρ0.length l = true → SRs ρ0 l vs := by
 induction h with
 | nil => exact fun _ => .nil
 | cons h1 _ ih =>
  intro hb
  obtain ⟨b1, b2⟩ := an_inv (show an (sB ρ0.length _) (lB ρ0.length _) = true from hb)
  exact .cons ⟨h1.1, h1.2.dn hu b1⟩ (ih b2)
theorem TRs.dn {ρ0 ρ : Pl} (hu : Up ρ0 ρ) {l : List TV} {vs : List Value} (h : TRs ρ l vs) : tsB ρ0.length l = true → TRs ρ0 l vs := by
 induction h with
 | nil => exact fun _ => .nil
 | @cons x v l vs h1 _ ih =>
  intro hb
  obtain ⟨b1, b2⟩ := an_inv (show an (tB ρ0.length x) (tsB ρ0.length l) = true from hb)
  refine .cons ?_ (ih b2)
  cases x with
  | v x => exact SR.dn hu b1 h1
  | g l => obtain ⟨vs, h1, h2⟩ := h1; exact ⟨vs, h1.dn hu b1, h2⟩
theorem AR.dn {ρ0 ρ : Pl} (hu : Up ρ0 ρ) {x : AV} {v : Value} (hb : aB ρ0.length x = true) (h : AR ρ x v) : AR ρ0 x v := by
 cases x with
 | v x => exact SR.dn hu hb h
 | g l => obtain ⟨vs, h1, h2⟩ := h; exact ⟨vs, h1.dn hu hb, h2⟩
 | t l => obtain ⟨vs, h1, h2⟩ := h; exact ⟨vs, h1.dn hu hb, h2⟩
 | f fn l => cases hb
theorem ARs.dn {ρ0 ρ : Pl} (hu : Up ρ0 ρ) {l : List AV} {vs : List Value} (h : ARs ρ l vs) : asB ρ0.length l = true → ARs ρ0 l vs := by
 induction h with
 | nil => exact fun _ => .nil
 | cons h1 _ ih =>
  intro hb
  obtain ⟨b1, b2⟩ := an_inv (show an (aB ρ0.length _) (asB ρ0.length _) = true from hb)
  exact .cons (h1.dn hu b1) (ih b2)
theorem ebB_all {n : Nat} : ∀ {l : List Eb}, ebB n l = true → ∀ x ∈ l, x.id < n ∧ lB n x.l = true
 | [], _, x, hx => by cases hx
 | y :: l, h, x, hx => by
  obtain ⟨h1, h2⟩ := an_inv (show an (an (Nat.blt y.id n) (lB n y.l)) (ebB n l) = true from h)
  obtain ⟨h3, h4⟩ := an_inv h1
  rcases List.mem_cons.1 hx with rfl | hx
  ·exact ⟨blt_lt h3, h4⟩
  ·exact ebB_all h2 x hx
theorem lB_get {n : Nat} : ∀ {l : List SV}, lB n l = true → ∀ (i : Nat) x, l[i]? = some x → sB n x = true
 | [], _, i, x, hx => by cases hx
 | y :: l, h, i, x, hx => by
  obtain ⟨h1, h2⟩ := an_inv (show an (sB n y) (lB n l) = true from h)
  cases i with
  | zero => obtain rfl := Option.some.inj hx; exact h1
  | succ i => exact lB_get h2 i x hx
structure Pu where
 n : Nat
 al : List AV
 l0 : List Eb
 v : AV
noncomputable def puO (m : Pu) (al : List AV) (σ : Mem) : Rs := okK (alE m.al al) (okK (Nat.ble m.n σ.n) (ckL σ m.l0 (kiL m.l0 σ.h fun h => seL m.l0 h fun h => .mk (.val m.v) e0 ⟨σ.n, h, []⟩)))
noncomputable def ranQ (m : Pu) (r : Rs) : Rs := Rs.rec (motive := fun _ => Rs) .no (fun x _ σ => Ex.rec (motive := fun _ => Rs) .no (fun _ => .no) (fun _ => .no) .no (fun v => okK (avE m.v v) (ckL σ m.l0 (.mk .ret e0 σ))) x) r
noncomputable def ranP (tab : List (Nat × Fe)) (N f : Nat) (m : Pu) : Bool := an (an (asB m.n m.al) (aB m.n m.v)) (an (ebB m.n m.l0) (Rs.rec (motive := fun _ => Bool) false (fun _ _ _ => true) (seL m.l0 .nil fun h => ranQ m (run tab N f m.al ⟨m.n, h, []⟩))))
theorem pu_sound {tab : List (Nat × Fe)} (ht : TabOK tab) {N f : Nat} {m : Pu} (hm : ranP tab N f m = true) : OrcS f (puO m) := fun w0 al σ a e' σ' ρ vs w hq ha hM => by
 obtain ⟨hm1, hm2⟩ := an_inv hm
 obtain ⟨hbA, hbV⟩ := an_inv hm1
 obtain ⟨hbE, hm⟩ := an_inv hm2
 have hbE := ebB_all hbE
 obtain ⟨h1, h⟩ := okK_inv hq val_ne
 clear hq
 obtain ⟨hnle, h⟩ := okK_inv h val_ne
 have hnle := Nat.le_of_ble_eq_true hnle
 have h1 := alE_eq h1
 subst h1
 obtain ⟨h2, h⟩ := ckL_inv val_ne h
 obtain ⟨hk, h, h3⟩ := kiL_inv val_ne h
 obtain ⟨hs, h, h4⟩ := seL_inv val_ne h
 injection h with h5 _ h7
 injection h5 with h5
 subst h5; subst h7
 obtain ⟨ρ0, hρ0⟩ : ∃ ρ0, ρ0 = ρ.take m.n := ⟨_, rfl⟩
 have len0 : ρ0.length = m.n := by rw [hρ0, List.length_take, hM.len]; omega
 have hu0 : Up ρ0 ρ := fun id p hp => by
  rw [hρ0] at hp
  have hlt := (List.getElem?_eq_some_iff.1 hp).1
  rw [List.length_take] at hlt
  rwa [List.getElem?_take_of_lt (by omega)] at hp
 rw [← len0] at hbA hbV hbE
 have ha0 := ha.dn hu0 hbA
 have hne : (seL m.l0 .nil fun h => ranQ m (run tab N f m.al ⟨m.n, h, []⟩)) ≠ .no := fun hh => by
  rw [hh] at hm; cases hm
 obtain ⟨hb, hrun, h8⟩ := seL_inv hne (l := m.l0) (h := .nil) (c := fun h => ranQ m (run tab N f m.al ⟨m.n, h, []⟩)) rfl
 have h8 : ∀ id ob, tget dI id hb = some ob → ∃ x ∈ m.l0, IsB x id ob := fun id ob ho => by
  rcases h8 id ob ho with hh | ⟨_, hh⟩
  ·exact hh
  ·rw [tget_nil] at hh; cases hh
 have hrn : ranQ m (run tab N f m.al ⟨m.n, hb, []⟩) ≠ .no := fun hh => hne (by rw [← hrun]; exact hh)
 obtain ⟨v1, e1, σ1, hr1, hv1, hl1⟩ : ∃ v1 e1 σ1, run tab N f m.al ⟨m.n, hb, []⟩ = .mk (.val v1) e1 σ1 ∧ m.v = v1 ∧ Has σ1 m.l0 := by
  generalize hq : run tab N f m.al ⟨m.n, hb, []⟩ = q at hrn
  cases q with
  | no => exact absurd rfl hrn
  | mk x e1 σ1 =>
   cases x with
   | val v1 =>
    have g0 : okK (avE m.v v1) (ckL σ1 m.l0 (.mk .ret e0 σ1)) ≠ .no := hrn
    obtain ⟨g1, g⟩ := okK_inv rfl g0
    obtain ⟨g3, _⟩ := ckL_inv g0 g
    exact ⟨v1, e1, σ1, rfl, avE_eq g1, g3⟩
   | _ => exact absurd rfl hrn
 subst hv1
 have hsub : ∀ id o x, cget ⟨m.n, hb, []⟩ id o = some x → cget σ id o = some x ∧ ∃ y ∈ m.l0, y.id = id := fun id o x hx => by
  obtain ⟨ob, q1, q2⟩ := cget_iff.1 hx
  obtain ⟨y, hy, q3, _, _, q5⟩ := h8 id ob q1
  obtain ⟨ob2, q6, _, q8⟩ := h2 y hy
  rw [q5 o] at q2
  have hlt := (List.getElem?_eq_some_iff.1 q2).1
  exact ⟨cget_iff.2 ⟨ob2, by rw [← q3]; exact q6, by rw [q8 o hlt]; exact q2⟩, y, hy, q3⟩
 have hok : TabI (fun b => ∃ id o p, (cget ⟨m.n, hb, []⟩ id o).isSome = true ∧ ρ[id]? = some p ∧ p.b = b) w := w0.ok.of hM.old fun b hb' => by
  obtain ⟨id, o, p, q1, q2, rfl⟩ := hb'
  obtain ⟨x, hx⟩ := Option.isSome_iff_exists.1 q1
  exact hM.far id o p (by rw [(hsub id o x hx).1]; rfl) q2
 have hM0 : MR ⟨fun b => ∃ id o p, (cget ⟨m.n, hb, []⟩ id o).isSome = true ∧ ρ[id]? = some p ∧ p.b = b, w, hok⟩ ρ0 ⟨m.n, hb, []⟩ w := {
  len := len0
  blk := fun id ob q1 q2 => by
   obtain ⟨o, q2⟩ := q2
   obtain ⟨x, hx⟩ := Option.isSome_iff_exists.1 q2
   obtain ⟨y, hy, q3, q4, _, q5⟩ := h8 id ob q1
   obtain ⟨ob2, q6, q7, q8⟩ := h2 y hy
   have hcell : ∀ o x, tget ob.d o ob.m = some x → tget ob2.d o ob2.m = some x := fun o x hx => by
    rw [q5 o] at hx
    rw [q8 o (List.getElem?_eq_some_iff.1 hx).1]; exact hx
   obtain ⟨p, cs, r1, r2, r3, r4⟩ := hM.blk id ob2 (by rw [← q3]; exact q6) ⟨o, by rw [hcell o x hx]; rfl⟩
   obtain ⟨hyl, hyc⟩ := hbE y hy
   refine ⟨p, cs, hu0.dn (by rw [← q3]; exact hyl) r1, by rw [q4, ← q7]; exact r2, r3, fun o x hx => ?_⟩
   obtain ⟨v, r5, r6⟩ := r4 o x (hcell o x hx)
   rw [q5 o] at hx
   exact ⟨v, r5, r6.1, r6.2.dn hu0 (lB_get hyc o x hx)⟩
  old := Fr.refl _ _
  far := fun id o p q1 q2 => .inr ⟨id, o, p, q1, hu0 _ _ q2, rfl⟩
  pre := fun id ob q1 o ho => by
   obtain ⟨y, hy, _, _, q4, q5⟩ := h8 id ob q1
   rw [q5 o, List.getElem?_eq_none (by omega)]
  apart := fun id id' o o' p p' hne q1 q2 q3 q4 => by
   obtain ⟨x, hx⟩ := Option.isSome_iff_exists.1 q1
   obtain ⟨x', hx'⟩ := Option.isSome_iff_exists.1 q2
   exact hM.apart id id' o o' p p' hne (by rw [(hsub id o x hx).1]; rfl) (by rw [(hsub id' o' x' hx').1]; rfl) (hu0 _ _ q3) (hu0 _ _ q4)
  mps := Mps.nil _ _ _ }
 refine Does.mono (run_sound ht N _ f m.al ⟨m.n, hb, []⟩ _ e1 σ1 ρ0 vs w hr1 ha0 hM0) fun val w' hh => ?_
 obtain ⟨ρ', hu, hav, hM1⟩ := hh
 refine ⟨ρ, Up.refl ρ, (hav.dn hu hbV).up hu0, ?_⟩
 have off : ∀ id o p, (cget σ id o).isSome = true → ρ[id]? = some p → (∀ x ∈ m.l0, x.id ≠ id) → ¬ ∃ id o p', (cget ⟨m.n, hb, []⟩ id o).isSome = true ∧ ρ[id]? = some p' ∧ p'.b = p.b := fun id o p q1 q2 q3 => by
  rintro ⟨id2, o2, p2, r1, r2, r3⟩
  obtain ⟨x, hx⟩ := Option.isSome_iff_exists.1 r1
  obtain ⟨r4, y, hy, r5⟩ := hsub id2 o2 x hx
  exact hM.apart id2 id o2 o p2 p (fun e => q3 y hy (r5.trans e)) (by rw [r4]; rfl) q1 r2 q2 r3
 have may1 : ∀ b, (Fm.mk (fun b => ∃ id o p, (cget ⟨m.n, hb, []⟩ id o).isSome = true ∧ ρ[id]? = some p ∧ p.b = b) w hok).may b → w0.may b := fun b hb' => by
  rcases hb' with hb' | ⟨id, o, p, r1, r2, rfl⟩
  ·exact .inl (Nat.le_trans hM.old.size hb')
  ·obtain ⟨x, hx⟩ := Option.isSome_iff_exists.1 r1
   exact hM.far id o p (by rw [(hsub id o x hx).1]; rfl) r2
 have cls : ∀ id ob, oget ⟨σ.n, hs, []⟩ id = some ob → (∃ o, (tget ob.d o ob.m).isSome = true) → (∃ x ∈ m.l0, IsB x id ob) ∨ ((∀ x ∈ m.l0, x.id ≠ id) ∧ oget σ id = some ob) := fun id ob q1 q2 => by
  rcases h4 id ob q1 with hh | ⟨_, hh⟩
  ·exact .inl hh
  ·rcases h3 id ob hh with hh | hh
   ·obtain ⟨o, q2⟩ := q2
    rw [hh, tget_nil] at q2; cases q2
   ·exact .inr hh
 have one : ∀ x ∈ m.l0, ∀ id ob, IsB x id ob → ∃ ob1, oget σ1 id = some ob1 ∧ ob1.e = ob.e ∧ ∀ o y, tget ob.d o ob.m = some y → tget ob1.d o ob1.m = some y ∧ sB ρ0.length y = true := fun x hx id ob hi => by
  obtain ⟨i1, i2, _, i4⟩ := hi
  obtain ⟨ob1, r1, r2, r3⟩ := hl1 x hx
  refine ⟨ob1, by rw [← i1]; exact r1, by rw [r2, i2], fun o y hy => ?_⟩
  rw [i4 o] at hy
  exact ⟨by rw [r3 o (List.getElem?_eq_some_iff.1 hy).1]; exact hy, lB_get (hbE x hx).2 o y hy⟩
 have idl : ∀ x ∈ m.l0, ∀ id ob, IsB x id ob → id < ρ0.length := fun x hx id ob hi => by rw [← hi.1]; exact (hbE x hx).1
 have cell0 : ∀ id o, (cget ⟨σ.n, hs, []⟩ id o).isSome = true → ((cget σ1 id o).isSome = true ∧ id < ρ0.length) ∨ ((∀ x ∈ m.l0, x.id ≠ id) ∧ (cget σ id o).isSome = true) := fun id o q => by
  obtain ⟨y, hy⟩ := Option.isSome_iff_exists.1 q
  obtain ⟨ob, q1, q2⟩ := cget_iff.1 hy
  rcases cls id ob q1 ⟨o, by rw [q2]; rfl⟩ with ⟨x, hx, hi⟩ | ⟨r1, r2⟩
  ·obtain ⟨ob1, r1, _, r3⟩ := one x hx id ob hi
   exact .inl ⟨by rw [cget_iff.2 ⟨ob1, r1, (r3 o y q2).1⟩]; rfl, idl x hx id ob hi⟩
  ·exact .inr ⟨r1, by rw [cget_iff.2 ⟨ob, r2, q2⟩]; rfl⟩
 have at1 : ∀ id p, id < ρ0.length → ρ[id]? = some p → ρ'[id]? = some p := fun id p hi hp => hu _ _ (hu0.dn hi hp)
 exact {
  len := hM.len
  blk := fun id ob q1 q2 => by
   rcases cls id ob q1 q2 with ⟨x, hx, hi⟩ | ⟨r1, r2⟩
   ·obtain ⟨ob1, r1, r2, r3⟩ := one x hx id ob hi
    obtain ⟨o, q2⟩ := q2
    obtain ⟨y, hy⟩ := Option.isSome_iff_exists.1 q2
    obtain ⟨p, cs, s1, s2, s3, s4⟩ := hM1.blk id ob1 r1 ⟨o, by rw [(r3 o y hy).1]; rfl⟩
    refine ⟨p, cs, hu0 _ _ (hu.dn (idl x hx id ob hi) s1), by rw [← r2]; exact s2, s3, fun o y hy => ?_⟩
    obtain ⟨v, t1, t2⟩ := s4 o y (r3 o y hy).1
    exact ⟨v, t1, t2.1, (t2.2.dn hu (r3 o y hy).2).up hu0⟩
   ·obtain ⟨p, cs, s1, s2, s3, s4⟩ := hM.blk id ob r2 q2
    obtain ⟨o, q2⟩ := q2
    obtain ⟨y, hy⟩ := Option.isSome_iff_exists.1 q2
    exact ⟨p, cs, s1, s2.fr hM1.old (off id o p (by rw [cget_iff.2 ⟨ob, r2, hy⟩]; rfl) s1 r1), s3, s4⟩
  old := hM.old.trans hM1.old fun j hj hS => by
   rcases may1 j (.inr hS) with hh | hh
   ·have hh : w0.w.heap.size ≤ j := hh
    omega
   ·exact hh
  far := fun id o p q1 q2 => by
   rcases cell0 id o q1 with ⟨hh, hi⟩ | ⟨_, hh⟩
   ·exact may1 _ (hM1.far id o p hh (at1 id p hi q2))
   ·exact hM.far id o p hh q2
  pre := fun id ob q1 o ho => by
   cases hq : tget ob.d o ob.m with
   | none => rfl
   | some y =>
    rcases cls id ob q1 ⟨o, by rw [hq]; rfl⟩ with ⟨x, hx, _, _, i3, i4⟩ | ⟨_, r2⟩
    ·rw [i4 o, List.getElem?_eq_none (by omega)] at hq; cases hq
    ·rw [hM.pre id ob r2 o ho] at hq; cases hq
  apart := fun id id' o o' p p' hne q1 q2 q3 q4 => by
   have mix : ∀ id id' o o' p p', (cget σ1 id o).isSome = true → ρ'[id]? = some p → (∀ x ∈ m.l0, x.id ≠ id') → (cget σ id' o').isSome = true → ρ[id']? = some p' → p.b ≠ p'.b := fun id id' o o' p p' r1 r2 r3 r4 r6 => by
    rcases hM1.far id o p r1 r2 with hh | hh
    ·have hh : w.heap.size ≤ p.b := hh
     have := hM.below id' o' p' r4 r6
     omega
    ·intro e
     refine off id' o' p' r4 r6 r3 ?_
     rw [← e]; exact hh
   rcases cell0 id o q1 with ⟨hh, hi⟩ | ⟨g1, hh⟩
   ·rcases cell0 id' o' q2 with ⟨hh', hi'⟩ | ⟨g1', hh'⟩
    ·exact hM1.apart id id' o o' p p' hne hh hh' (at1 _ _ hi q3) (at1 _ _ hi' q4)
    ·exact mix id id' o o' p p' hh (at1 _ _ hi q3) g1' hh' q4
   ·rcases cell0 id' o' q2 with ⟨hh', hi'⟩ | ⟨g1', hh'⟩
    ·exact (mix id' id o' o p' p hh' (at1 _ _ hi' q4) g1 hh q3).symm
    ·exact hM.apart id id' o o' p p' hne hh hh' q3 q4
  mps := Mps.nil _ _ _ }
end Rn
end Eng
end Go.Proofs.YtoheknblphcloaaGreatDoor
namespace Go.Proofs.YtoheknblphcloaaGreatDoor
open Go.RowKit
namespace Eng
namespace Rn
noncomputable def dg (T j : Nat) : Nat := Nat.mod (Nat.shiftRight T (Nat.mul 16 j)) 65536
noncomputable def bitN (x : Nat) : Nat := Nat.shiftLeft 1 (Nat.mul 16 x)
noncomputable def pkN (l : List Nat) : Nat := List.rec (motive := fun _ => Nat) 0 (fun x _ ih => Nat.add ih (bitN x)) l
def ofD : List Nat → Nat
 | [] => 0
 | d :: r => d + 65536 * ofD r
theorem bitN_eq (x : Nat) : bitN x = 65536 ^ x := by
 show 1 <<< (16 * x) = _
 rw [Nat.shiftLeft_eq, Nat.one_mul, Nat.pow_mul]
theorem dg_eq (T j : Nat) : dg T j = T / 65536 ^ j % 65536 := by
 show (T >>> (16 * j)) % 65536 = _
 rw [Nat.shiftRight_eq_div_pow, Nat.pow_mul]
theorem dg_of : ∀ {ds : List Nat} {j : Nat}, (∀ d ∈ ds, d < 65536) → dg (ofD ds) j = ds[j]?.getD 0
 | [], j, _ => by rw [dg_eq]; simp [ofD]
 | d :: r, 0, h => by
  have hd := h d (by simp)
  rw [dg_eq]
  show (d + 65536 * ofD r) / 65536 ^ 0 % 65536 = d
  rw [Nat.pow_zero, Nat.div_one]
  omega
 | d :: r, j + 1, h => by
  have hd := h d (by simp)
  have ih := dg_of (ds := r) (j := j) (fun x hx => h x (List.mem_cons_of_mem _ hx))
  rw [dg_eq] at ih ⊢
  rw [List.getElem?_cons_succ, ← ih]
  show (d + 65536 * ofD r) / 65536 ^ (j + 1) % 65536 = _
  have e3 : (d + 65536 * ofD r) / 65536 = ofD r := by omega
  have e4 : (65536 : Nat) ^ (j + 1) = 65536 * 65536 ^ j := by rw [Nat.pow_succ, Nat.mul_comm]
  rw [e4, ← Nat.div_div_eq_div_mul, e3]
theorem ofD_modify : ∀ {ds : List Nat} {j : Nat}, j < ds.length → ofD (ds.modify j (· + 1)) = ofD ds + 65536 ^ j
 | [], j, h => by cases h
 | d :: r, 0, _ => by
  show d + 1 + 65536 * ofD r = d + 65536 * ofD r + 1
  omega
 | d :: r, j + 1, h => by
  have ih := ofD_modify (ds := r) (j := j) (Nat.lt_of_succ_lt_succ h)
  show d + 65536 * ofD (r.modify j (· + 1)) = d + 65536 * ofD r + 65536 ^ (j + 1)
  rw [ih, Nat.pow_succ]; omega
def cnL (F : Nat → Nat) (l : List Nat) : List Nat := (List.range 13).map fun j => F j + l.count j
theorem cnL_snoc (F : Nat → Nat) (l : List Nat) {x : Nat} (hx : x ≤ 12) : ofD (cnL F (l ++ [x])) = ofD (cnL F l) + bitN x := by
 rw [bitN_eq, ← ofD_modify (by simp [cnL]; omega)]
 congr 1
 apply List.ext_getElem?
 intro i
 rw [List.getElem?_modify]
 unfold cnL
 rw [List.getElem?_map, List.getElem?_map]
 by_cases hi : i < 13
 ·rw [List.getElem?_range hi]
  simp only [Option.map_some, List.count_append, List.count_singleton]
  by_cases hxi : x = i
  ·subst hxi; simp; omega
  ·have : (x == i) = false := by simpa using hxi
   rw [this]
   show _ = some (if x = i then _ else _)
   rw [if_neg hxi]; simp
 ·rw [List.getElem?_eq_none (by simpa using hi)]
  simp
theorem pkN_eq : ∀ {l : List Nat}, (∀ x ∈ l, x ≤ 12) → pkN l = ofD (cnL (fun _ => 0) l)
 | [], _ => by
  show (0 : Nat) = _
  decide
 | x :: l, h => by
  have ih := pkN_eq (l := l) fun y hy => h y (List.mem_cons_of_mem _ hy)
  show pkN l + bitN x = _
  rw [ih, ← cnL_snoc _ _ (h x (by simp))]
  congr 1
  unfold cnL
  refine List.map_congr_left fun j _ => ?_
  rw [List.count_append, List.count_singleton, List.count_cons]
theorem cnL_get {F : Nat → Nat} {l : List Nat} {j : Nat} (hj : j ≤ 12) (hF : ∀ i, i ≤ 12 → F i + l.count i < 65536) : dg (ofD (cnL F l)) j = F j + l.count j := by
 rw [dg_of fun d hd => ?_]
 ·unfold cnL
  rw [List.getElem?_map, List.getElem?_range (by omega)]; rfl
 ·unfold cnL at hd
  obtain ⟨i, hi, rfl⟩ := List.mem_map.1 hd
  rw [List.mem_range] at hi
  exact hF i (by omega)
noncomputable def mN (T j : Nat) : Nat := Nat.rec (motive := fun _ => Nat) 0 (fun _ _ => dg T j) j
noncomputable def fsK (T n j f : Nat) (k : List Nat → Rs) : Rs := Nat.rec (motive := fun _ => Nat → Nat → (List Nat → Rs) → Rs) (fun _ _ k => k []) (fun _ ih j f k => fN (Nat.mul (Nat.add f (mN T j)) 2) fun f' => fN (Nat.add j 1) fun j' => ih j' f' fun r => k (f :: r)) n j f k
noncomputable def msK (T n j : Nat) (k : List Nat → Rs) : Rs := Nat.rec (motive := fun _ => Nat → (List Nat → Rs) → Rs) (fun _ k => k []) (fun _ ih j k => fN (mN T j) fun x => fN (Nat.add j 1) fun j' => ih j' fun r => k (x :: r)) n j k
noncomputable def uK (l : List Nat) (k : List SV → Rs) : Rs := List.rec (motive := fun _ => (List SV → Rs) → Rs) (fun k => k []) (fun x _ ih k => okK (Nat.ble x 60000) (ih fun r => k (.n .u64 x :: r))) l k
theorem uK_inv {res : Rs} (hr : res ≠ .no) : ∀ {l : List Nat} {k : List SV → Rs}, uK l k = res → (∀ x ∈ l, x ≤ 60000) ∧ k (l.map fun x => .n .u64 x) = res
 | [], k, h => ⟨fun x hx => (by cases hx), h⟩
 | x :: l, k, h => by
  obtain ⟨h1, h2⟩ := okK_inv (show okK (Nat.ble x 60000) (uK l fun r => k (.n .u64 x :: r)) = res from h) hr
  obtain ⟨h3, h4⟩ := uK_inv hr h2
  refine ⟨fun y hy => ?_, h4⟩
  rcases List.mem_cons.1 hy with rfl | hy
  ·exact Nat.le_of_ble_eq_true h1
  ·exact h3 y hy
theorem u_rel (ρ : Pl) : ∀ {l : List Nat}, (∀ x ∈ l, x ≤ 60000) → SRs ρ (l.map fun x => .n .u64 x) (l.map fun x => Value.int .u64 (Int.ofNat x))
 | [], _ => .nil
 | x :: l, h => .cons ⟨rfl, rfl, by
   have := h x (by simp)
   show x ≤ 18446744073709551615
   omega⟩ (u_rel ρ fun y hy => h y (List.mem_cons_of_mem _ hy))
theorem count_map (l : List Nat) (j : Nat) : (l.map Int.ofNat).count (j : Int) = l.count j := by
 induction l with
 | nil => rfl
 | cons x l ih =>
  rw [List.map_cons, List.count_cons, List.count_cons, ih]
  congr 1
  by_cases h : x = j
  ·subst h; simp
  ·have h1 : (Int.ofNat x == (j : Int)) = false := beq_eq_false_iff_ne.2 fun hh => h (Int.ofNat.inj hh)
   have h2 : (x == j) = false := beq_eq_false_iff_ne.2 h
   rw [h1, h2]
section
variable {l : List Nat} (hl : ∀ x ∈ l, x ≤ 12) (hn : l.length ≤ 400)
include hl hn
theorem mN_eq {j : Nat} (hj : j ≤ 12) : mN (pkN l) j = manyB (l.map Int.ofNat) j := by
 unfold manyB
 cases j with
 | zero => rfl
 | succ j =>
  rw [if_neg (by omega), count_map]
  show dg (pkN l) (j + 1) = _
  rw [pkN_eq hl, cnL_get (F := fun _ => 0) hj fun i _ => (by have := List.count_le_length (a := i) (l := l); omega)]
  exact Nat.zero_add _
theorem fsK_eq : ∀ (n j : Nat) (k : List Nat → Rs), j + n ≤ 13 → fsK (pkN l) n j (firstB (l.map Int.ofNat) j) k = k ((List.range' j n).map (firstB (l.map Int.ofNat)))
 | 0, _, _, _ => rfl
 | n + 1, j, k, h => by
  have e1 : fsK (pkN l) (n + 1) j (firstB (l.map Int.ofNat) j) k = fN (Nat.mul (Nat.add (firstB (l.map Int.ofNat) j) (mN (pkN l) j)) 2) fun f' => fN (Nat.add j 1) fun j' => fsK (pkN l) n j' f' fun r => k (firstB (l.map Int.ofNat) j :: r) := rfl
  rw [e1, fN_eq, fN_eq, mN_eq hl hn (by omega)]
  have e2 : Nat.mul (Nat.add (firstB (l.map Int.ofNat) j) (manyB (l.map Int.ofNat) j)) 2 = firstB (l.map Int.ofNat) (j + 1) := rfl
  rw [e2]
  exact fsK_eq n (j + 1) _ (by omega)
theorem msK_eq : ∀ (n j : Nat) (k : List Nat → Rs), j + n ≤ 13 → msK (pkN l) n j k = k ((List.range' j n).map (manyB (l.map Int.ofNat)))
 | 0, _, _, _ => rfl
 | n + 1, j, k, h => by
  have e1 : msK (pkN l) (n + 1) j k = fN (mN (pkN l) j) fun x => fN (Nat.add j 1) fun j' => msK (pkN l) n j' fun r => k (x :: r) := rfl
  rw [e1, fN_eq, fN_eq, mN_eq hl hn (by omega)]
  exact msK_eq n (j + 1) _ (by omega)
end
noncomputable def le12 (l : List Nat) : Bool := List.rec (motive := fun _ => Bool) true (fun x _ ih => an (Nat.ble x 12) ih) l
theorem le12_spec : ∀ {l : List Nat}, le12 l = true → ∀ x ∈ l, x ≤ 12
 | [], _, x, hx => by cases hx
 | y :: l, h, x, hx => by
  obtain ⟨h1, h2⟩ := an_inv (show an (Nat.ble y 12) (le12 l) = true from h)
  rcases List.mem_cons.1 hx with rfl | hx
  ·exact Nat.le_of_ble_eq_true h1
  ·exact le12_spec h2 x hx
theorem le_lens {l : List Nat} (h : ∀ x ∈ l, x ≤ 12) : Lens (l.map Int.ofNat) := fun z hz => by
 obtain ⟨x, hx, rfl⟩ := List.mem_map.1 hz
 have := h x hx
 exact ⟨Int.natCast_nonneg x, by show (x : Int) ≤ 12; omega⟩
noncomputable def tabK (l : List Nat) (k : List Nat → List Nat → Rs) : Rs := okK (le12 l) (okK (Nat.ble (lnN l) 400) (fN (pkN l) fun T => fsK T 13 0 0 fun F => msK T 13 0 fun M => k F M))
theorem tabK_inv {res : Rs} (hr : res ≠ .no) {l : List Nat} {k : List Nat → List Nat → Rs} (h : tabK l k = res) : (∀ x ∈ l, x ≤ 12) ∧ l.length ≤ 400 ∧ k ((List.range 13).map (firstB (l.map Int.ofNat))) ((List.range 13).map (manyB (l.map Int.ofNat))) = res := by
 obtain ⟨h1, h⟩ := okK_inv h hr
 obtain ⟨h2, h⟩ := okK_inv h hr
 have h1 := le12_spec h1
 have h2 := Nat.le_of_ble_eq_true h2
 rw [lnN_eq] at h2
 rw [fN_eq] at h
 have h : fsK (pkN l) 13 0 (firstB (l.map Int.ofNat) 0) (fun F => msK (pkN l) 13 0 fun M => k F M) = res := h
 rw [fsK_eq h1 h2 13 0 _ (by omega), msK_eq h1 h2 13 0 _ (by omega)] at h
 exact ⟨h1, h2, h⟩
noncomputable def countG (l : List Nat) (σ : Mem) : Rs := tabK l fun F M => uK (F ++ M) fun cs => .mk (.val (.g cs)) e0 σ
noncomputable def countO (al : List AV) (σ : Mem) : Rs := on1 al fun x => inK σ x fun l => countG l σ
theorem count_orc : OrcS 265 countO := orc_row (g := countG) (fun _ _ => rfl) fun r v σ w a e σ' hv h => by
 obtain ⟨h1, h2, h3⟩ := tabK_inv val_ne h
 obtain ⟨h4, h5⟩ := uK_inv val_ne h3
 injection h5 with h6 _ h8
 injection h6 with h6
 subst h8
 refine ⟨rfl, Does.mono (hcount_does w v _ hv (le_lens h1) (by rw [List.length_map]; exact h2)) fun val w' hh => ?_⟩
 obtain ⟨rfl, hE⟩ := hh
 refine ⟨fun ρ => ?_, hE⟩
 rw [← h6]
 refine ⟨_, u_rel ρ h4, ?_⟩
 unfold tabA tabL
 rw [List.map_append, List.map_map, List.map_map]
 rfl
noncomputable def pF (l : List Nat) : Nat := List.rec (motive := fun _ => Nat) 0 (fun x _ ih => Nat.add x (Nat.mul 65536 ih)) l
theorem pF_eq : ∀ l : List Nat, pF l = ofD l
 | [] => rfl
 | x :: l => by
  show x + 65536 * pF l = x + 65536 * ofD l
  rw [pF_eq l]
noncomputable def cdK (l : List Nat) (T : Nat) (k : List Nat → Rs) : Rs := List.rec (motive := fun _ => Nat → (List Nat → Rs) → Rs) (fun _ k => k []) (fun x _ ih T k => Nat.rec (motive := fun _ => Rs) (ih T fun r => k (0 :: r)) (fun _ _ => fN (dg T x) fun c => fN (Nat.add T (bitN x)) fun T => ih T fun r => k (c :: r)) x) l T k
theorem cdK_eq {zs : List Nat} (hz : ∀ x ∈ zs, x ≤ 12) (hF : ∀ i, i ≤ 12 → firstB (zs.map Int.ofNat) i ≤ 60000) (hn : zs.length ≤ 400) : ∀ {l pre q : List Nat} {k : List Nat → Rs}, zs = pre ++ l → (∀ j, 0 < j → q.count j = pre.count j) → q.length ≤ pre.length → cdK l (ofD (cnL (firstB (zs.map Int.ofNat)) q)) k = k ((List.range' pre.length l.length).map (codeB (zs.map Int.ofNat)))
 | [], _, _, _, _, _, _ => rfl
 | x :: l, pre, q, k, he, hq, hql => by
  have hget : zs[pre.length]? = some x := by rw [he]; simp
  have hx : x ≤ 12 := hz x (by rw [he]; simp)
  have htake : (zs.map Int.ofNat).take pre.length = pre.map Int.ofNat := by rw [he, List.map_append, List.take_left' (by simp)]
  have hlen : pre.length + l.length + 1 = zs.length := by rw [he]; simp; omega
  have hcode : codeB (zs.map Int.ofNat) pre.length = if 0 < x then firstB (zs.map Int.ofNat) x + pre.count x else 0 := by
   unfold codeB
   rw [List.getElem?_map, hget]
   show (if 0 < Int.ofNat x then firstB (zs.map Int.ofNat) (Int.ofNat x).toNat + ((zs.map Int.ofNat).take pre.length).count (Int.ofNat x) else 0) = _
   rw [htake]
   have := count_map pre x
   by_cases h0 : 0 < x
   ·have h1 : (0 : Int) < Int.ofNat x := by show (0 : Int) < (x : Int); omega
    rw [if_pos h0, if_pos h1]
    show firstB (zs.map Int.ofNat) x + _ = _
    rw [← this]; rfl
   ·have h1 : ¬ (0 : Int) < Int.ofNat x := by show ¬ (0 : Int) < (x : Int); omega
    rw [if_neg h0, if_neg h1]
  rw [List.length_cons, List.range'_succ, List.map_cons, hcode]
  have hne : pre.length + 1 = (pre ++ [x]).length := by simp
  cases x with
  | zero =>
   show cdK l (ofD (cnL (firstB (zs.map Int.ofNat)) q)) (fun r => k (0 :: r)) = _
   rw [cdK_eq hz hF hn (pre := pre ++ [0]) (q := q) (by rw [he]; simp) (fun j hj => by
    have h1 : (0 == j) = false := beq_eq_false_iff_ne.2 (by omega)
    rw [hq j hj, List.count_append, List.count_singleton, h1]; rfl) (by simp; omega), ← hne]
   rfl
  | succ m =>
   show fN (dg (ofD (cnL (firstB (zs.map Int.ofNat)) q)) (m + 1)) (fun c => fN (Nat.add (ofD (cnL (firstB (zs.map Int.ofNat)) q)) (bitN (m + 1))) fun T => cdK l T fun r => k (c :: r)) = _
   have hb : ∀ i, i ≤ 12 → firstB (zs.map Int.ofNat) i + q.count i < 65536 := fun i hi => by
    have h1 := hF i hi
    have h2 := List.count_le_length (a := i) (l := q)
    omega
   rw [fN_eq, fN_eq, cnL_get hx hb]
   ·have e2 : Nat.add (ofD (cnL (firstB (zs.map Int.ofNat)) q)) (bitN (m + 1)) = ofD (cnL (firstB (zs.map Int.ofNat)) (q ++ [m + 1])) := (cnL_snoc _ _ hx).symm
    rw [e2, cdK_eq hz hF hn (pre := pre ++ [m + 1]) (q := q ++ [m + 1]) (by rw [he]; simp) (fun j hj => by rw [List.count_append, List.count_append, hq j hj]) (by simp; omega), ← hne, if_pos (Nat.succ_pos m), hq _ (Nat.succ_pos m)]
noncomputable def codesG (l : List Nat) (σ : Mem) : Rs := okK (mayN l) (tabK l fun F _ => uK F fun _ => fN (pF F) fun T => cdK l T fun c => uK c fun cs => fN (lnN l) fun n => newK σ 23 cs fun id σ => .mk (.val (.v (.lx id 1 0 n n))) e0 σ)
noncomputable def codesO (al : List AV) (σ : Mem) : Rs := on1 al fun x => inK σ x fun l => codesG l σ
theorem codes_sound {f : Nat} (hf : ∀ (w : World) (v : Value) (zs : List Int), IRow w v zs → mayB zs = true → Does Tryz.prog f #[v] w fun r w' => ∃ b, r = .slice (some ⟨b, 0, none⟩) zs.length zs.length ∧ w.heap.size ≤ b ∧ UB w' b (codesB zs) ∧ Ext w w') : OrcS f codesO := fun w0 al σ a e' σ' ρ vs w h ha hM => by
 obtain ⟨x, v, rfl, h1, h2⟩ := on1_inv val_ne ha h
 obtain ⟨l, h3, h4⟩ := inK_inv val_ne hM h1 h2
 obtain ⟨h5, h6⟩ := okK_inv (show okK (mayN l) _ = _ from h4) val_ne
 rw [mayN_eq] at h5
 obtain ⟨h7, h8, h9⟩ := tabK_inv val_ne h6
 obtain ⟨h10, h11⟩ := uK_inv val_ne h9
 rw [fN_eq, pF_eq] at h11
 have hF : ∀ i, i ≤ 12 → firstB (l.map Int.ofNat) i ≤ 60000 := fun i hi => h10 _ (List.mem_map.2 ⟨i, List.mem_range.2 (by omega), rfl⟩)
 have e0 : (List.range 13).map (firstB (l.map Int.ofNat)) = cnL (firstB (l.map Int.ofNat)) [] := by
  unfold cnL
  exact List.map_congr_left fun j _ => by simp
 rw [e0, cdK_eq h7 hF h8 (l := l) (pre := []) (q := []) rfl (fun _ _ => rfl) (Nat.le_refl _)] at h11
 obtain ⟨h12, h13⟩ := uK_inv val_ne h11
 rw [fN_eq, lnN_eq] at h13
 obtain ⟨ob, σ2, k1, k2, k3, k4, k5, k6, k7⟩ := newK_inv val_ne h13
 injection k7 with k8 _ k10
 injection k8 with k8
 subst k10
 refine Does.mono (hf w v _ h3 h5) fun val w' hh => ?_
 obtain ⟨b, rfl, hb, hU, hE⟩ := hh
 have hcs : (codesB (l.map Int.ofNat)).map (Value.int .u64) = ((List.range' 0 l.length).map (codeB (l.map Int.ofNat))).map fun x => Value.int .u64 (Int.ofNat x) := by
  unfold codesB
  rw [List.map_map, List.map_map, List.length_map, List.range_eq_range']
  rfl
 have hU' : Blk w' b 23 ((((List.range' 0 l.length).map (codeB (l.map Int.ofNat))).map fun x => Value.int .u64 (Int.ofNat x))).toArray := by
  have := hU
  unfold UB at this
  rwa [hcs] at this
 have hu := u_rel ρ h12
 have hM2 := hM.more (S := noneB) l.length 1 (by simp) k1 k2 (fun o ho => by rw [k4 o]; exact List.getElem?_eq_none (by omega)) (fun o x hx => by
  rw [k4 o] at hx
  obtain ⟨v, q1, q2⟩ := hu.get o x hx
  exact ⟨v, by simpa using q1, q2⟩) k5 k6 (Blk.bk hU') hE (fun id o p s1 s2 => ⟨by have := hM.below id o p s1 s2; omega, fun hh => hh⟩) (fun b hh => hh.elim) (.inl (Nat.le_trans hM.old.size hb))
 refine ⟨_, Up.snoc ρ _, ?_, hM2⟩
 rw [← k8]
 refine ⟨⟨b, l.length, 1⟩, ?_, Nat.le_refl _, by unfold maxLen; omega, by rw [List.length_map, Nat.zero_mul]⟩
 rw [← hM.len]; simp
theorem codes_orc : OrcS 232 codesO := codes_sound codes_does
end Rn
end Eng
end Go.Proofs.YtoheknblphcloaaGreatDoor
namespace Go.Proofs.YtoheknblphcloaaGreatDoor
open Go.RowKit
namespace Eng
namespace Rn
noncomputable def on2 (al : List AV) (k : AV → AV → Rs) : Rs := List.rec (motive := fun _ => Rs) .no (fun x r _ => List.rec (motive := fun _ => Rs) .no (fun y r _ => List.rec (motive := fun _ => Rs) (k x y) (fun _ _ _ => .no) r) r) al
theorem on2_inv {res : Rs} {ρ : Pl} (hr : res ≠ .no) {al : List AV} {vs : List Value} {k : AV → AV → Rs} (ha : ARs ρ al vs) (h : on2 al k = res) : ∃ x y v u, vs = [v, u] ∧ AR ρ x v ∧ AR ρ y u ∧ k x y = res := by
 cases ha with
 | nil => exact absurd h.symm hr
 | cons h1 h2 =>
  cases h2 with
  | nil => exact absurd h.symm hr
  | cons h3 h4 =>
   cases h4 with
   | nil => exact ⟨_, _, _, _, rfl, h1, h3, h⟩
   | cons _ _ => exact absurd h.symm hr
noncomputable def ixN (a : Nat) (l : List Nat) : Nat → SV := List.rec (motive := fun _ => Nat → SV) (fun _ => .m .i64 0) (fun x _ ih i => Bool.rec (motive := fun _ => SV) (cN (Nat.add i 1) ih) (.n .i64 i) (Nat.beq x a)) l
noncomputable def ixbO (al : List AV) (σ : Mem) : Rs := on2 al fun x y => onS x fun l => onN y fun k a => kkK k .u8 (.mk (.val (.v (ixN a l 0))) e0 σ)
theorem u8_eq {x a : Nat} (hx : x < 256) (ha : a < 256) : (UInt8.ofNat x == UInt8.ofNat a) = decide (x = a) := by
 by_cases h : x = a
 ·subst h; simp
 ·rw [decide_eq_false h]
  simp only [beq_eq_false_iff_ne, ne_eq]
  intro hh
  have := congrArg UInt8.toNat hh
  simp only [UInt8.toNat_ofNat'] at this
  omega
theorem ixN_eq {ρ : Pl} {a : Nat} (ha : a < 256) : ∀ (l : List Nat) (i : Nat), (∀ c ∈ l, c < 256) → i + l.length ≤ 9223372036854775807 → SR ρ (ixN a l i) (.int .i64 (match (uOf l).findIdx? (· == UInt8.ofNat a) with
  | some j => ((i + j : Nat) : Int)
  | none => -1))
 | [], i, _, _ => ⟨rfl, Nat.zero_le _, rfl⟩
 | x :: l, i, hl, hi => by
  have hx := hl x List.mem_cons_self
  rw [List.length_cons] at hi
  have ih := ixN_eq (ρ := ρ) ha l (i + 1) (fun c hc => hl c (List.mem_cons_of_mem x hc)) (by omega)
  have e1 : uOf (x :: l) = UInt8.ofNat x :: uOf l := rfl
  rw [e1, List.findIdx?_cons, u8_eq hx ha]
  have e2 : ixN a (x :: l) i = Bool.rec (motive := fun _ => SV) (cN (Nat.add i 1) (ixN a l)) (.n .i64 i) (Nat.beq x a) := rfl
  rw [e2, beq_dec]
  by_cases h : x = a
  ·rw [decide_eq_true h]
   exact ⟨rfl, by show i ≤ 9223372036854775807; omega⟩
  ·rw [decide_eq_false h]
   show SR ρ (cN (Nat.add i 1) (ixN a l)) _
   rw [cN_eq]
   show SR ρ (ixN a l (i + 1)) _
   revert ih
   cases (uOf l).findIdx? (· == UInt8.ofNat a) with
   | none => exact fun ih => ih
   | some j =>
    intro ih
    show SR ρ _ (.int .i64 ((i + (j + 1) : Nat) : Int))
    rw [show i + (j + 1) = i + 1 + j from by omega]
    exact ih
theorem ixb_orc : OrcS 220 ixbO := fun w0 al σ v e' σ' ρ vs w h ha hM => by
 obtain ⟨x, y, vx, vy, rfl, hx, hy, h1⟩ := on2_inv val_ne ha h
 obtain ⟨l, rfl, h2⟩ := onS_inv val_ne h1
 obtain ⟨k, a, rfl, h3⟩ := onN_inv val_ne h2
 obtain ⟨rfl, h4⟩ := kkK_inv val_ne h3
 injection h4 with h5 _ h6
 injection h5 with h5
 subst h5; subst h6
 obtain ⟨rfl, hl, hm⟩ := hx
 obtain ⟨rfl, hk⟩ := hy
 have hk : a < 256 := by have : a ≤ 255 := hk; omega
 have ea : (Int.ofNat a) = ((UInt8.ofNat a).toNat : Int) := by
  rw [UInt8.toNat_ofNat', Nat.mod_eq_of_lt (by omega)]; rfl
 have hd := ixb_does w (uOf l) (UInt8.ofNat a)
 rw [← ea] at hd
 refine Does.mono hd fun val w' hh => ?_
 obtain ⟨rfl, rfl⟩ := hh
 refine ⟨ρ, Up.refl ρ, ?_, hM⟩
 have := ixN_eq (ρ := ρ) hk l 0 hl (by unfold maxLen at hm; omega)
 unfold idxI
 revert this
 cases (uOf l).findIdx? (· == UInt8.ofNat a) with
 | none => exact fun h => h
 | some j =>
  intro h
  have h : SR ρ (ixN a l 0) (.int .i64 ((0 + j : Nat) : Int)) := h
  rw [Nat.zero_add] at h
  exact h
end Rn
end Eng
end Go.Proofs.YtoheknblphcloaaGreatDoor
namespace Go.Proofs.YtoheknblphcloaaGreatDoor
open Go.RowKit
namespace Eng
namespace Rn
theorem MR.tab {w0 : Fm} {ρ : Pl} {σ : Mem} {w : World} (h : MR w0 ρ σ w) {g : Nat} (hg : Tryz.prog.globalNamed "internal/strconv.uint64pow10" = some g) : PowT w := ((w0.ok.of h.old fun _ hb => .inr hb) g hg).2.2
end Rn
end Eng
end Go.Proofs.YtoheknblphcloaaGreatDoor
namespace Go.Proofs.YtoheknblphcloaaGreatDoor
open Go.RowKit
namespace Eng
namespace Rn
theorem ER.z {m : Nat} {ρ : Pl} {env : Env} : ER m ρ ⟨[], [], [], []⟩ env := fun t a ha => by
 unfold elk at ha
 cases hk : kept m t <;> (rw [hk] at ha; have ha : alook t [] = some a := ha; cases ha)
theorem ER.c {m : Nat} {ρ : Pl} {env : Env} {t : Nat} {a : AV} {v : Value} {l : AEnv} (h : ER m ρ ⟨l, [], [], []⟩ env) (hv : look env t = some v) (ha : AR ρ a v) : ER m ρ ⟨(t, a) :: l, [], [], []⟩ env := fun t' a' h' => by
 unfold elk at h'
 cases hk : kept m t' with
 | true =>
  rw [hk] at h'
  have q1 : alook t' ((t, a) :: l) = some a' := h'
  clear h'
  simp only [alook] at q1
  split at q1
  ·rename_i ht
   subst ht
   have q2 := Option.some.inj q1
   subst q2
   exact ⟨v, hv, ha⟩
  ·refine h t' a' ?_
   unfold elk
   rw [hk]; exact q1
 | false =>
  rw [hk] at h'
  have q1 : alook t' [] = some a' := h'
  cases q1
theorem MR.z (w : World) (hT : TabI noneB w) : MR ⟨noneB, w, hT⟩ [] ⟨0, .nil, []⟩ w where
 len := rfl
 blk := fun id ob h1 _ => by
  have : oget ⟨0, .nil, []⟩ id = none := tget_nil _ _
  rw [this] at h1; cases h1
 old := Fr.refl _ _
 far := fun id o p _ hp => by cases hp
 pre := fun id ob h1 => by
  have : oget ⟨0, .nil, []⟩ id = none := tget_nil _ _
  rw [this] at h1; cases h1
 apart := fun id id' o o' p p' _ _ _ hp => by cases hp
 mps := Mps.nil _ _ _
end Rn
end Eng
end Go.Proofs.YtoheknblphcloaaGreatDoor
