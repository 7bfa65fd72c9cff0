/-
  Plain law: the order of the symbols, the two queues, the depths: what merge computes. Plain law: the two queues and the depths. Plain law: the trees of a merge: weights, heights, depths. Plain law: what the lengths of a merge are like: which symbols have one, how long they are, that they make a whole code. Plain law: sums of weights; halving; the lengths that are returned. Plain law: canonical codes: no code begins another; what is written is read again. Plain law: joining the two first lightest of a list, again and again, gives the lengths of the merge.
-/
import Derived.Test.YtighkjohpmlemaaSa
import Derived.Test.YtighkjohpmlemaaHh
import Derived.Test.YtighkjohpmlemaaHg
/-! Plain law: the order of the symbols, the two queues, the depths: what merge computes. -/
/-! Plain law: the order of the symbols, the two queues, the depths: what merge computes. -/
namespace Go.Proofs.Ytighkjohpmlemaa
open Go.RowKit
namespace Eng

/-- The symbols that come at all. -/
def posB (cs : List Int) : List Int := ((List.range cs.length).filter fun i => decide (0 < cs.getD i 0)).map fun (i : Nat) => (i : Int)
/-- Their order. -/
def cnt (cs : List Int) (x : Int) : Int := cs.getD x.toNat 0
def insB (c : Int → Int) (x : Int) : List Int → List Int
  | [] => [x]
  | y :: l => if c x < c y ∨ c x = c y ∧ x < y then x :: y :: l else y :: insB c x l
def srtB (c : Int → Int) : List Int → List Int
  | [] => []
  | x :: l => insB c x (srtB c l)

theorem insB_perm (c : Int → Int) (x : Int) : ∀ l, (insB c x l).Perm (x :: l)
  | [] => List.Perm.refl _
  | y :: l => by
    unfold insB
    split
    · exact List.Perm.refl _
    · exact ((insB_perm c x l).cons y).trans (List.Perm.swap x y l)
theorem srtB_perm (c : Int → Int) : ∀ l, (srtB c l).Perm l
  | [] => List.Perm.refl _
  | x :: l => (insB_perm c x _).trans ((srtB_perm c l).cons x)
theorem insB_sorted (c : Int → Int) (x : Int) : ∀ l, l.Pairwise (lt c) → (∀ y ∈ l, x ≠ y) → (insB c x l).Pairwise (lt c)
  | [], _, _ => by simp [insB]
  | y :: l, h, hn => by
    unfold insB
    rw [List.pairwise_cons] at h
    split
    · rename_i hh
      rw [List.pairwise_cons, List.pairwise_cons]
      refine ⟨fun z hz => ?_, h.1, h.2⟩
      rcases List.mem_cons.1 hz with rfl | hz
      · exact hh
      · exact lt_trans hh (h.1 z hz)
    · rename_i hh
      rw [List.pairwise_cons]
      refine ⟨fun z hz => ?_, insB_sorted c x l h.2 fun z hz => hn z (List.mem_cons_of_mem _ hz)⟩
      rcases List.mem_cons.1 ((insB_perm c x l).subset hz) with rfl | hz
      · have := hn y (List.mem_cons_self ..)
        unfold lt; omega
      · exact h.1 z hz
theorem srtB_sorted (c : Int → Int) : ∀ l : List Int, l.Nodup → (srtB c l).Pairwise (lt c)
  | [], _ => List.Pairwise.nil
  | x :: l, h => by
    rw [List.nodup_cons] at h
    exact insB_sorted c x _ (srtB_sorted c l h.2) fun y hy e => h.1 (by rw [e]; exact (srtB_perm c l).subset hy)

theorem lt_asymm {c : Int → Int} {x y : Int} (h : lt c x y) (h' : lt c y x) : False := by unfold lt at h h'; omega
/-- A sorted row is one only. -/
theorem sorted_unique {c : Int → Int} : ∀ {l l' : List Int}, l.Pairwise (lt c) → l'.Pairwise (lt c) → l.Perm l' → l = l'
  | [], l', _, _, hp => (List.nil_perm.1 hp).symm
  | x :: l, [], _, _, hp => absurd hp (by simp)
  | x :: l, y :: l', h, h', hp => by
    rw [List.pairwise_cons] at h h'
    have e : x = y := by
      rcases List.mem_cons.1 (hp.subset (List.mem_cons_self ..)) with e | hx
      · exact e
      · rcases List.mem_cons.1 (hp.symm.subset (List.mem_cons_self ..)) with e | hy
        · exact e.symm
        · exact (lt_asymm (h'.1 x hx) (h.1 y hy)).elim
    subst e
    rw [sorted_unique h.2 h'.2 (List.Perm.cons_inv hp)]

theorem posB_asc (cs : List Int) : (posB cs).Pairwise (· < ·) := by
  unfold posB
  rw [List.pairwise_map]
  exact ((List.pairwise_lt_range).filter _).imp fun h => by omega
theorem posB_stb (cs : List Int) (c : Int → Int) : (posB cs).Pairwise (stb c) := List.Pairwise.imp (R := (· < ·)) (S := stb c) (fun h => fun _ => h) (posB_asc cs)
theorem posB_mem {cs : List Int} {x : Int} (h : x ∈ posB cs) : 0 ≤ x ∧ x < cs.length ∧ 0 < cnt cs x := by
  unfold posB at h
  obtain ⟨i, hi, rfl⟩ := List.mem_map.1 h
  rw [List.mem_filter, List.mem_range] at hi
  exact ⟨by omega, by omega, by simpa [cnt] using hi.2⟩
theorem posB_nodup (cs : List Int) : (posB cs).Nodup := (posB_asc cs).imp fun h e => by omega

def ordB (cs : List Int) : List Int := srtB (cnt cs) (posB cs)
theorem ordB_unique {cs S : List Int} (hp : S.Perm (posB cs)) (hs : S.Pairwise (lt (cnt cs))) : S = ordB cs :=
  sorted_unique hs (srtB_sorted _ _ (posB_nodup cs)) (hp.trans (srtB_perm _ _).symm)
theorem ordB_perm (cs : List Int) : (ordB cs).Perm (posB cs) := srtB_perm _ _
theorem ordB_sorted (cs : List Int) : (ordB cs).Pairwise (lt (cnt cs)) := srtB_sorted _ _ (posB_nodup cs)

end Eng
end Go.Proofs.Ytighkjohpmlemaa

/-! Plain law: the two queues and the depths. -/
namespace Go.Proofs.Ytighkjohpmlemaa
open Go.RowKit
namespace Eng

def takeI (n leaf made : Nat) (sm : List Int) : Nat := if takeB n leaf made sm then leaf else made
def takeL (n leaf made : Nat) (sm : List Int) : Nat := if takeB n leaf made sm then leaf + 1 else leaf
def takeM (n leaf made : Nat) (sm : List Int) : Nat := if takeB n leaf made sm then made else made + 1

/-- What lies in the merge: the weights, the parents, the next leaf, the next joined node. -/
structure HSt where
  sm : List Int
  up : List Int
  leaf : Nat
  made : Nat

def HSt.i1 (n : Nat) (x : HSt) : Nat := takeI n x.leaf x.made x.sm
def HSt.l1 (n : Nat) (x : HSt) : Nat := takeL n x.leaf x.made x.sm
def HSt.m1 (n : Nat) (x : HSt) : Nat := takeM n x.leaf x.made x.sm
def HSt.i2 (n : Nat) (x : HSt) : Nat := takeI n (x.l1 n) (x.m1 n) x.sm
def HSt.step (n : Nat) (x : HSt) : HSt :=
  ⟨x.sm ++ [x.sm.getD (x.i1 n) 0 + x.sm.getD (x.i2 n) 0], (x.up.set (x.i1 n) (x.sm.length : Int)).set (x.i2 n) (x.sm.length : Int), takeL n (x.l1 n) (x.m1 n) x.sm, takeM n (x.l1 n) (x.m1 n) x.sm⟩
def HSt.run (n : Nat) : Nat → HSt → HSt
  | 0, x => x
  | k + 1, x => (HSt.run n k x).step n

/-- What holds all along. -/
structure HOk (n : Nat) (x : HSt) : Prop where
  n2 : 2 ≤ n
  lf : x.leaf ≤ n
  md : x.made ≤ x.sm.length
  nm : n ≤ x.made
  sum : x.leaf + x.made + n = 2 * x.sm.length
  big : x.sm.length + 1 ≤ 2 * n
  ul : x.up.length + 1 = 2 * n
  upr : ∀ i, i < x.leaf ∨ (n ≤ i ∧ i < x.made) → (i : Int) < x.up.getD i 0 ∧ x.up.getD i 0 < x.sm.length

theorem take_cases (n leaf made : Nat) (sm : List Int) (h1 : leaf ≤ n) (h2 : made ≤ sm.length) (h3 : leaf + made < n + sm.length) :
    (takeI n leaf made sm = leaf ∧ takeL n leaf made sm = leaf + 1 ∧ takeM n leaf made sm = made ∧ leaf < n) ∨ (takeI n leaf made sm = made ∧ takeL n leaf made sm = leaf ∧ takeM n leaf made sm = made + 1 ∧ made < sm.length) := by
  unfold takeI takeL takeM
  by_cases hT : takeB n leaf made sm = true
  · left
    rw [if_pos hT, if_pos hT, if_pos hT]
    simp only [takeB, Bool.and_eq_true, decide_eq_true_eq] at hT
    exact ⟨rfl, rfl, rfl, hT.1⟩
  · right
    rw [if_neg hT, if_neg hT, if_neg hT]
    refine ⟨rfl, rfl, rfl, ?_⟩
    simp only [takeB, Bool.and_eq_true, Bool.or_eq_true, decide_eq_true_eq] at hT
    by_cases h : made = sm.length
    · exact absurd ⟨by omega, .inl h⟩ hT
    · omega

theorem getD_set {l : List Int} {i j : Nat} {z : Int} : (l.set i z).getD j 0 = if i = j ∧ i < l.length then z else l.getD j 0 := by
  rw [List.getD_eq_getElem?_getD, List.getD_eq_getElem?_getD, List.getElem?_set]
  by_cases h : i = j
  · subst h
    by_cases h2 : i < l.length
    · simp [h2]
    · simp [h2]
  · simp [h]

theorem HOk.step {n : Nat} {x : HSt} (h : HOk n x) (hb : x.sm.length + 2 ≤ 2 * n) : HOk n (x.step n) := by
  obtain ⟨n2, lf, md, nm, sum, big, ul, upr⟩ := h
  have t1 := take_cases n x.leaf x.made x.sm lf md (by omega)
  have l1d : x.l1 n = takeL n x.leaf x.made x.sm := rfl
  have m1d : x.m1 n = takeM n x.leaf x.made x.sm := rfl
  have i1d : x.i1 n = takeI n x.leaf x.made x.sm := rfl
  have t2 := take_cases n (x.l1 n) (x.m1 n) x.sm (by omega) (by omega) (by omega)
  have i2d : x.i2 n = takeI n (x.l1 n) (x.m1 n) x.sm := rfl
  refine ⟨n2, ?_, ?_, ?_, ?_, ?_, ?_, ?_⟩
  · show takeL n (x.l1 n) (x.m1 n) x.sm ≤ n; omega
  · show takeM n (x.l1 n) (x.m1 n) x.sm ≤ (x.sm ++ [_]).length; rw [List.length_append]; simp only [List.length_cons, List.length_nil]; omega
  · show n ≤ takeM n (x.l1 n) (x.m1 n) x.sm; omega
  · show takeL n (x.l1 n) (x.m1 n) x.sm + takeM n (x.l1 n) (x.m1 n) x.sm + n = 2 * (x.sm ++ [_]).length; rw [List.length_append]; simp only [List.length_cons, List.length_nil]; omega
  · show (x.sm ++ [_]).length + 1 ≤ 2 * n; rw [List.length_append]; simp only [List.length_cons, List.length_nil]; omega
  · show ((x.up.set _ _).set _ _).length + 1 = 2 * n; rw [List.length_set, List.length_set]; exact ul
  · intro i hi
    have hi' : i < takeL n (x.l1 n) (x.m1 n) x.sm ∨ n ≤ i ∧ i < takeM n (x.l1 n) (x.m1 n) x.sm := hi
    show (i : Int) < ((x.up.set (x.i1 n) _).set (x.i2 n) _).getD i 0 ∧ ((x.up.set (x.i1 n) _).set (x.i2 n) _).getD i 0 < ((x.sm ++ [_]).length : Int)
    rw [List.length_append]
    simp only [List.length_cons, List.length_nil]
    rw [getD_set, getD_set, List.length_set]
    split
    · omega
    · split
      · omega
      · have := upr i (by omega)
        omega

theorem HOk.run {n : Nat} {x : HSt} (h : HOk n x) (hl : x.sm.length = n) : ∀ k, k + 1 ≤ n → HOk n (x.run n k) ∧ (x.run n k).sm.length = n + k
  | 0, _ => ⟨h, hl⟩
  | k + 1, hk => by
    obtain ⟨h1, h2⟩ := HOk.run h hl k (by omega)
    refine ⟨h1.step (by omega), ?_⟩
    show ((HSt.run n k x).sm ++ [_]).length = _
    rw [List.length_append, h2]
    simp only [List.length_cons, List.length_nil]
    omega

/-- The start. -/
def HSt.init (ws : List Int) : HSt := ⟨ws, List.replicate (2 * ws.length - 1) 0, 0, ws.length⟩
theorem HOk.init {ws : List Int} (h : 2 ≤ ws.length) : HOk ws.length (HSt.init ws) :=
  ⟨h, Nat.zero_le _, Nat.le_refl _, Nat.le_refl _, by show 0 + ws.length + ws.length = 2 * ws.length; omega, by show ws.length + 1 ≤ _; omega, by show (List.replicate _ _).length + 1 = _; rw [List.length_replicate]; omega, fun i hi => by
    have hi' : i < 0 ∨ ws.length ≤ i ∧ i < ws.length := hi
    omega⟩

/-- The depths of all below i. -/
def dgo (up : List Int) : Nat → List Int → List Int
  | 0, d => d
  | i + 1, d => dgo up i (d.set i (d.getD (up.getD i 0).toNat 0 + 1))
/-- The depths as the code lays them: those from i on are laid. -/
def dto (up : List Int) (m : Nat) : Nat → List Int
  | 0 => List.replicate (m + 1) 0
  | k + 1 => (dto up m k).set (m - (k + 1)) ((dto up m k).getD (up.getD (m - (k + 1)) 0).toNat 0 + 1)
@[simp] theorem length_dto (up : List Int) (m k : Nat) : (dto up m k).length = m + 1 := by induction k with
  | zero => simp [dto]
  | succ k ih => simp [dto, ih]
theorem dto_le (up : List Int) (m : Nat) : ∀ k i, 0 ≤ (dto up m k).getD i 0 ∧ (dto up m k).getD i 0 ≤ k
  | 0, i => by
    unfold dto
    rw [List.getD_eq_getElem?_getD, List.getElem?_replicate]
    split <;> simp
  | k + 1, i => by
    unfold dto
    rw [getD_set]
    split
    · have := dto_le up m k (up.getD (m - (k + 1)) 0).toNat
      omega
    · have := dto_le up m k i
      omega

/-- The lengths laid at the symbols' places. -/
def lgo (S deep lens : List Int) : Nat → List Int
  | 0 => lens
  | k + 1 => (lgo S deep lens k).set (S.getD k 0).toNat (deep.getD k 0)
@[simp] theorem length_lgo (S deep lens : List Int) (k : Nat) : (lgo S deep lens k).length = lens.length := by induction k with
  | zero => rfl
  | succ k ih => simp [lgo, ih]

def deepB (ws : List Int) : List Int := dto ((HSt.init ws).run ws.length (ws.length - 1)).up (2 * ws.length - 2) (2 * ws.length - 2)
/-- What merge computes. -/
def mergeB (cs : List Int) : List Int :=
  let S := ordB cs
  let z := List.replicate cs.length (0 : Int)
  if S.length = 0 then z
  else if S.length = 1 then z.set (S.getD 0 0).toNat 1
  else lgo S (deepB (S.map (cnt cs))) z S.length

end Eng
end Go.Proofs.Ytighkjohpmlemaa

/-! Plain law: the trees of a merge: weights, heights, depths. -/
namespace Go.Proofs.Ytighkjohpmlemaa
open Go.RowKit
namespace Eng

inductive Tr where
  | leaf (i : Nat)
  | node (a b : Tr)

def fibo : Nat → Int
  | 0 => 1
  | 1 => 2
  | k + 2 => fibo (k + 1) + fibo k

namespace Tr
def h : Tr → Nat
  | .leaf _ => 0
  | .node a b => max a.h b.h + 1
def w (ws : List Int) : Tr → Int
  | .leaf i => ws.getD i 0
  | .node a b => a.w ws + b.w ws
def sy : Tr → List Nat
  | .leaf i => [i]
  | .node a b => a.sy ++ b.sy
/-- The leaves, each with its depth; the root's is d. -/
def lv (d : Nat) : Tr → List (Nat × Nat)
  | .leaf i => [(i, d)]
  | .node a b => a.lv (d + 1) ++ b.lv (d + 1)
def ok (ws : List Int) : Tr → Prop
  | .leaf i => 1 ≤ ws.getD i 0
  | .node a b => a.ok ws ∧ b.ok ws ∧ fibo (max a.h b.h + 1) ≤ a.w ws + b.w ws

theorem lv_sy : ∀ (t : Tr) (d : Nat), (t.lv d).map (·.1) = t.sy
  | .leaf _, _ => rfl
  | .node a b, d => by simp only [lv, sy, List.map_append, lv_sy a, lv_sy b]
theorem lv_bd : ∀ (t : Tr) (d j e : Nat), (j, e) ∈ t.lv d → d ≤ e ∧ e ≤ d + t.h
  | .leaf i, d, j, e, h => by
    simp only [lv, List.mem_singleton, Prod.mk.injEq] at h
    simp only [Tr.h]; omega
  | .node a b, d, j, e, h => by
    simp only [lv, List.mem_append] at h
    simp only [Tr.h]
    rcases h with h | h
    · have := lv_bd a _ _ _ h; omega
    · have := lv_bd b _ _ _ h; omega
theorem lv_top : ∀ (t : Tr) (d : Nat), ∃ j, (j, d + t.h) ∈ t.lv d
  | .leaf i, d => ⟨i, by simp [lv, Tr.h]⟩
  | .node a b, d => by
    obtain ⟨j, hj⟩ := lv_top a (d + 1)
    obtain ⟨j', hj'⟩ := lv_top b (d + 1)
    simp only [Tr.h, lv, List.mem_append]
    rcases Nat.le_total a.h b.h with hh | hh
    · refine ⟨j', .inr ?_⟩
      rw [Nat.max_eq_right hh, show d + (b.h + 1) = d + 1 + b.h from by omega]; exact hj'
    · refine ⟨j, .inl ?_⟩
      rw [Nat.max_eq_left hh, show d + (a.h + 1) = d + 1 + a.h from by omega]; exact hj
theorem kraft (H : Nat) : ∀ (t : Tr) (d : Nat), d + t.h ≤ H → ((t.lv d).map fun p => 2 ^ (H - p.2)).sum = 2 ^ (H - d)
  | .leaf i, d, _ => by simp [lv]
  | .node a b, d, hh => by
    simp only [Tr.h] at hh
    simp only [lv, List.map_append, List.sum_append]
    rw [kraft H a (d + 1) (by omega), kraft H b (d + 1) (by omega), show H - d = (H - (d + 1)) + 1 from by omega, Nat.pow_succ]
    omega
theorem ok_fib (ws : List Int) : ∀ t : Tr, t.ok ws → fibo t.h ≤ t.w ws
  | .leaf _, h => h
  | .node _ _, h => h.2.2
theorem ok_pos {ws : List Int} : ∀ t : Tr, t.ok ws → 1 ≤ t.w ws
  | .leaf _, h => h
  | .node a b, h => by
    have := ok_pos a h.1
    have := ok_pos b h.2.1
    simp only [w]; omega
theorem sy_pos : ∀ t : Tr, 0 < t.sy.length
  | .leaf _ => by simp [sy]
  | .node a b => by have := sy_pos a; simp [sy]; omega
end Tr

theorem fibo_pos : ∀ k, 1 ≤ fibo k
  | 0 => by simp [fibo]
  | 1 => by simp [fibo]
  | k + 2 => by have := fibo_pos k; have := fibo_pos (k + 1); simp only [fibo]; omega
theorem fibo_mono : ∀ {a b : Nat}, a ≤ b → fibo a ≤ fibo b := by
  intro a b h
  induction h with
  | refl => exact Int.le_refl _
  | step _ ih =>
    rename_i m _
    refine Int.le_trans ih ?_
    cases m with
    | zero => decide
    | succ m => have := fibo_pos m; simp only [fibo]; omega

/-- What is still there to take. -/
def Av (n len leaf made i : Nat) : Prop := (leaf ≤ i ∧ i < n) ∨ (made ≤ i ∧ i < len)

theorem take_min (n leaf made : Nat) (sm : List Int) (h1 : leaf ≤ n) (h2 : made ≤ sm.length) (h0 : n ≤ made) (h3 : leaf + made < n + sm.length)
    (hs : ∀ i j, i ≤ j → j < n → sm.getD i 0 ≤ sm.getD j 0) (hm : ∀ i j, n ≤ i → i ≤ j → j < sm.length → sm.getD i 0 ≤ sm.getD j 0) :
    Av n sm.length leaf made (takeI n leaf made sm) ∧ (∀ j, Av n sm.length leaf made j → sm.getD (takeI n leaf made sm) 0 ≤ sm.getD j 0) ∧
    ∀ j, Av n sm.length (takeL n leaf made sm) (takeM n leaf made sm) j ↔ Av n sm.length leaf made j ∧ j ≠ takeI n leaf made sm := by
  unfold takeI takeL takeM Av
  by_cases hT : takeB n leaf made sm = true
  · rw [if_pos hT, if_pos hT, if_pos hT]
    simp only [takeB, Bool.and_eq_true, Bool.or_eq_true, decide_eq_true_eq] at hT
    refine ⟨by omega, fun j hj => ?_, fun j => by omega⟩
    rcases hj with hj | hj
    · exact hs _ _ hj.1 hj.2
    · rcases hT.2 with h | h
      · omega
      · exact Int.le_trans h (hm _ _ h0 hj.1 hj.2)
  · rw [if_neg hT, if_neg hT, if_neg hT]
    simp only [takeB, Bool.and_eq_true, Bool.or_eq_true, decide_eq_true_eq, not_and, not_or] at hT
    have hml : made < sm.length := by
      by_cases hh : leaf < n
      · have := (hT hh).1; omega
      · omega
    refine ⟨by omega, fun j hj => ?_, fun j => by omega⟩
    rcases hj with hj | hj
    · have := (hT (by omega)).2
      have := hs _ _ hj.1 hj.2
      omega
    · exact hm _ _ h0 hj.1 hj.2

def d0 : Tr := .leaf 0
/-- Taken. -/
def Tk (n : Nat) (x : HSt) (i : Nat) : Prop := i < x.leaf ∨ (n ≤ i ∧ i < x.made)

structure TOk (ws : List Int) (x : HSt) (ts : List Tr) : Prop where
  ok : HOk ws.length x
  len : ts.length = x.sm.length
  n0 : ws.length ≤ x.sm.length
  wt : ∀ i, i < x.sm.length → x.sm.getD i 0 = (ts.getD i d0).w ws
  lf : ∀ i, i < ws.length → ts.getD i d0 = .leaf i
  asc : ∀ i j, ws.length ≤ i → i ≤ j → j < x.sm.length → x.sm.getD i 0 ≤ x.sm.getD j 0
  two : ∀ i j, Av ws.length x.sm.length x.leaf x.made i → Av ws.length x.sm.length x.leaf x.made j → i ≠ j → ∀ m, ws.length ≤ m → m < x.sm.length → x.sm.getD m 0 ≤ x.sm.getD i 0 + x.sm.getD j 0
  kid : ∀ i a b, Av ws.length x.sm.length x.leaf x.made i → ts.getD i d0 = .node a b → ∀ j, Av ws.length x.sm.length x.leaf x.made j → j ≠ i → a.w ws ≤ x.sm.getD j 0 ∧ b.w ws ≤ x.sm.getD j 0
  fib : ∀ i, i < x.sm.length → (ts.getD i d0).ok ws
  par : ∀ p, ws.length ≤ p → p < x.sm.length → ∃ i j, Tk ws.length x i ∧ Tk ws.length x j ∧ x.up.getD i 0 = p ∧ x.up.getD j 0 = p ∧ ts.getD p d0 = .node (ts.getD i d0) (ts.getD j d0)
  mono : ∀ i j, i ≤ j → (j < x.leaf ∨ ws.length ≤ i ∧ j < x.made) → x.up.getD i 0 ≤ x.up.getD j 0
  sys : ((List.range' x.leaf (ws.length - x.leaf) ++ List.range' x.made (x.sm.length - x.made)).flatMap fun i => (ts.getD i d0).sy).Perm (List.range ws.length)
  last : ws.length < x.sm.length → x.made < x.sm.length
  upn : ∀ i, Tk ws.length x i → (ws.length : Int) ≤ x.up.getD i 0

/-- The trees behind a step. -/
def tstep (n : Nat) (x : HSt) (ts : List Tr) : List Tr := ts ++ [.node (ts.getD (x.i1 n) d0) (ts.getD (x.i2 n) d0)]

theorem getD_snoc_lt {α : Type} (l : List α) (x d : α) (i : Nat) (h : i < l.length) : (l ++ [x]).getD i d = l.getD i d := by
  rw [List.getD_eq_getElem?_getD, List.getD_eq_getElem?_getD, List.getElem?_append_left h]
theorem getD_snoc_eq {α : Type} (l : List α) (x d : α) (i : Nat) (h : i = l.length) : (l ++ [x]).getD i d = x := by
  subst h; simp [List.getD_eq_getElem?_getD]

/-- What the step takes. -/
structure Pick (n : Nat) (x : HSt) (a b : Nat) : Prop where
  ava : Av n x.sm.length x.leaf x.made a
  avb : Av n x.sm.length x.leaf x.made b
  ne : a ≠ b
  mina : ∀ j, Av n x.sm.length x.leaf x.made j → x.sm.getD a 0 ≤ x.sm.getD j 0
  minb : ∀ j, Av n x.sm.length x.leaf x.made j → j ≠ a → x.sm.getD b 0 ≤ x.sm.getD j 0
  av' : ∀ j, Av n x.sm.length (x.step n).leaf (x.step n).made j ↔ Av n x.sm.length x.leaf x.made j ∧ j ≠ a ∧ j ≠ b
  tk : ∀ j, Tk n (x.step n) j ↔ Tk n x j ∨ j = a ∨ j = b
  mle : (x.step n).made ≤ x.sm.length

theorem TOk.leaves {ws : List Int} {x : HSt} {ts : List Tr} (h : TOk ws x ts) (hs : ∀ i j, i ≤ j → j < ws.length → ws.getD i 0 ≤ ws.getD j 0) : ∀ i j, i ≤ j → j < ws.length → x.sm.getD i 0 ≤ x.sm.getD j 0 := by
  intro i j hij hj
  have := h.n0
  rw [h.wt i (by omega), h.wt j (by omega), h.lf i (by omega), h.lf j hj]
  exact hs i j hij hj

theorem TOk.pick {ws : List Int} {x : HSt} {ts : List Tr} (h : TOk ws x ts) (hs : ∀ i j, i ≤ j → j < ws.length → ws.getD i 0 ≤ ws.getD j 0) (hb : x.sm.length + 2 ≤ 2 * ws.length) : Pick ws.length x (x.i1 ws.length) (x.i2 ws.length) := by
  have hl := h.leaves hs
  obtain ⟨n2, lf, md, nm, sum, big, ul, upr⟩ := h.ok
  have t1 := take_cases ws.length x.leaf x.made x.sm lf md (by omega)
  have m1 := take_min ws.length x.leaf x.made x.sm lf md nm (by omega) hl h.asc
  have e1 : takeI ws.length x.leaf x.made x.sm = x.i1 ws.length := rfl
  have e2 : takeL ws.length x.leaf x.made x.sm = x.l1 ws.length := rfl
  have e3 : takeM ws.length x.leaf x.made x.sm = x.m1 ws.length := rfl
  rw [e1, e2, e3] at t1 m1
  have t2 := take_cases ws.length (x.l1 ws.length) (x.m1 ws.length) x.sm (by omega) (by omega) (by omega)
  have m2 := take_min ws.length (x.l1 ws.length) (x.m1 ws.length) x.sm (by omega) (by omega) (by omega) (by omega) hl h.asc
  have e4 : takeI ws.length (x.l1 ws.length) (x.m1 ws.length) x.sm = x.i2 ws.length := rfl
  have e5 : takeL ws.length (x.l1 ws.length) (x.m1 ws.length) x.sm = (x.step ws.length).leaf := rfl
  have e6 : takeM ws.length (x.l1 ws.length) (x.m1 ws.length) x.sm = (x.step ws.length).made := rfl
  rw [e4, e5, e6] at t2 m2
  obtain ⟨a1, a2, a3⟩ := m1
  obtain ⟨b1, b2, b3⟩ := m2
  have b1' := (a3 _).1 b1
  refine ⟨a1, b1'.1, fun e => b1'.2 e.symm, a2, fun j hj hja => b2 j ((a3 j).2 ⟨hj, hja⟩), fun j => ?_, fun j => ?_, by omega⟩
  · rw [b3 j, a3 j]; exact ⟨fun hh => ⟨hh.1.1, hh.1.2, hh.2⟩, fun hh => ⟨⟨hh.1, hh.2.1⟩, hh.2.2⟩⟩
  · unfold Tk; omega

theorem range_take (leaf n : Nat) (h : leaf < n) : List.range' leaf (n - leaf) = leaf :: List.range' (leaf + 1) (n - (leaf + 1)) := by
  rw [show n - leaf = (n - (leaf + 1)) + 1 from by omega, List.range'_succ]

/-- The rows of what is there. -/
def avl (n len leaf made : Nat) : List Nat := List.range' leaf (n - leaf) ++ List.range' made (len - made)
theorem avl_take (n leaf made : Nat) (sm : List Int) (h1 : leaf ≤ n) (h2 : made ≤ sm.length) (h3 : leaf + made < n + sm.length) : (avl n sm.length leaf made).Perm (takeI n leaf made sm :: avl n sm.length (takeL n leaf made sm) (takeM n leaf made sm)) := by
  unfold avl
  rcases take_cases n leaf made sm h1 h2 h3 with ⟨e1, e2, e3, e4⟩ | ⟨e1, e2, e3, e4⟩
  · rw [e1, e2, e3, range_take leaf n e4]; exact List.Perm.refl _
  · rw [e1, e2, e3, range_take made sm.length e4]; exact List.perm_middle

theorem TOk.step {ws : List Int} {x : HSt} {ts : List Tr} (h : TOk ws x ts) (hs : ∀ i j, i ≤ j → j < ws.length → ws.getD i 0 ≤ ws.getD j 0) (hb : x.sm.length + 2 ≤ 2 * ws.length) : TOk ws (x.step ws.length) (tstep ws.length x ts) := by
  have pk := h.pick hs hb
  have ok' := h.ok.step hb
  obtain ⟨a, ha⟩ : ∃ a, a = x.i1 ws.length := ⟨_, rfl⟩
  obtain ⟨b, hb'⟩ : ∃ b, b = x.i2 ws.length := ⟨_, rfl⟩
  have hsm : (x.step ws.length).sm = x.sm ++ [x.sm.getD a 0 + x.sm.getD b 0] := by rw [ha, hb']; rfl
  have hup : (x.step ws.length).up = (x.up.set a (x.sm.length : Int)).set b (x.sm.length : Int) := by rw [ha, hb']; rfl
  have hts : tstep ws.length x ts = ts ++ [.node (ts.getD a d0) (ts.getD b d0)] := by rw [ha, hb']; rfl
  rw [← ha, ← hb'] at pk
  have hlen : (x.step ws.length).sm.length = x.sm.length + 1 := by rw [hsm]; simp
  have avlt : ∀ {j}, Av ws.length x.sm.length x.leaf x.made j → j < x.sm.length := fun {j} hj => by have := h.n0; unfold Av at hj; omega
  have hal := avlt pk.ava
  have hbl := avlt pk.avb
  have gl : ∀ i, i < x.sm.length → (x.step ws.length).sm.getD i 0 = x.sm.getD i 0 := fun i hi => by rw [hsm, getD_snoc_lt _ _ _ _ hi]
  have ge : (x.step ws.length).sm.getD x.sm.length 0 = x.sm.getD a 0 + x.sm.getD b 0 := by rw [hsm, getD_snoc_eq _ _ _ _ rfl]
  have tl : ∀ i, i < x.sm.length → (tstep ws.length x ts).getD i d0 = ts.getD i d0 := fun i hi => by rw [hts, getD_snoc_lt _ _ _ _ (by rw [h.len]; exact hi)]
  have te : (tstep ws.length x ts).getD x.sm.length d0 = .node (ts.getD a d0) (ts.getD b d0) := by rw [hts, getD_snoc_eq _ _ _ _ h.len.symm]
  have wa := h.wt a hal
  have wb := h.wt b hbl
  have oka := h.fib a hal
  have okb := h.fib b hbl
  have posa := Tr.ok_pos _ oka
  have posb := Tr.ok_pos _ okb
  have av2 : ∀ j, Av ws.length (x.step ws.length).sm.length (x.step ws.length).leaf (x.step ws.length).made j → j = x.sm.length ∨ (Av ws.length x.sm.length x.leaf x.made j ∧ j ≠ a ∧ j ≠ b) := fun j hj => by
    rw [← pk.av' j]
    rw [hlen] at hj
    unfold Av at hj ⊢
    omega
  have lasta : ∀ m, ws.length ≤ m → m < x.sm.length → x.sm.getD m 0 ≤ x.sm.getD a 0 + x.sm.getD b 0 := fun m h1 h2 => h.two a b pk.ava pk.avb pk.ne m h1 h2
  have n0 := h.n0
  have minb' : ∀ j, Av ws.length x.sm.length x.leaf x.made j → j ≠ a → x.sm.getD a 0 ≤ x.sm.getD j 0 ∧ x.sm.getD b 0 ≤ x.sm.getD j 0 := fun j hj hja => ⟨pk.mina j hj, pk.minb j hj hja⟩
  refine ⟨ok', by rw [hts, hlen]; simp [h.len], by omega, fun i hi => ?_, fun i hi => ?_, fun i j h1 h2 h3 => ?_, fun i j hi hj hij m h1 h2 => ?_, fun i ta tb hi he j hj hij => ?_, fun i hi => ?_, fun p h1 h2 => ?_, fun i j h1 h2 => ?_, ?_, fun _ => by have := pk.mle; omega, fun i hi => ?_⟩
  · by_cases hi' : i < x.sm.length
    · rw [gl i hi', tl i hi']; exact h.wt i hi'
    · obtain rfl : i = x.sm.length := by omega
      rw [ge, te]; simp only [Tr.w]; omega
  · rw [tl i (by omega)]; exact h.lf i hi
  · by_cases h3' : j < x.sm.length
    · rw [gl i (by omega), gl j h3']; exact h.asc i j h1 h2 h3'
    · obtain rfl : j = x.sm.length := by omega
      rw [ge]
      by_cases h4 : i < x.sm.length
      · rw [gl i h4]; exact lasta i h1 h4
      · obtain rfl : i = x.sm.length := by omega
        rw [ge]; omega
  · have hi' := av2 i hi
    have hj' := av2 j hj
    have key : (x.step ws.length).sm.getD m 0 ≤ x.sm.getD a 0 + x.sm.getD b 0 := by
      by_cases h4 : m < x.sm.length
      · rw [gl m h4]; exact lasta m h1 h4
      · obtain rfl : m = x.sm.length := by omega
        rw [ge]; omega
    rcases hi' with rfl | ⟨hi1, hi2, hi3⟩
    · rcases hj' with rfl | ⟨hj1, hj2, hj3⟩
      · exact absurd rfl hij
      · have := minb' j hj1 hj2
        rw [ge, gl j (avlt hj1)]; omega
    · rcases hj' with rfl | ⟨hj1, hj2, hj3⟩
      · have := minb' i hi1 hi2
        rw [ge, gl i (avlt hi1)]; omega
      · have := minb' j hj1 hj2
        have := minb' i hi1 hi2
        rw [gl i (avlt hi1), gl j (avlt hj1)]; omega
  · have hi' := av2 i hi
    have hj' := av2 j hj
    rcases hi' with rfl | ⟨hi1, hi2, hi3⟩
    · rw [te] at he
      injection he with e1 e2
      subst e1; subst e2
      rcases hj' with rfl | ⟨hj1, hj2, hj3⟩
      · exact absurd rfl hij
      · have := minb' j hj1 hj2
        rw [gl j (avlt hj1)]; omega
    · rw [tl i (avlt hi1)] at he
      rcases hj' with rfl | ⟨hj1, hj2, hj3⟩
      · have := h.kid i ta tb hi1 he a pk.ava (fun e => hi2 e.symm)
        rw [ge]; omega
      · have := h.kid i ta tb hi1 he j hj1 hij
        rw [gl j (avlt hj1)]; exact this
  · by_cases hi' : i < x.sm.length
    · rw [tl i hi']; exact h.fib i hi'
    · obtain rfl : i = x.sm.length := by omega
      rw [te]
      refine ⟨oka, okb, ?_⟩
      have fa := Tr.ok_fib ws _ oka
      have fb := Tr.ok_fib ws _ okb
      have key : ∀ (s t : Tr), s.ok ws → t.ok ws → t.h ≤ s.h → (∀ u v, s = .node u v → u.w ws ≤ t.w ws ∧ v.w ws ≤ t.w ws) → fibo (s.h + 1) ≤ s.w ws + t.w ws := by
        intro s t hs ht hle hk
        have p1 := Tr.ok_pos s hs
        have p2 := Tr.ok_pos t ht
        cases s with
        | leaf i => show (2 : Int) ≤ _; omega
        | node u v =>
          have hk' := hk u v rfl
          have f1 := Tr.ok_fib ws _ hs
          have hu := Tr.ok_fib ws u hs.1
          have hv := Tr.ok_fib ws v hs.2.1
          have e : (Tr.node u v).h = max u.h v.h + 1 := rfl
          rw [e] at f1 ⊢
          simp only [fibo]
          rcases Nat.le_total u.h v.h with hh | hh
          · rw [Nat.max_eq_right hh] at f1 ⊢; omega
          · rw [Nat.max_eq_left hh] at f1 ⊢; omega
      rcases Nat.le_total (ts.getD b d0).h (ts.getD a d0).h with hh | hh
      · rw [Nat.max_eq_left hh]
        refine key _ _ oka okb hh fun u v e => ?_
        have := h.kid a u v pk.ava e b pk.avb (fun e => pk.ne e.symm)
        rw [wb] at this; exact this
      · rw [Nat.max_eq_right hh, Int.add_comm]
        refine key _ _ okb oka hh fun u v e => ?_
        have := h.kid b u v pk.avb e a pk.ava pk.ne
        rw [wa] at this; exact this
  · have ul := h.ok.ul
    have tkn : ∀ i, Tk ws.length x i → i ≠ a ∧ i ≠ b ∧ i < x.sm.length := fun i hi => by
      have h1 := pk.ava; have h2 := pk.avb; have h3 := h.ok.lf; have h4 := h.ok.nm; have h5 := h.ok.md
      unfold Tk at hi; unfold Av at h1 h2; omega
    by_cases h2' : p < x.sm.length
    · obtain ⟨i, j, hi, hj, ui, uj, ht⟩ := h.par p h1 h2'
      have ni := tkn i hi
      have nj := tkn j hj
      refine ⟨i, j, (pk.tk i).2 (.inl hi), (pk.tk j).2 (.inl hj), ?_, ?_, ?_⟩
      · rw [hup, getD_set, getD_set, if_neg (by omega), if_neg (by omega)]; exact ui
      · rw [hup, getD_set, getD_set, if_neg (by omega), if_neg (by omega)]; exact uj
      · rw [tl p h2', tl i ni.2.2, tl j nj.2.2]; exact ht
    · obtain rfl : p = x.sm.length := by omega
      refine ⟨a, b, (pk.tk a).2 (.inr (.inl rfl)), (pk.tk b).2 (.inr (.inr rfl)), ?_, ?_, ?_⟩
      · rw [hup, getD_set, getD_set, List.length_set]
        split
        · rfl
        · rw [if_pos (by omega)]
      · rw [hup, getD_set, getD_set, List.length_set, if_pos (by omega)]
      · rw [te, tl a hal, tl b hbl]
  · have ul := h.ok.ul
    have hj' := pk.tk j
    have hi' := pk.tk i
    have h1a := pk.ava; have h2a := pk.avb; have h3a := h.ok.lf; have h4a := h.ok.nm; have h5a := h.ok.md
    have hup' : ∀ i, (x.step ws.length).up.getD i 0 = if i = a ∨ i = b then (x.sm.length : Int) else x.up.getD i 0 := fun i => by
      rw [hup, getD_set, getD_set, List.length_set]
      by_cases e1 : b = i
      · rw [if_pos (by omega), if_pos (by omega)]
      · rw [if_neg (by omega)]
        by_cases e2 : a = i
        · rw [if_pos (by omega), if_pos (by omega)]
        · rw [if_neg (by omega), if_neg (by omega)]
    rw [hup' i, hup' j]
    by_cases e1 : j = a ∨ j = b
    · rw [if_pos e1]
      by_cases e2 : i = a ∨ i = b
      · rw [if_pos e2]; omega
      · rw [if_neg e2]
        have hk : Tk ws.length x i := by
          have : Tk ws.length (x.step ws.length) i := by unfold Tk; have := ok'.nm; have := ok'.lf; omega
          exact (hi'.1 this).resolve_right e2
        have := (h.ok.upr i hk).2; omega
    · rw [if_neg e1]
      have hk : Tk ws.length x j := by
        have : Tk ws.length (x.step ws.length) j := by unfold Tk; omega
        exact (hj'.1 this).resolve_right e1
      have hk2 : i = a ∨ i = b → False := fun e2 => by
        unfold Tk at hk; unfold Av at h1a h2a; have := ok'.nm; have := ok'.lf; omega
      rw [if_neg hk2]
      refine h.mono i j h1 ?_
      unfold Tk at hk
      have := ok'.nm; have := ok'.lf
      omega
  · have lf := h.ok.lf; have md := h.ok.md; have sum := h.ok.sum; have nm := h.ok.nm
    have t1 := take_cases ws.length x.leaf x.made x.sm lf md (by omega)
    have p1 := avl_take ws.length x.leaf x.made x.sm lf md (by omega)
    have e2 : takeL ws.length x.leaf x.made x.sm = x.l1 ws.length := rfl
    have e3 : takeM ws.length x.leaf x.made x.sm = x.m1 ws.length := rfl
    have e1 : takeI ws.length x.leaf x.made x.sm = a := ha.symm
    rw [e1, e2, e3] at p1
    rw [e2, e3] at t1
    have p2 := avl_take ws.length (x.l1 ws.length) (x.m1 ws.length) x.sm (by omega) (by omega) (by omega)
    have e4 : takeI ws.length (x.l1 ws.length) (x.m1 ws.length) x.sm = b := hb'.symm
    have e5 : takeL ws.length (x.l1 ws.length) (x.m1 ws.length) x.sm = (x.step ws.length).leaf := rfl
    have e6 : takeM ws.length (x.l1 ws.length) (x.m1 ws.length) x.sm = (x.step ws.length).made := rfl
    rw [e4, e5, e6] at p2
    have mle := pk.mle
    have p3 : (avl ws.length x.sm.length x.leaf x.made).Perm (a :: b :: avl ws.length x.sm.length (x.step ws.length).leaf (x.step ws.length).made) := p1.trans (p2.cons a)
    have p4 := (List.Perm.flatMap_right (fun i => (ts.getD i d0).sy) p3).symm.trans h.sys
    refine List.Perm.trans ?_ p4
    have e7 : List.range' (x.step ws.length).made ((x.step ws.length).sm.length - (x.step ws.length).made) = List.range' (x.step ws.length).made (x.sm.length - (x.step ws.length).made) ++ [x.sm.length] := by
      rw [hlen, show x.sm.length + 1 - (x.step ws.length).made = (x.sm.length - (x.step ws.length).made) + 1 from by omega, List.range'_concat]
      congr 2; omega
    rw [e7, ← List.append_assoc, List.flatMap_append]
    have e8 : (avl ws.length x.sm.length (x.step ws.length).leaf (x.step ws.length).made).flatMap (fun i => ((tstep ws.length x ts).getD i d0).sy) = (avl ws.length x.sm.length (x.step ws.length).leaf (x.step ws.length).made).flatMap (fun i => (ts.getD i d0).sy) := by
      rw [List.flatMap_def, List.flatMap_def]
      congr 1
      refine List.map_congr_left fun i hi => ?_
      rw [tl i]
      unfold avl at hi
      rw [List.mem_append, List.mem_range'_1, List.mem_range'_1] at hi
      have := ok'.lf
      omega
    show (List.flatMap (fun i => ((tstep ws.length x ts).getD i d0).sy) (avl ws.length x.sm.length (x.step ws.length).leaf (x.step ws.length).made) ++ _).Perm _
    rw [e8]
    simp only [List.flatMap_cons, List.flatMap_nil, List.append_nil, te, Tr.sy]
    exact List.perm_append_comm.trans (by rw [List.append_assoc])
  · rw [hup, getD_set, getD_set]
    split
    · omega
    · split
      · omega
      · rename_i h1 h2
        have ul := h.ok.ul
        rw [List.length_set] at h1
        exact h.upn i (((pk.tk i).1 hi).resolve_right (by omega))

/-- The trees from the start on. -/
def trsB (ws : List Int) : Nat → List Tr
  | 0 => (List.range ws.length).map .leaf
  | k + 1 => tstep ws.length ((HSt.init ws).run ws.length k) (trsB ws k)

theorem flat_one (l : List Nat) (f : Nat → List Nat) (h : ∀ i ∈ l, f i = [i]) : l.flatMap f = l := by
  induction l with
  | nil => rfl
  | cons x r ih => rw [List.flatMap_cons, h x (List.mem_cons_self ..), ih fun i hi => h i (List.mem_cons_of_mem _ hi)]; rfl

theorem TOk.init {ws : List Int} (h2 : 2 ≤ ws.length) (hp : ∀ i, i < ws.length → 1 ≤ ws.getD i 0) : TOk ws (HSt.init ws) (trsB ws 0) := by
  have hg : ∀ i, i < ws.length → (trsB ws 0).getD i d0 = .leaf i := fun i hi => by
    simp [trsB, List.getD_eq_getElem?_getD, hi]
  have hl : (HSt.init ws).sm = ws := rfl
  have hle : (HSt.init ws).leaf = 0 := rfl
  have hma : (HSt.init ws).made = ws.length := rfl
  refine ⟨HOk.init h2, by simp [trsB, hl], by rw [hl]; omega, fun i hi => ?_, hg, fun i j h1 h2 h3 => ?_, fun i j _ _ _ m h1 h2 => ?_, fun i a b hi he => ?_, fun i hi => ?_, fun p h1 h2 => ?_, fun i j h1 h2 => ?_, ?_, fun hh => ?_, fun i hi => ?_⟩
  · rw [hl] at hi ⊢; rw [hg i hi]; rfl
  · rw [hl] at h3; omega
  · rw [hl] at h2; omega
  · rw [hl, hle, hma] at hi
    unfold Av at hi
    rw [hg i (by omega)] at he; cases he
  · rw [hl] at hi; rw [hg i hi]; exact hp i hi
  · rw [hl] at h2; omega
  · rw [hle, hma] at h2; omega
  · rw [hl, hle, hma, Nat.sub_self, Nat.sub_zero]
    simp only [List.range'_zero, List.append_nil]
    rw [flat_one _ _ fun i hi => by rw [List.mem_range'_1] at hi; rw [hg i (by omega)]; rfl, List.range_eq_range']
  · rw [hl] at hh; omega
  · unfold Tk at hi; rw [hle, hma] at hi; omega

theorem TOk.run {ws : List Int} (h2 : 2 ≤ ws.length) (hp : ∀ i, i < ws.length → 1 ≤ ws.getD i 0) (hs : ∀ i j, i ≤ j → j < ws.length → ws.getD i 0 ≤ ws.getD j 0) :
    ∀ k, k + 1 ≤ ws.length → TOk ws ((HSt.init ws).run ws.length k) (trsB ws k) ∧ ((HSt.init ws).run ws.length k).sm.length = ws.length + k
  | 0, _ => ⟨TOk.init h2 hp, rfl⟩
  | k + 1, hk => by
    obtain ⟨h1, h3⟩ := TOk.run h2 hp hs k (by omega)
    exact ⟨h1.step hs (by omega), ((HOk.init h2).run rfl (k + 1) hk).2⟩

/-- The depths that the code lays. -/
theorem dto_spec (up : List Int) (m : Nat) (hu : ∀ i, i < m → (i : Int) < up.getD i 0 ∧ up.getD i 0 ≤ m) : ∀ k, k ≤ m → (dto up m k).getD m 0 = 0 ∧ ∀ i, m - k ≤ i → i < m → (dto up m k).getD i 0 = (dto up m k).getD (up.getD i 0).toNat 0 + 1
  | 0, _ => ⟨by simp [dto, List.getD_eq_getElem?_getD], fun i h1 h2 => by omega⟩
  | k + 1, hk => by
    obtain ⟨h1, h2⟩ := dto_spec up m hu k (by omega)
    have hl := length_dto up m k
    refine ⟨?_, fun i h3 h4 => ?_⟩
    · simp only [dto]; rw [getD_set, if_neg (by omega)]; exact h1
    · simp only [dto]
      have hui := hu i h4
      rw [getD_set, getD_set]
      rw [if_neg (show ¬ (m - (k + 1) = (up.getD i 0).toNat ∧ m - (k + 1) < (dto up m k).length) from by omega)]
      by_cases e : m - (k + 1) = i
      · rw [if_pos (by omega), e]
      · rw [if_neg (by omega)]; exact h2 i (by omega) h4

/-- The tree of a merge. -/
structure Mrg (ws deep : List Int) (T : Tr) : Prop where
  ok : T.ok ws
  sy : T.sy.Perm (List.range ws.length)
  dp : ∀ j e, (j, e) ∈ T.lv 0 → deep.getD j 0 = (e : Int)
  h1 : 1 ≤ T.h
  mono : ∀ i j, i ≤ j → j < ws.length → deep.getD j 0 ≤ deep.getD i 0

theorem mrg_of {ws : List Int} (h2 : 2 ≤ ws.length) (hp : ∀ i, i < ws.length → 1 ≤ ws.getD i 0) (hs : ∀ i j, i ≤ j → j < ws.length → ws.getD i 0 ≤ ws.getD j 0) :
    Mrg ws (deepB ws) ((trsB ws (ws.length - 1)).getD (2 * ws.length - 2) d0) := by
  obtain ⟨h, hlen⟩ := TOk.run h2 hp hs (ws.length - 1) (by omega)
  obtain ⟨x, hx⟩ : ∃ x, x = (HSt.init ws).run ws.length (ws.length - 1) := ⟨_, rfl⟩
  obtain ⟨ts, hts⟩ : ∃ ts, ts = trsB ws (ws.length - 1) := ⟨_, rfl⟩
  have hd : deepB ws = dto x.up (2 * ws.length - 2) (2 * ws.length - 2) := by rw [hx]; rfl
  rw [← hts, ← hx] at h
  rw [← hx] at hlen
  rw [← hts, hd]
  have lf := h.ok.lf; have md := h.ok.md; have sum := h.ok.sum; have nm := h.ok.nm; have la := h.last (by omega); have upr := h.ok.upr
  obtain ⟨m, hm⟩ : ∃ m, m = 2 * ws.length - 2 := ⟨_, rfl⟩
  rw [← hm]
  have hu : ∀ i, i < m → (i : Int) < x.up.getD i 0 ∧ x.up.getD i 0 ≤ m := fun i hi => by have := upr i (by omega); omega
  obtain ⟨d1, d2⟩ := dto_spec x.up m hu m (Nat.le_refl _)
  obtain ⟨D, hD⟩ : ∃ D, D = dto x.up m m := ⟨_, rfl⟩
  rw [← hD] at d1 d2 ⊢
  have lv : ∀ p, p ≤ m → ∀ (d j e : Nat), (j, e) ∈ (ts.getD p d0).lv d → D.getD j 0 + d = D.getD p 0 + e := by
    intro p
    induction p using Nat.strongRecOn with
    | _ p ih =>
      intro hpm d j e hj
      by_cases hpn : p < ws.length
      · rw [h.lf p hpn] at hj
        simp only [Tr.lv, List.mem_singleton, Prod.mk.injEq] at hj
        obtain ⟨rfl, rfl⟩ := hj; rfl
      · obtain ⟨a, b, ta, tb, ua, ub, he⟩ := h.par p (by omega) (by omega)
        have ra := upr a ta
        have rb := upr b tb
        rw [he] at hj
        simp only [Tr.lv, List.mem_append] at hj
        have da := d2 a (by omega) (by omega)
        have db := d2 b (by omega) (by omega)
        rw [ua] at da
        rw [ub] at db
        simp only [Int.toNat_natCast] at da db
        rcases hj with hj | hj
        · have := ih a (by omega) (by omega) _ _ _ hj; omega
        · have := ih b (by omega) (by omega) _ _ _ hj; omega
  refine ⟨h.fib m (by omega), ?_, fun j e hj => ?_, ?_, ?_⟩
  · have := h.sys
    rw [show ws.length - x.leaf = 0 from by omega, show x.sm.length - x.made = 1 from by omega, show x.made = m from by omega] at this
    simpa using this
  · have := lv m (Nat.le_refl _) 0 j e hj; omega
  · obtain ⟨a, b, _, _, _, _, he⟩ := h.par m (by omega) (by omega)
    rw [he]; simp only [Tr.h]; omega
  · have nn : ∀ i, 0 ≤ D.getD i 0 := fun i => by rw [hD]; exact (dto_le x.up m m i).1
    have jn : ∀ t i j, m - j ≤ t → ws.length ≤ i → i ≤ j → j ≤ m → D.getD j 0 ≤ D.getD i 0 := by
      intro t
      induction t with
      | zero => intro i j h1 h2 h3 h4; obtain rfl : j = m := by omega
                rw [d1]; exact nn i
      | succ t ih =>
        intro i j h1 h2 h3 h4
        by_cases hj : j = m
        · subst hj; rw [d1]; exact nn i
        · rw [d2 i (by omega) (by omega), d2 j (by omega) (by omega)]
          have mo := h.mono i j h3 (by omega)
          have ri := upr i (by omega)
          have rj := upr j (by omega)
          have := ih (x.up.getD i 0).toNat (x.up.getD j 0).toNat (by omega) (by omega) (by omega) (by omega)
          omega
    intro i j h1 h2
    have hpar : ∀ i, i < ws.length → ws.length ≤ (x.up.getD i 0).toNat := fun i hi => by
      have := h.upn i (by unfold Tk; omega); omega
    rw [d2 i (by omega) (by omega), d2 j (by omega) (by omega)]
    have mo := h.mono i j h1 (by omega)
    have rj := upr j (by omega)
    have := jn m (x.up.getD i 0).toNat (x.up.getD j 0).toNat (by omega) (hpar i (by omega)) (by omega) (by omega)
    omega
end Eng
end Go.Proofs.Ytighkjohpmlemaa

/-! Plain law: what the lengths of a merge are like: which symbols have one, how long they are, that they make a whole code. -/
namespace Go.Proofs.Ytighkjohpmlemaa
open Go.RowKit
namespace Eng

theorem maxL_le {zs : List Int} {z : Int} (h : z ∈ zs) : z ≤ maxL zs := by
  have key : ∀ (l : List Int) (a : Int), a ≤ l.foldl max a ∧ ∀ y ∈ l, y ≤ l.foldl max a := by
    intro l
    induction l with
    | nil => intro a; exact ⟨Int.le_refl _, fun y hy => by cases hy⟩
    | cons x r ih =>
      intro a
      obtain ⟨h1, h2⟩ := ih (max a x)
      rw [List.foldl_cons]
      refine ⟨by omega, fun y hy => ?_⟩
      rcases List.mem_cons.1 hy with rfl | hy
      · omega
      · exact h2 y hy
  cases zs with
  | nil => cases h
  | cons x r =>
    unfold maxL
    simp only [List.tail_cons, List.headD_cons]
    rcases List.mem_cons.1 h with rfl | h
    · exact (key r _).1
    · exact (key r x).2 z h

/-- What a length counts for. -/
def mg (z : Int) : Nat := if 0 < z then 2 ^ (12 - z.toNat) else 0
def npos (zs : List Int) : Nat := zs.countP fun z => decide (0 < z)

theorem mayGo_eq : ∀ (zs : List Int) (c s : Int), Lens zs → mayGo zs c s = mayGo [] (c + npos zs) (s + (zs.map mg).sum)
  | [], c, s, _ => by simp [npos]
  | z :: r, c, s, h => by
    have hz := h z (List.mem_cons_self ..)
    have hr : Lens r := fun y hy => h y (List.mem_cons_of_mem _ hy)
    rw [mayGo_cons, if_neg (by omega)]
    by_cases h0 : 0 < z
    · rw [if_pos h0, mayGo_eq r _ _ hr]
      have e1 : npos (z :: r) = npos r + 1 := by unfold npos; rw [List.countP_cons_of_pos (by simpa using h0)]
      have e2 : (mg z : Int) = p2 (12 - z) := by
        unfold mg p2
        rw [if_pos h0, show (12 - z).toNat = 12 - z.toNat from by omega]
        simp
      rw [e1, List.map_cons, List.sum_cons]
      congr 1
      · omega
      · rw [← e2]; omega
    · rw [if_neg h0, mayGo_eq r _ _ hr]
      have e1 : npos (z :: r) = npos r := by unfold npos; rw [List.countP_cons_of_neg (by simpa using h0)]
      have e2 : mg z = 0 := by unfold mg; rw [if_neg h0]
      rw [e1, List.map_cons, List.sum_cons, e2, Nat.zero_add]

theorem mayB_of {zs : List Int} (hl : zs.length ≤ 400) (h : Lens zs) (hn : 2 ≤ npos zs) (hs : (zs.map mg).sum = 4096) : mayB zs = true := by
  unfold mayB
  rw [mayGo_eq zs 0 0 h, mayGo_nil, if_neg (by omega), hs]
  simp [hl]

theorem lgo_at (S deep lens : List Int) (hnd : S.Nodup) (hb : ∀ x ∈ S, 0 ≤ x ∧ x < lens.length) : ∀ k, k ≤ S.length →
    (∀ j, j < k → (lgo S deep lens k).getD (S.getD j 0).toNat 0 = deep.getD j 0) ∧ ∀ s : Nat, (∀ j, j < k → (S.getD j 0).toNat ≠ s) → (lgo S deep lens k).getD s 0 = lens.getD s 0
  | 0, _ => ⟨fun j hj => by omega, fun s _ => rfl⟩
  | k + 1, hk => by
    obtain ⟨h1, h2⟩ := lgo_at S deep lens hnd hb k (by omega)
    have hmem : ∀ j, j < S.length → S.getD j 0 ∈ S := fun j hj => by
      rw [List.getD_eq_getElem?_getD, List.getElem?_eq_getElem hj]; exact List.getElem_mem hj
    have hk' := hb _ (hmem k (by omega))
    have hinj : ∀ j, j < k → (S.getD j 0).toNat ≠ (S.getD k 0).toNat := fun j hj e => by
      have h3 := hb _ (hmem j (by omega))
      have e' : S.getD j 0 = S.getD k 0 := by omega
      rw [List.getD_eq_getElem?_getD, List.getD_eq_getElem?_getD, List.getElem?_eq_getElem (by omega), List.getElem?_eq_getElem (by omega)] at e'
      have := (List.getElem_inj hnd).1 e'
      omega
    refine ⟨fun j hj => ?_, fun s hs => ?_⟩
    · simp only [lgo]
      rw [getD_set, length_lgo]
      by_cases e : j = k
      · subst e; rw [if_pos ⟨rfl, by omega⟩]
      · rw [if_neg (fun hh => hinj j (by omega) hh.1.symm)]
        exact h1 j (by omega)
    · simp only [lgo]
      rw [getD_set, if_neg (fun hh => hs k (by omega) hh.1)]
      exact h2 s fun j hj => hs j (by omega)

theorem ordB_mem {cs : List Int} {x : Int} : x ∈ ordB cs ↔ x ∈ posB cs := (ordB_perm cs).mem_iff
theorem posB_iff {cs : List Int} {x : Int} : x ∈ posB cs ↔ 0 ≤ x ∧ x < cs.length ∧ 0 < cnt cs x := by
  refine ⟨posB_mem, fun h => ?_⟩
  unfold posB
  refine List.mem_map.2 ⟨x.toNat, List.mem_filter.2 ⟨List.mem_range.2 (by omega), ?_⟩, by omega⟩
  have := h.2.2
  unfold cnt at this
  simpa using this
theorem ordB_nodup (cs : List Int) : (ordB cs).Nodup := (ordB_perm cs).nodup_iff.2 (posB_nodup cs)

theorem getD_mem {l : List Int} {j : Nat} (h : j < l.length) : l.getD j 0 ∈ l := by
  rw [List.getD_eq_getElem?_getD, List.getElem?_eq_getElem h]; exact List.getElem_mem h

/-- The weights in their order. -/
def wts (cs : List Int) : List Int := (ordB cs).map (cnt cs)
theorem wts_get (cs : List Int) (i : Nat) (h : i < (ordB cs).length) : (wts cs).getD i 0 = cnt cs ((ordB cs).getD i 0) := by
  unfold wts
  rw [List.getD_eq_getElem?_getD, List.getD_eq_getElem?_getD, List.getElem?_map, List.getElem?_eq_getElem h]; rfl
theorem wts_len (cs : List Int) : (wts cs).length = (ordB cs).length := by unfold wts; simp
theorem wts_pos (cs : List Int) : ∀ i, i < (wts cs).length → 1 ≤ (wts cs).getD i 0 := fun i hi => by
  rw [wts_len] at hi
  rw [wts_get cs i hi]
  have := (posB_mem (ordB_mem.1 (getD_mem hi))).2.2; omega
theorem wts_asc (cs : List Int) : ∀ i j, i ≤ j → j < (wts cs).length → (wts cs).getD i 0 ≤ (wts cs).getD j 0 := fun i j hij hj => by
  rw [wts_len] at hj
  rcases Nat.lt_or_eq_of_le hij with h | h
  · rw [wts_get cs i (by omega), wts_get cs j hj]
    have := List.pairwise_iff_getElem.1 (ordB_sorted cs) i j (by omega) hj h
    rw [List.getD_eq_getElem?_getD, List.getD_eq_getElem?_getD, List.getElem?_eq_getElem hj, List.getElem?_eq_getElem (show i < (ordB cs).length by omega)]
    show cnt cs (ordB cs)[i] ≤ cnt cs (ordB cs)[j]
    unfold lt at this; omega
  · subst h; omega

theorem mergeB_big {cs : List Int} (h : 2 ≤ (ordB cs).length) : mergeB cs = lgo (ordB cs) (deepB (wts cs)) (List.replicate cs.length 0) (ordB cs).length := by
  unfold mergeB
  simp only
  rw [if_neg (by omega), if_neg (by omega)]; rfl
theorem mergeB_zero {cs : List Int} (h : (ordB cs).length = 0) : mergeB cs = List.replicate cs.length 0 := by
  unfold mergeB
  simp only
  rw [if_pos h]
theorem mergeB_one {cs : List Int} (h : (ordB cs).length = 1) : mergeB cs = (List.replicate cs.length 0).set ((ordB cs).getD 0 0).toNat 1 := by
  unfold mergeB
  simp only
  rw [if_neg (by omega), if_pos h]
@[simp] theorem mergeB_len (cs : List Int) : (mergeB cs).length = cs.length := by
  unfold mergeB
  simp only
  split
  · simp
  · split
    · simp
    · simp

/-- All that is known of the lengths of a merge. -/
structure LOk (cs lens : List Int) (T : Tr) : Prop where
  len : lens.length = cs.length
  mrg : ∃ deep, Mrg (wts cs) deep T ∧ ∀ j, j < (ordB cs).length → lens.getD ((ordB cs).getD j 0).toNat 0 = deep.getD j 0
  zero : ∀ s, s < cs.length → ¬ 0 < cs.getD s 0 → lens.getD s 0 = 0

theorem lok_of {cs : List Int} (h : 2 ≤ (ordB cs).length) : ∃ T, LOk cs (mergeB cs) T := by
  have hm := mrg_of (ws := wts cs) (by rw [wts_len]; exact h) (wts_pos cs) (wts_asc cs)
  have hl := lgo_at (ordB cs) (deepB (wts cs)) (List.replicate cs.length 0) (ordB_nodup cs) (fun x hx => by have := posB_mem (ordB_mem.1 hx); simp; omega) (ordB cs).length (Nat.le_refl _)
  refine ⟨_, ⟨mergeB_len cs, ⟨_, hm, ?_⟩, fun s hs h0 => ?_⟩⟩
  · rw [mergeB_big h]; exact hl.1
  · rw [mergeB_big h, hl.2 s fun j hj e => ?_]
    · rw [List.getD_eq_getElem?_getD, List.getElem?_replicate]; split <;> rfl
    · have := (posB_mem (ordB_mem.1 (getD_mem hj))).2.2
      unfold cnt at this
      rw [e] at this; exact h0 this

section
variable {cs lens : List Int} {T : Tr}

/-- A symbol that comes has a place in the tree. -/
theorem LOk.at_ (h : LOk cs lens T) {s : Nat} (hs : s < cs.length) (h0 : 0 < cs.getD s 0) : ∃ j e, j < (ordB cs).length ∧ (ordB cs).getD j 0 = (s : Int) ∧ (j, e) ∈ T.lv 0 ∧ lens.getD s 0 = (e : Int) := by
  obtain ⟨deep, hm, hl⟩ := h.mrg
  have hmem : (s : Int) ∈ ordB cs := ordB_mem.2 (posB_iff.2 ⟨by omega, by omega, by unfold cnt; simpa using h0⟩)
  obtain ⟨j, hj, he⟩ := List.getElem_of_mem hmem
  have hg : (ordB cs).getD j 0 = (s : Int) := by rw [List.getD_eq_getElem?_getD, List.getElem?_eq_getElem hj, he]; rfl
  have hjs : j ∈ T.sy := hm.sy.symm.subset (by rw [List.mem_range, wts_len]; exact hj)
  rw [← Tr.lv_sy T 0] at hjs
  obtain ⟨⟨j', e⟩, hp, e1⟩ := List.mem_map.1 hjs
  dsimp only at e1
  subst e1
  refine ⟨j', e, hj, hg, hp, ?_⟩
  have := hl j' hj
  rw [hg] at this
  rw [Int.toNat_natCast] at this
  rw [this, hm.dp j' e hp]

theorem LOk.bd (h : LOk cs lens T) {s : Nat} (hs : s < cs.length) : 0 ≤ lens.getD s 0 ∧ lens.getD s 0 ≤ T.h ∧ (0 < lens.getD s 0 ↔ 0 < cs.getD s 0) := by
  obtain ⟨deep, hm, hl⟩ := h.mrg
  by_cases h0 : 0 < cs.getD s 0
  · obtain ⟨j, e, hj, hg, hp, hle⟩ := h.at_ hs h0
    have hb := Tr.lv_bd T 0 j e hp
    have h1 : 1 ≤ e := by
      have := hm.h1
      cases T with
      | leaf i => simp [Tr.h] at this
      | node a b =>
        simp only [Tr.lv, List.mem_append] at hp
        rcases hp with hp | hp
        · have := Tr.lv_bd _ _ _ _ hp; omega
        · have := Tr.lv_bd _ _ _ _ hp; omega
    rw [hle]
    refine ⟨by omega, by omega, fun _ => h0, fun _ => by omega⟩
  · rw [h.zero s hs h0]
    exact ⟨by omega, by omega, fun hh => by omega, fun hh => absurd hh h0⟩

theorem LOk.top (h : LOk cs lens T) : ∃ s, s < cs.length ∧ lens.getD s 0 = (T.h : Int) := by
  obtain ⟨deep, hm, hl⟩ := h.mrg
  obtain ⟨j, hj⟩ := Tr.lv_top T 0
  have hjs : j ∈ T.sy := by rw [← Tr.lv_sy T 0]; exact List.mem_map.2 ⟨_, hj, rfl⟩
  have hjn := List.mem_range.1 (hm.sy.subset hjs)
  rw [wts_len] at hjn
  have hmm := posB_mem (ordB_mem.1 (getD_mem hjn))
  refine ⟨((ordB cs).getD j 0).toNat, by omega, ?_⟩
  rw [hl j hjn, hm.dp j _ hj]; omega

theorem mem_get_of {l : List Int} {z : Int} (h : z ∈ l) : ∃ i, i < l.length ∧ l.getD i 0 = z := by
  obtain ⟨i, hi, e⟩ := List.getElem_of_mem h
  exact ⟨i, hi, by rw [List.getD_eq_getElem?_getD, List.getElem?_eq_getElem hi, e]; rfl⟩

theorem LOk.max (h : LOk cs lens T) : maxL lens = T.h := by
  obtain ⟨s, hs, e⟩ := h.top
  have hm : lens.getD s 0 ∈ lens := getD_mem (by rw [h.len]; exact hs)
  have h1 := maxL_le hm
  have hne : lens ≠ [] := fun e => by rw [e] at hm; cases hm
  obtain ⟨i, hi, e2⟩ := mem_get_of (maxL_mem hne)
  have := (h.bd (by rw [← h.len]; exact hi)).2.1
  omega

theorem sum_filter (p : Nat → Bool) (f : Nat → Nat) : ∀ l : List Nat, (∀ x ∈ l, p x = false → f x = 0) → ((l.filter p).map f).sum = (l.map f).sum
  | [], _ => rfl
  | x :: l, h => by
    have ih := sum_filter p f l fun y hy => h y (List.mem_cons_of_mem _ hy)
    cases hp : p x with
    | true => rw [List.filter_cons_of_pos hp, List.map_cons, List.map_cons, List.sum_cons, List.sum_cons, ih]
    | false => rw [List.filter_cons_of_neg (by rw [hp]; decide), List.map_cons, List.sum_cons, h x (List.mem_cons_self ..) hp, ih]; omega

theorem list_range (l : List Int) : l = (List.range l.length).map fun s => l.getD s 0 := by
  apply List.ext_getElem
  · simp
  · intro i h1 h2
    simp only [List.getElem_map, List.getElem_range]
    rw [List.getD_eq_getElem?_getD, List.getElem?_eq_getElem h1]; rfl

/-- Sums over the symbols and over the leaves. -/
theorem LOk.sum (h : LOk cs lens T) (g : Int → Nat) (hg : g 0 = 0) : (lens.map g).sum = ((T.lv 0).map fun p => g (p.2 : Int)).sum := by
  obtain ⟨deep, hm, hl⟩ := h.mrg
  have e1 : (lens.map g).sum = ((List.range cs.length).map fun s => g (lens.getD s 0)).sum := by
    rw [← h.len]
    conv => lhs; rw [list_range lens]
    rw [List.map_map]; rfl
  have e2 := sum_filter (fun i => decide (0 < cs.getD i 0)) (fun s => g (lens.getD s 0)) (List.range cs.length) (fun s hs hp => by
    rw [h.zero s (List.mem_range.1 hs) (by simpa using hp)]; exact hg)
  have e3 : ((posB cs).map fun x => g (lens.getD x.toNat 0)).sum = (((List.range cs.length).filter fun i => decide (0 < cs.getD i 0)).map fun s => g (lens.getD s 0)).sum := by
    unfold posB
    rw [List.map_map]
    congr 1
  have e4 : ((ordB cs).map fun x => g (lens.getD x.toNat 0)).sum = ((posB cs).map fun x => g (lens.getD x.toNat 0)).sum := List.Perm.sum_nat ((ordB_perm cs).map _)
  have e5 : ((ordB cs).map fun x => g (lens.getD x.toNat 0)).sum = ((List.range (ordB cs).length).map fun j => g (deep.getD j 0)).sum := by
    congr 1
    conv => lhs; rw [list_range (ordB cs)]
    rw [List.map_map]
    refine List.map_congr_left fun j hj => ?_
    show g (lens.getD ((ordB cs).getD j 0).toNat 0) = _
    rw [hl j (List.mem_range.1 hj)]
  have e6 : (T.sy.map fun j => g (deep.getD j 0)).sum = ((List.range (ordB cs).length).map fun j => g (deep.getD j 0)).sum := List.Perm.sum_nat (by have := hm.sy; rw [wts_len] at this; exact this.map _)
  have e7 : (T.sy.map fun j => g (deep.getD j 0)).sum = ((T.lv 0).map fun p => g (p.2 : Int)).sum := by
    rw [← Tr.lv_sy T 0, List.map_map]
    congr 1
    refine List.map_congr_left fun p hp => ?_
    show g (deep.getD p.1 0) = _
    rw [hm.dp p.1 p.2 hp]
  rw [e1, ← e2, ← e3, ← e4, e5, ← e6, e7]

theorem countP_sum (p : Int → Bool) : ∀ l : List Int, l.countP p = (l.map fun z => if p z then 1 else 0).sum
  | [] => rfl
  | x :: l => by
    rw [List.map_cons, List.sum_cons, List.countP_cons, countP_sum p l]
    omega

theorem LOk.lv1 (h : LOk cs lens T) {p : Nat × Nat} (hp : p ∈ T.lv 0) : 1 ≤ p.2 ∧ p.2 ≤ T.h := by
  obtain ⟨deep, hm, hl⟩ := h.mrg
  obtain ⟨j, e⟩ := p
  have hb := Tr.lv_bd T 0 j e hp
  have := hm.h1
  refine ⟨?_, by omega⟩
  cases T with
  | leaf i => simp [Tr.h] at this
  | node a b =>
    simp only [Tr.lv, List.mem_append] at hp
    rcases hp with hp | hp
    · have := Tr.lv_bd _ _ _ _ hp; omega
    · have := Tr.lv_bd _ _ _ _ hp; omega

theorem LOk.may (h : LOk cs lens T) (hl : cs.length ≤ 400) (h12 : T.h ≤ 12) : mayB lens = true := by
  have hs := h.sum mg (by decide)
  have hk := Tr.kraft 12 T 0 (by omega)
  have e : ((T.lv 0).map fun p => mg (p.2 : Int)) = (T.lv 0).map fun p => 2 ^ (12 - p.2) := by
    refine List.map_congr_left fun p hp => ?_
    have := (h.lv1 hp).1
    unfold mg
    rw [if_pos (by omega), Int.toNat_natCast]
  rw [e, hk] at hs
  refine mayB_of (by rw [h.len]; exact hl) (fun z hz => ?_) ?_ (by rw [hs])
  · obtain ⟨i, hi, e⟩ := mem_get_of hz
    have := h.bd (s := i) (by rw [← h.len]; exact hi)
    omega
  · have hc := h.sum (fun z => if decide (0 < z) then 1 else 0) (by decide)
    unfold npos
    rw [countP_sum, hc]
    obtain ⟨deep, hm, hl⟩ := h.mrg
    have h1 := hm.h1
    have e2 : ((T.lv 0).map fun p => if decide (0 < (p.2 : Int)) then 1 else 0) = (T.lv 0).map fun _ => 1 := by
      refine List.map_congr_left fun p hp => ?_
      have := (h.lv1 hp).1
      rw [if_pos (by simp; omega)]
    rw [e2]
    have e3 : ∀ l : List (Nat × Nat), (l.map fun _ => 1).sum = l.length := by intro l; induction l with
      | nil => rfl
      | cons x r ih => rw [List.map_cons, List.sum_cons, ih, List.length_cons]; omega
    rw [e3]
    have e4 : (T.lv 0).length = T.sy.length := by rw [← Tr.lv_sy T 0]; simp
    rw [e4]
    cases T with
    | leaf i => simp [Tr.h] at h1
    | node a b => have := Tr.sy_pos a; have := Tr.sy_pos b; simp [Tr.sy]; omega

/-- A more frequent symbol has no longer code. -/
theorem LOk.mono (h : LOk cs lens T) {s s' : Nat} (hs : s < cs.length) (hs' : s' < cs.length) (h0 : 0 < cs.getD s 0) (hlt : cs.getD s 0 < cs.getD s' 0) : lens.getD s' 0 ≤ lens.getD s 0 := by
  obtain ⟨j, e, hj, hg, _, _⟩ := h.at_ hs h0
  obtain ⟨j', e', hj', hg', _, _⟩ := h.at_ hs' (by omega)
  obtain ⟨deep, hm, hl⟩ := h.mrg
  have d1 := hl j hj
  have d2 := hl j' hj'
  rw [hg] at d1
  rw [hg'] at d2
  rw [Int.toNat_natCast] at d1 d2
  rw [d1, d2]
  have hle : j ≤ j' := by
    rcases Nat.lt_or_ge j' j with h | h
    · have := wts_asc cs j' j (by omega) (by rw [wts_len]; exact hj)
      rw [wts_get cs j' hj', wts_get cs j hj, hg, hg'] at this
      simp only [cnt, Int.toNat_natCast] at this
      omega
    · exact h
  exact hm.mono j j' hle (by rw [wts_len]; exact hj')

def isum (l : List Int) : Int := l.foldr (· + ·) 0
theorem isum_cons (x : Int) (l : List Int) : isum (x :: l) = x + isum l := rfl
theorem isum_app : ∀ a b : List Int, isum (a ++ b) = isum a + isum b
  | [], b => by simp [isum]
  | x :: a, b => by rw [List.cons_append, isum_cons, isum_cons, isum_app a b]; omega
theorem isum_perm {a b : List Int} (h : a.Perm b) : isum a = isum b := by
  induction h with
  | nil => rfl
  | cons x _ ih => rw [isum_cons, isum_cons, ih]
  | swap x y l => rw [isum_cons, isum_cons, isum_cons, isum_cons]; omega
  | trans _ _ h1 h2 => rw [h1, h2]
theorem tr_w (ws : List Int) : ∀ t : Tr, t.w ws = isum (t.sy.map fun j => ws.getD j 0)
  | .leaf i => by simp [Tr.w, Tr.sy, isum]
  | .node a b => by simp only [Tr.w, Tr.sy, List.map_append]; rw [isum_app, ← tr_w ws a, ← tr_w ws b]

theorem isum_filter (p : Int → Bool) : ∀ l : List Int, (∀ x ∈ l, p x = false → 0 ≤ x) → isum (l.filter p) ≤ isum l
  | [], _ => by simp [isum]
  | x :: l, h => by
    have ih := isum_filter p l fun y hy => h y (List.mem_cons_of_mem _ hy)
    cases hp : p x with
    | true => rw [List.filter_cons_of_pos hp, isum_cons, isum_cons]; omega
    | false => rw [List.filter_cons_of_neg (by rw [hp]; decide), isum_cons]; have := h x (List.mem_cons_self ..) hp; omega

theorem isum_wts (cs : List Int) (h : ∀ z ∈ cs, 0 ≤ z) : isum (wts cs) ≤ isum cs := by
  have e1 : isum (wts cs) = isum ((posB cs).map (cnt cs)) := isum_perm ((ordB_perm cs).map _)
  have e2 : (posB cs).map (cnt cs) = cs.filter fun z => decide (0 < z) := by
    unfold posB
    rw [List.map_map]
    conv => rhs; rw [list_range cs]
    rw [List.filter_map]
    rfl
  rw [e1, e2]
  exact isum_filter _ cs fun x hx _ => h x hx

/-- A deep tree is heavy. -/
theorem LOk.heavy (h : LOk cs lens T) (hc : ∀ z ∈ cs, 0 ≤ z) (h12 : 12 < T.h) : 610 ≤ isum cs := by
  obtain ⟨deep, hm, hl⟩ := h.mrg
  have h1 := Tr.ok_fib _ T hm.ok
  have h2 : fibo 13 ≤ fibo T.h := fibo_mono (by omega)
  have h3 : fibo 13 = 610 := by decide
  have h4 : T.w (wts cs) = isum (wts cs) := by
    rw [tr_w, isum_perm (hm.sy.map _), ← list_range]
  have := isum_wts cs hc
  omega
end
end Eng
end Go.Proofs.Ytighkjohpmlemaa

/-! Plain law: sums of weights; halving; the lengths that are returned. -/
namespace Go.Proofs.Ytighkjohpmlemaa
open Go.RowKit
namespace Eng

theorem isum_nonneg : ∀ l : List Int, (∀ x ∈ l, 0 ≤ x) → 0 ≤ isum l
  | [], _ => by simp [isum]
  | x :: l, h => by
    rw [isum_cons]
    have := isum_nonneg l fun y hy => h y (List.mem_cons_of_mem _ hy)
    have := h x (List.mem_cons_self ..)
    omega
theorem isum_le (m : Int) : ∀ l : List Int, (∀ x ∈ l, x ≤ m) → isum l ≤ m * l.length
  | [], _ => by simp [isum]
  | x :: l, h => by
    rw [isum_cons]
    have := isum_le m l fun y hy => h y (List.mem_cons_of_mem _ hy)
    have := h x (List.mem_cons_self ..)
    rw [List.length_cons, Int.natCast_add, Int.mul_add]
    omega
theorem isum_flat (ws : List Int) (f : Nat → Tr) : ∀ l : List Nat, isum ((l.flatMap fun i => (f i).sy).map fun j => ws.getD j 0) = isum (l.map fun i => (f i).w ws)
  | [] => rfl
  | x :: l => by
    rw [List.flatMap_cons, List.map_append, isum_app, isum_flat ws f l, List.map_cons, isum_cons, ← tr_w]

theorem TOk.pick_sum {ws : List Int} {x : HSt} {ts : List Tr} (h : TOk ws x ts) (hb : x.sm.length + 2 ≤ 2 * ws.length) :
    0 ≤ x.sm.getD (x.i1 ws.length) 0 ∧ 0 ≤ x.sm.getD (x.i2 ws.length) 0 ∧ x.sm.getD (x.i1 ws.length) 0 + x.sm.getD (x.i2 ws.length) 0 ≤ isum ws := by
  have lf := h.ok.lf; have md := h.ok.md; have sum := h.ok.sum; have nm := h.ok.nm; have n0 := h.n0
  have t1 := take_cases ws.length x.leaf x.made x.sm lf md (by omega)
  have p1 := avl_take ws.length x.leaf x.made x.sm lf md (by omega)
  have e1 : takeI ws.length x.leaf x.made x.sm = x.i1 ws.length := rfl
  have e2 : takeL ws.length x.leaf x.made x.sm = x.l1 ws.length := rfl
  have e3 : takeM ws.length x.leaf x.made x.sm = x.m1 ws.length := rfl
  rw [e1, e2, e3] at p1 t1
  have t2 := take_cases ws.length (x.l1 ws.length) (x.m1 ws.length) x.sm (by omega) (by omega) (by omega)
  have p2 := avl_take ws.length (x.l1 ws.length) (x.m1 ws.length) x.sm (by omega) (by omega) (by omega)
  have e4 : takeI ws.length (x.l1 ws.length) (x.m1 ws.length) x.sm = x.i2 ws.length := rfl
  rw [e4] at p2 t2
  have p3 := p1.trans (p2.cons _)
  have ha : x.i1 ws.length < x.sm.length := by omega
  have hb : x.i2 ws.length < x.sm.length := by omega
  have pos : ∀ i, i < x.sm.length → 1 ≤ x.sm.getD i 0 := fun i hi => by rw [h.wt i hi]; exact Tr.ok_pos _ (h.fib i hi)
  have key : isum ((avl ws.length x.sm.length x.leaf x.made).map fun i => x.sm.getD i 0) = isum ws := by
    have s1 := isum_perm (h.sys.map fun j => ws.getD j 0)
    rw [isum_flat, ← list_range] at s1
    rw [← s1]
    congr 1
    refine List.map_congr_left fun i hi => ?_
    have hi' : i ∈ List.range' x.leaf (ws.length - x.leaf) ++ List.range' x.made (x.sm.length - x.made) := hi
    rw [List.mem_append, List.mem_range'_1, List.mem_range'_1] at hi'
    exact h.wt i (by omega)
  rw [isum_perm (p3.map fun i => x.sm.getD i 0), List.map_cons, List.map_cons, isum_cons, isum_cons] at key
  have nn := isum_nonneg ((avl ws.length x.sm.length (takeL ws.length (x.l1 ws.length) (x.m1 ws.length) x.sm) (takeM ws.length (x.l1 ws.length) (x.m1 ws.length) x.sm)).map fun i => x.sm.getD i 0) (fun y hy => by
    obtain ⟨i, hi, rfl⟩ := List.mem_map.1 hy
    unfold avl at hi
    rw [List.mem_append, List.mem_range'_1, List.mem_range'_1] at hi
    have := pos i (by omega)
    omega)
  have := pos _ ha
  have := pos _ hb
  omega

theorem isum_wts_le (cs : List Int) (hl : cs.length ≤ 400) (hc : ∀ z ∈ cs, 0 ≤ z ∧ z ≤ 1073741824) : isum (wts cs) ≤ 429496729600 := by
  have h1 := isum_wts cs fun z hz => (hc z hz).1
  have h2 := isum_le 1073741824 cs fun z hz => (hc z hz).2
  have h3 : 1073741824 * (cs.length : Int) ≤ 1073741824 * 400 := by omega
  omega

def halfB (cs : List Int) : List Int := cs.map fun c => (c + 1) / 2
@[simp] theorem halfB_len (cs : List Int) : (halfB cs).length = cs.length := by simp [halfB]
theorem halfB_get (cs : List Int) (s : Nat) : (halfB cs).getD s 0 = (cs.getD s 0 + 1) / 2 := by
  unfold halfB
  rw [List.getD_eq_getElem?_getD, List.getD_eq_getElem?_getD, List.getElem?_map]
  cases cs[s]? <;> simp
theorem halfB_ok {cs : List Int} {m : Int} (hm : 0 < m) (h : ∀ z ∈ cs, 0 ≤ z ∧ z ≤ m) : ∀ z ∈ halfB cs, 0 ≤ z ∧ z ≤ m := by
  intro z hz
  obtain ⟨c, hc, rfl⟩ := List.mem_map.1 hz
  have := h c hc
  omega
theorem halfB_sum : ∀ cs : List Int, 2 * isum (halfB cs) ≤ isum cs + cs.length
  | [] => by simp [isum, halfB]
  | c :: cs => by
    have ih := halfB_sum cs
    have e : halfB (c :: cs) = (c + 1) / 2 :: halfB cs := rfl
    rw [e, isum_cons, isum_cons, List.length_cons]
    omega

theorem merge_small {cs : List Int} (h : (ordB cs).length < 2) : ∀ z ∈ mergeB cs, 0 ≤ z ∧ z ≤ 1 := by
  intro z hz
  rcases Nat.lt_or_ge 0 (ordB cs).length with h1 | h1
  · rw [mergeB_one (by omega)] at hz
    rcases List.mem_or_eq_of_mem_set hz with h' | h'
    · rw [List.mem_replicate] at h'; omega
    · omega
  · rw [mergeB_zero (by omega)] at hz
    rw [List.mem_replicate] at hz; omega

theorem half_less {cs : List Int} (hl0 : 0 < cs.length) (hl : cs.length ≤ 400) (hc : ∀ z ∈ cs, 0 ≤ z) (h : 12 < maxL (mergeB cs)) : isum (halfB cs) < isum cs ∧ 610 ≤ isum cs := by
  have h2 : 2 ≤ (ordB cs).length := by
    rcases Nat.lt_or_ge (ordB cs).length 2 with h1 | h1
    · exfalso
      have := merge_small h1 _ (maxL_mem (zs := mergeB cs) (fun e => by have := mergeB_len cs; rw [e] at this; simp at this; omega))
      omega
    · exact h1
  obtain ⟨T, hT⟩ := lok_of h2
  have h3 := hT.heavy hc (by have := hT.max; omega)
  have h4 := halfB_sum cs
  exact ⟨by omega, h3⟩

/-- The lengths, halving as long as one is too long. -/
def lenGo : Nat → List Int → List Int
  | 0, cs => mergeB cs
  | f + 1, cs => if maxL (mergeB cs) ≤ 12 then mergeB cs else lenGo f (halfB cs)
def lengthsB (cs : List Int) : List Int := lenGo (isum cs).toNat cs

structure LenOf (cs cs' : List Int) : Prop where
  len : cs'.length = cs.length
  pos : ∀ s : Nat, 0 < cs'.getD s 0 ↔ 0 < cs.getD s 0
  nn : ∀ z ∈ cs', 0 ≤ z
  small : isum cs < 610 → cs' = cs
  max : maxL (mergeB cs') ≤ 12

theorem lenGo_spec : ∀ (f : Nat) (cs : List Int), 0 < cs.length → cs.length ≤ 400 → (∀ z ∈ cs, 0 ≤ z) → isum cs ≤ f → ∃ cs', lenGo f cs = mergeB cs' ∧ LenOf cs cs'
  | 0, cs, h0, hl, hc, hf => by
    refine ⟨cs, rfl, rfl, fun _ => Iff.rfl, hc, fun _ => rfl, ?_⟩
    rcases Int.lt_or_le 12 (maxL (mergeB cs)) with h | h
    · have := half_less h0 hl hc h; omega
    · exact h
  | f + 1, cs, h0, hl, hc, hf => by
    unfold lenGo
    by_cases h : maxL (mergeB cs) ≤ 12
    · rw [if_pos h]
      exact ⟨cs, rfl, rfl, fun _ => Iff.rfl, hc, fun _ => rfl, h⟩
    · rw [if_neg h]
      have hh := half_less h0 hl hc (by omega)
      obtain ⟨cs', h1, h2, h3, h4, h5, h6⟩ := lenGo_spec f (halfB cs) (by simpa using h0) (by simpa using hl) (fun z hz => by
        obtain ⟨c, hc', rfl⟩ := List.mem_map.1 hz
        have := hc c hc'
        omega) (by omega)
      refine ⟨cs', h1, by simpa using h2, fun s => ?_, h4, fun hlt => by omega, h6⟩
      rw [h3 s, halfB_get]; omega

theorem lenGo_more {f : Nat} {cs : List Int} (h0 : 0 < cs.length) (hl : cs.length ≤ 400) (hc : ∀ z ∈ cs, 0 ≤ z) (hf : isum cs ≤ f) (h : 12 < maxL (mergeB cs)) : ∃ f', f = f' + 1 ∧ lenGo f cs = lenGo f' (halfB cs) ∧ isum (halfB cs) ≤ f' := by
  have hh := half_less h0 hl hc h
  cases f with
  | zero => omega
  | succ f =>
    refine ⟨f, rfl, ?_, by omega⟩
    conv => lhs; unfold lenGo
    rw [if_neg (by omega)]
theorem lenGo_done {f : Nat} {cs : List Int} (h : maxL (mergeB cs) ≤ 12) : lenGo f cs = mergeB cs := by
  cases f with
  | zero => rfl
  | succ f => unfold lenGo; rw [if_pos h]

theorem lengths_spec {cs : List Int} (h0 : 0 < cs.length) (hl : cs.length ≤ 400) (hc : ∀ z ∈ cs, 0 ≤ z) : ∃ cs', lengthsB cs = mergeB cs' ∧ LenOf cs cs' := lenGo_spec _ cs h0 hl hc (by have := isum_nonneg cs hc; omega)
theorem lengths_len {cs : List Int} (h0 : 0 < cs.length) (hl : cs.length ≤ 400) (hc : ∀ z ∈ cs, 0 ≤ z) : (lengthsB cs).length = cs.length := by
  obtain ⟨cs', e, h⟩ := lengths_spec h0 hl hc
  rw [e, mergeB_len, h.len]

theorem may_zeros (n : Nat) (h : n ≤ 400) : mayB (List.replicate n 0) = true := by
  have hL : Lens (List.replicate n 0) := fun z hz => by rw [List.mem_replicate] at hz; omega
  unfold mayB
  rw [mayGo_eq _ _ _ hL, mayGo_nil]
  have : npos (List.replicate n (0 : Int)) = 0 := by
    unfold npos
    rw [List.countP_eq_zero]
    intro z hz
    rw [List.mem_replicate] at hz
    simp [hz.2]
  rw [this]
  simp [h]

theorem set_sum (g : Int → Nat) (hg : g 0 = 0) (n i : Nat) (hi : i < n) (z : Int) : (((List.replicate n (0 : Int)).set i z).map g).sum = g z := by
  induction n generalizing i with
  | zero => omega
  | succ n ih =>
    rw [List.replicate_succ]
    cases i with
    | zero =>
      rw [List.set_cons_zero, List.map_cons, List.sum_cons, List.map_replicate, hg]
      simp
    | succ i =>
      rw [List.set_cons_succ, List.map_cons, List.sum_cons, ih i (by omega), hg, Nat.zero_add]

/-- What is returned is always the lengths of a code. -/
theorem lengths_may {cs : List Int} (h0 : 0 < cs.length) (hl : cs.length ≤ 400) (hc : ∀ z ∈ cs, 0 ≤ z) : mayB (lengthsB cs) = true := by
  obtain ⟨cs', e, h⟩ := lengths_spec h0 hl hc
  rw [e]
  rcases Nat.lt_or_ge (ordB cs').length 2 with h1 | h1
  · rcases Nat.eq_zero_or_pos (ordB cs').length with h2 | h2
    · rw [mergeB_zero h2]; exact may_zeros _ (by rw [h.len]; exact hl)
    · have hL : Lens (mergeB cs') := fun z hz => by have := merge_small h1 z hz; omega
      unfold mayB
      rw [mayGo_eq _ _ _ hL, mayGo_nil, mergeB_len, h.len]
      have hm := posB_mem (ordB_mem.1 (getD_mem (l := ordB cs') (j := 0) h2))
      rw [mergeB_one (by omega)]
      unfold npos
      rw [countP_sum, set_sum _ (by decide) _ _ (by omega), set_sum _ (by decide) _ _ (by omega)]
      simp [hl, mg]
  · obtain ⟨T, hT⟩ := lok_of h1
    exact hT.may (by rw [h.len]; exact hl) (by have := hT.max; have := h.max; omega)

/-- A symbol has a code exactly if it comes. -/
theorem lengths_pos {cs : List Int} (h0 : 0 < cs.length) (hl : cs.length ≤ 400) (hc : ∀ z ∈ cs, 0 ≤ z) {s : Nat} (hs : s < cs.length) : 0 ≤ (lengthsB cs).getD s 0 ∧ (lengthsB cs).getD s 0 ≤ 12 ∧ (0 < (lengthsB cs).getD s 0 ↔ 0 < cs.getD s 0) := by
  obtain ⟨cs', e, h⟩ := lengths_spec h0 hl hc
  rw [e, ← h.pos s]
  have hs' : s < cs'.length := by rw [h.len]; exact hs
  rcases Nat.lt_or_ge (ordB cs').length 2 with h1 | h1
  · have hz := merge_small h1 ((mergeB cs').getD s 0) (getD_mem (by rw [mergeB_len]; exact hs'))
    refine ⟨hz.1, by omega, ?_⟩
    have hmem : 0 < cs'.getD s 0 ↔ (s : Int) ∈ ordB cs' := by
      rw [ordB_mem, posB_iff]
      unfold cnt
      rw [Int.toNat_natCast]
      omega
    rcases Nat.eq_zero_or_pos (ordB cs').length with h2 | h2
    · rw [mergeB_zero h2, hmem, List.eq_nil_of_length_eq_zero h2]
      rw [List.getD_eq_getElem?_getD, List.getElem?_replicate]
      split <;> simp
    · have hm := posB_mem (ordB_mem.1 (getD_mem (l := ordB cs') (j := 0) h2))
      rw [mergeB_one (by omega), getD_set, hmem]
      obtain ⟨y, hy⟩ : ∃ y, ordB cs' = [y] := List.length_eq_one_iff.1 (by omega)
      rw [hy] at hm ⊢
      simp only [List.getD_cons_zero, List.length_replicate, List.mem_singleton] at hm ⊢
      split
      · rename_i hh; refine ⟨fun _ => by omega, fun _ => by decide⟩
      · rename_i hh
        rw [List.getD_eq_getElem?_getD, List.getElem?_replicate]
        split <;> simp <;> omega
  · obtain ⟨T, hT⟩ := lok_of h1
    have := hT.bd hs'
    have := hT.max
    have := h.max
    omega
end Eng
end Go.Proofs.Ytighkjohpmlemaa

/-! Plain law: canonical codes: no code begins another; what is written is read again. -/
namespace Go.Proofs.Ytighkjohpmlemaa
open Go.RowKit
namespace Eng

/-- The part of the code's room that lengths up to l take. -/
def ksum (zs : List Int) : Nat → Nat
  | 0 => 0
  | l + 1 => ksum zs l + manyB zs (l + 1) * 2 ^ (12 - (l + 1))

theorem ksum_eq (zs : List Int) : ∀ l, l ≤ 12 → 2 ^ (12 - l) * (firstB zs l + manyB zs l) = ksum zs l
  | 0, _ => by simp [firstB, manyB, ksum]
  | l + 1, h => by
    have ih := ksum_eq zs l (by omega)
    simp only [ksum, firstB]
    rw [← ih, show 12 - l = (12 - (l + 1)) + 1 from by omega, Nat.pow_succ]
    generalize 2 ^ (12 - (l + 1)) = p
    generalize firstB zs l + manyB zs l = q
    rw [Nat.mul_add, Nat.mul_comm (manyB zs (l + 1)) p]
    have : p * (q * 2) = p * 2 * q := by rw [Nat.mul_assoc, Nat.mul_comm 2 q]
    omega

theorem many_cons (z : Int) (r : List Int) (l : Nat) : manyB (z :: r) (l + 1) = manyB r (l + 1) + if z = ((l + 1 : Nat) : Int) then 1 else 0 := by
  unfold manyB
  rw [if_neg (by omega), if_neg (by omega), List.count_cons]
  by_cases h : z = ((l + 1 : Nat) : Int)
  · simp [h]
  · have : (z == ((l + 1 : Nat) : Int)) = false := by simpa using h
    rw [this, if_neg h]; rfl

theorem ksum_cons (z : Int) (r : List Int) : ∀ l, l ≤ 12 → ksum (z :: r) l = ksum r l + if 0 < z ∧ z ≤ l then mg z else 0
  | 0, _ => by simp only [ksum]; rw [if_neg (by omega)]
  | l + 1, h => by
    simp only [ksum]
    rw [ksum_cons z r l (by omega), many_cons, Nat.add_mul]
    by_cases h1 : z = ((l + 1 : Nat) : Int)
    · rw [if_pos h1, if_neg (by omega), if_pos (by omega)]
      unfold mg
      rw [if_pos (by omega), h1, Int.toNat_natCast]; omega
    · rw [if_neg h1]
      by_cases h2 : 0 < z ∧ z ≤ l
      · rw [if_pos h2, if_pos (by omega)]; omega
      · rw [if_neg h2, if_neg (by omega)]; omega

theorem ksum_all : ∀ zs : List Int, Lens zs → ksum zs 12 = (zs.map mg).sum
  | [], _ => by decide
  | z :: r, h => by
    have hz := h z (List.mem_cons_self ..)
    rw [ksum_cons z r 12 (by omega), ksum_all r fun y hy => h y (List.mem_cons_of_mem _ hy), List.map_cons, List.sum_cons]
    by_cases h0 : 0 < z
    · rw [if_pos (by omega)]; omega
    · rw [if_neg (by omega)]
      have : mg z = 0 := by unfold mg; rw [if_neg h0]
      omega

theorem ksum_le (zs : List Int) : ∀ l k, ksum zs l ≤ ksum zs (l + k)
  | l, 0 => Nat.le_refl _
  | l, k + 1 => by
    have := ksum_le zs l k
    show _ ≤ ksum zs (l + k) + _
    omega

theorem may_cases {zs : List Int} (h : mayB zs = true) : (npos zs = 0 ∧ (zs.map mg).sum = 0) ∨ (npos zs = 1 ∧ (zs.map mg).sum = 2048) ∨ (2 ≤ npos zs ∧ (zs.map mg).sum = 4096) := by
  have hL := may_lens h
  have hm := h
  unfold mayB at hm
  rw [Bool.and_eq_true, mayGo_eq zs 0 0 hL, mayGo_nil] at hm
  have hm := hm.2
  have zero : npos zs = 0 → (zs.map mg).sum = 0 := fun h0 => by
    unfold npos at h0
    rw [List.countP_eq_zero] at h0
    have : zs.map mg = zs.map fun _ => 0 := List.map_congr_left fun z hz => by
      have := h0 z hz
      unfold mg
      rw [if_neg (by simpa using this)]
    rw [this]
    have zs0 : ∀ l : List Int, (l.map fun _ => (0 : Nat)).sum = 0 := by
      intro l
      induction l with
      | nil => rfl
      | cons x r ih => rw [List.map_cons, List.sum_cons, ih]
    exact zs0 zs
  rcases Nat.eq_zero_or_pos (npos zs) with h0 | h0
  · exact .inl ⟨h0, zero h0⟩
  · rcases Nat.eq_or_lt_of_le h0 with h1 | h1
    · refine .inr (.inl ⟨by omega, ?_⟩)
      rw [if_pos (by omega)] at hm
      simp only [decide_eq_true_eq] at hm
      omega
    · refine .inr (.inr ⟨by omega, ?_⟩)
      rw [if_neg (by omega)] at hm
      simp only [Bool.or_eq_true, decide_eq_true_eq] at hm
      omega

theorem first_le {zs : List Int} (h : mayB zs = true) (l : Nat) (hl : l ≤ 12) : firstB zs l + manyB zs l ≤ 2 ^ l := by
  have h1 := ksum_eq zs l hl
  have h2 := ksum_le zs l (12 - l)
  rw [show l + (12 - l) = 12 from by omega, ksum_all zs (may_lens h)] at h2
  have h3 : (zs.map mg).sum ≤ 4096 := by rcases may_cases h with ⟨_, e⟩ | ⟨_, e⟩ | ⟨_, e⟩ <;> omega
  have h4 : 2 ^ (12 - l) * 2 ^ l = 4096 := by rw [← Nat.pow_add, show 12 - l + l = 12 from by omega]
  rcases Nat.lt_or_ge (2 ^ l) (firstB zs l + manyB zs l) with h5 | h5
  · have h6 : 2 ^ (12 - l) * (2 ^ l + 1) ≤ 2 ^ (12 - l) * (firstB zs l + manyB zs l) := Nat.mul_le_mul_left _ h5
    have h7 : 0 < 2 ^ (12 - l) := Nat.pow_pos (by decide)
    rw [Nat.mul_add] at h6
    omega
  · exact h5

theorem first_next (zs : List Int) (l : Nat) : ∀ k, 2 ^ (k + 1) * (firstB zs l + manyB zs l) ≤ firstB zs (l + k + 1)
  | 0 => by simp only [firstB]; omega
  | k + 1 => by
    have ih := first_next zs l k
    show _ ≤ (firstB zs (l + k + 1) + manyB zs (l + k + 1)) * 2
    have e : 2 ^ (k + 1 + 1) * (firstB zs l + manyB zs l) = 2 ^ (k + 1) * (firstB zs l + manyB zs l) * 2 := by rw [Nat.pow_succ 2 (k + 1), Nat.mul_right_comm]
    omega

theorem code_eq {zs : List Int} {s q : Nat} (hs : zs[s]? = some (q : Int)) (hq : 0 < q) : codeB zs s = firstB zs q + (zs.take s).count (q : Int) := by
  unfold codeB
  rw [hs]
  dsimp only
  rw [if_pos (by omega), Int.toNat_natCast]
theorem code_bd {zs : List Int} {s q : Nat} (hs : zs[s]? = some (q : Int)) (hq : 0 < q) : firstB zs q ≤ codeB zs s ∧ codeB zs s < firstB zs q + manyB zs q := by
  rw [code_eq hs hq]
  have := take_count_lt hs
  have h3 : manyB zs q = zs.count (q : Int) := by unfold manyB; rw [if_neg (by omega)]
  omega
theorem code_lt {zs : List Int} {s q : Nat} (h : mayB zs = true) (hs : zs[s]? = some (q : Int)) (hq : 0 < q) : codeB zs s < 2 ^ q := by
  have h1 := code_bd hs hq
  have h2 := first_le h q (by have := (may_lens h _ (List.mem_of_getElem? hs)).2; omega)
  omega

/-- A shorter code is below every beginning of a longer one. -/
theorem code_below {zs : List Int} {t l l' : Nat} (ht : zs[t]? = some (l' : Int)) (hlt : l < l') : firstB zs l + manyB zs l ≤ codeB zs t / 2 ^ (l' - l) := by
  have h1 := (code_bd ht (by omega)).1
  have h2 := first_next zs l (l' - l - 1)
  rw [show l' - l - 1 + 1 = l' - l from by omega, show l + (l' - l - 1) + 1 = l' from by omega] at h2
  rw [Nat.le_div_iff_mul_le (Nat.pow_pos (by decide)), Nat.mul_comm]
  omega

theorem count_take_lt {zs : List Int} {s t : Nat} {z : Int} (hs : zs[s]? = some z) (hst : s < t) : (zs.take s).count z < (zs.take t).count z := by
  have e : zs.take t = zs.take s ++ z :: (zs.drop (s + 1)).take (t - s - 1) := by
    have h1 : zs.take t = zs.take s ++ (zs.drop s).take (t - s) := by
      have := List.take_add (l := zs) (i := s) (j := t - s)
      rwa [show s + (t - s) = t from by omega] at this
    have hlt : s < zs.length := (List.getElem?_eq_some_iff.1 hs).1
    have hz : zs[s] = z := by rw [List.getElem?_eq_getElem hlt] at hs; injection hs
    rw [h1, List.drop_eq_getElem_cons hlt, hz, show t - s = (t - s - 1) + 1 from by omega, List.take_succ_cons]
    rfl
  rw [e, List.count_append, List.count_cons_self]
  omega

theorem code_free {zs : List Int} {s t l l' : Nat} (hs : zs[s]? = some (l : Int)) (ht : zs[t]? = some (l' : Int)) (hl : 0 < l) (hle : l ≤ l') (hst : s ≠ t) : codeB zs t / 2 ^ (l' - l) ≠ codeB zs s := by
  rcases Nat.eq_or_lt_of_le hle with h | h
  · subst h
    rw [Nat.sub_self, Nat.pow_zero, Nat.div_one, code_eq hs hl, code_eq ht hl]
    rcases Nat.lt_or_ge s t with h | h
    · have := count_take_lt hs h; omega
    · have := count_take_lt ht (show t < s by omega); omega
  · have h1 := code_below ht h
    have h2 := (code_bd hs hl).2
    omega

/-- The symbol is found by its place among those of its length. -/
theorem symGo_spec : ∀ (zs : List Int) (l : Int) (s i : Nat), zs[s]? = some l → symGo zs l ((zs.take s).count l) i = i + s
  | [], l, s, i, h => by simp at h
  | z :: r, l, 0, i, h => by
    have : z = l := by simpa using h
    subst this
    simp [symGo]
  | z :: r, l, s + 1, i, h => by
    have h' : r[s]? = some l := by simpa using h
    have ih := symGo_spec r l s (i + 1) h'
    rw [List.take_succ_cons, List.count_cons]
    by_cases hz : z = l
    · subst hz
      simp only [beq_self_eq_true, if_true]
      unfold symGo
      rw [if_pos rfl]
      show symGo r z ((r.take s).count z) (i + 1) = _
      rw [ih]; omega
    · have hb : (z == l) = false := by simpa using hz
      rw [hb]
      unfold symGo
      rw [if_neg hz]
      show symGo r l ((r.take s).count l + 0) (i + 1) = _
      rw [Nat.add_zero, ih]; omega
theorem symB_spec {zs : List Int} {l : Int} {s : Nat} (h : zs[s]? = some l) : symB zs l ((zs.take s).count l) = s := by
  unfold symB
  rw [symGo_spec zs l s 0 h]; omega

/-- Reading the code of a symbol. -/
theorem getGo_hit {zs ys : List Int} {s q top : Nat} (hs : zs[s]? = some (q : Int)) (hq : 0 < q) (htop : q ≤ top) (p0 : Nat) (hlen : p0 + q ≤ 8 * ys.length) (hbits : ∀ j, j < q → bitAt ys (p0 + j) = codeB zs s / 2 ^ (q - j - 1) % 2) (hc : codeB zs s < 2 ^ q) :
    ∀ (d f long : Nat), long + d = q → 0 < d → d ≤ f → getGo zs ys top f (p0 + long) long (codeB zs s / 2 ^ d) = ((s : Int), 0, p0 + q)
  | 0, f, long, h1, h2, h3 => by omega
  | d + 1, 0, long, h1, h2, h3 => by omega
  | d + 1, f + 1, long, h1, h2, h3 => by
    unfold getGo
    rw [if_neg (by omega)]
    have hb := hbits long (by omega)
    have hcode : 2 * (codeB zs s / 2 ^ (d + 1)) + bitAt ys (p0 + long) = codeB zs s / 2 ^ d := by
      rw [hb, show q - long - 1 = d from by omega, Nat.pow_succ, ← Nat.div_div_eq_div_mul]
      omega
    rw [hcode]
    cases d with
    | zero =>
      have hl : long + 1 = q := by omega
      rw [hl, Nat.pow_zero, Nat.div_one]
      have hbd := code_bd hs hq
      rw [if_pos (by omega)]
      have e : codeB zs s - firstB zs q = (zs.take s).count (q : Int) := by rw [code_eq hs hq]; omega
      rw [e, symB_spec hs]
      congr 2
      omega
    | succ d =>
      have hb2 := code_below (l := long + 1) hs (by omega)
      rw [show q - (long + 1) = d + 1 from by omega] at hb2
      rw [if_neg (by omega), if_pos (by omega)]
      exact getGo_hit hs hq htop p0 hlen hbits hc (d + 1) f (long + 1) (by omega) (by omega) (by omega)

theorem bitsOf_get (n : Nat) : ∀ (L j : Nat), j < L → (bitsOf n L)[j]? = some (n / 2 ^ (L - j - 1) % 2)
  | 0, j, h => by omega
  | L + 1, 0, h => by simp [bitsOf]
  | L + 1, j + 1, h => by
    simp only [bitsOf, List.getElem?_cons_succ]
    rw [bitsOf_get n L j (by omega), show L + 1 - (j + 1) - 1 = L - j - 1 from by omega]

theorem get_hit {zs ys : List Int} {s q : Nat} (h : mayB zs = true) (hs : zs[s]? = some (q : Int)) (hq : 0 < q) (p : Nat) (hlen : p + q ≤ 8 * ys.length) (hbits : unpk ys p q = bitsOf (codeB zs s) q) : getB zs ys p = ((s : Int), 0, p + q) := by
  have hmem := maxL_le (List.mem_of_getElem? hs)
  have hc := code_lt h hs hq
  unfold getB
  have := getGo_hit (top := (maxL zs).toNat) hs hq (by omega) p hlen (fun j hj => by
    have h1 := bitsOf_get (codeB zs s) q j hj
    rw [← hbits] at h1
    unfold unpk at h1
    rw [List.getElem?_map, List.getElem?_range hj] at h1
    injection h1) hc q (maxL zs).toNat 0 (by omega) hq (by omega)
  rw [Nat.div_eq_of_lt hc] at this
  exact this
end Eng
end Go.Proofs.Ytighkjohpmlemaa

/-! Plain law: joining the two first lightest of a list, again and again, gives the lengths of the merge. -/
namespace Go.Proofs.Ytighkjohpmlemaa
open Go.RowKit
namespace Eng

/-- The place of the first lightest among the first i. -/
def lstGo (ws : List Int) : Nat → Nat
  | 0 => 0
  | i + 1 => if ws.getD i 0 < ws.getD (lstGo ws i) 0 then i else lstGo ws i
def leastB (ws : List Int) : Nat := lstGo ws ws.length

theorem lstGo_le (ws : List Int) : ∀ i, lstGo ws i ≤ i - 1 ∧ ∀ j, j < i → ws.getD (lstGo ws i) 0 ≤ ws.getD j 0
  | 0 => ⟨Nat.zero_le _, fun j hj => by omega⟩
  | i + 1 => by
    obtain ⟨h1, h2⟩ := lstGo_le ws i
    unfold lstGo
    split
    · rename_i hlt
      refine ⟨by omega, fun j hj => ?_⟩
      by_cases e : j = i
      · subst e; omega
      · have := h2 j (by omega); omega
    · rename_i hlt
      refine ⟨by omega, fun j hj => ?_⟩
      by_cases e : j = i
      · subst e; omega
      · exact h2 j (by omega)
theorem lstGo_first (ws : List Int) : ∀ i j, j < lstGo ws i → ws.getD (lstGo ws i) 0 < ws.getD j 0
  | 0, j, hj => by simp [lstGo] at hj
  | i + 1, j, hj => by
    have h1 := lstGo_le ws i
    unfold lstGo at hj ⊢
    split
    · rename_i hlt
      rw [if_pos hlt] at hj
      have := h1.2 j hj; omega
    · rename_i hlt
      rw [if_neg hlt] at hj
      exact lstGo_first ws i j hj
/-- What makes a place the first lightest. -/
theorem leastB_eq {ws : List Int} {p : Nat} (hp : p < ws.length) (h1 : ∀ q, q < p → ws.getD p 0 < ws.getD q 0) (h2 : ∀ q, q < ws.length → ws.getD p 0 ≤ ws.getD q 0) : leastB ws = p := by
  unfold leastB
  have a := lstGo_le ws ws.length
  have b := lstGo_first ws ws.length
  rcases Nat.lt_trichotomy (lstGo ws ws.length) p with h | h | h
  · have := h1 _ h
    have := a.2 p hp
    omega
  · exact h
  · have := b p h
    have := h2 (lstGo ws ws.length) (by omega)
    omega
theorem leastB_lt {ws : List Int} (h : 0 < ws.length) : leastB ws < ws.length := by
  have := (lstGo_le ws ws.length).1
  unfold leastB; omega
/-- The first lightest, the list cut there. -/
theorem leastB_split {A : List Int} {x : Int} {C : List Int} (hA : ∀ a ∈ A, x < a) (hC : ∀ c ∈ C, x ≤ c) : leastB (A ++ x :: C) = A.length := by
  have e : (A ++ x :: C).getD A.length 0 = x := by simp [List.getD_eq_getElem?_getD]
  refine leastB_eq (by simp) (fun q hq => ?_) (fun q hq => ?_)
  · rw [e, List.getD_eq_getElem?_getD, List.getElem?_append_left hq, List.getElem?_eq_getElem hq]
    exact hA _ (List.getElem_mem hq)
  · rw [e]
    rcases Nat.lt_or_ge q A.length with h | h
    · rw [List.getD_eq_getElem?_getD, List.getElem?_append_left h, List.getElem?_eq_getElem h]
      have := hA _ (List.getElem_mem h)
      show x ≤ A[q]
      omega
    · rw [List.getD_eq_getElem?_getD, List.getElem?_append_right h]
      cases hk : q - A.length with
      | zero => simp
      | succ k =>
        rw [List.getElem?_cons_succ]
        rw [List.length_append, List.length_cons] at hq
        rw [List.getElem?_eq_getElem (by omega)]
        exact hC _ (List.getElem_mem _)

abbrev Hp := Int × List Int
def hp0 : Hp := (0, [])
/-- One is added at each of these places. -/
def incs : List Int → List Int → List Int
  | lens, [] => lens
  | lens, s :: r => incs (lens.set s.toNat (lens.getD s.toNat 0 + 1)) r
@[simp] theorem incs_len : ∀ (L lens : List Int), (incs lens L).length = lens.length
  | [], _ => rfl
  | s :: r, lens => by rw [incs, incs_len r]; simp
theorem incs_get : ∀ (L lens : List Int), L.Nodup → (∀ s ∈ L, 0 ≤ s ∧ s < lens.length) → ∀ i : Nat, (incs lens L).getD i 0 = lens.getD i 0 + if (i : Int) ∈ L then 1 else 0
  | [], lens, _, _, i => by simp [incs]
  | s :: r, lens, hn, hb, i => by
    rw [List.nodup_cons] at hn
    have h0 := hb s (List.mem_cons_self ..)
    rw [incs, incs_get r _ hn.2 (fun x hx => by have := hb x (List.mem_cons_of_mem _ hx); simpa using this) i, getD_set]
    by_cases e : s.toNat = i
    · have es : (i : Int) = s := by omega
      rw [if_pos ⟨e, by omega⟩, e, if_neg (by rw [es]; exact hn.1), if_pos (by rw [es]; simp)]
      omega
    · rw [if_neg (fun h => e h.1)]
      have : (i : Int) ∈ s :: r ↔ (i : Int) ∈ r := by
        rw [List.mem_cons]
        constructor
        · rintro (h | h)
          · omega
          · exact h
        · exact .inr
      by_cases hi : (i : Int) ∈ r
      · rw [if_pos hi, if_pos (this.2 hi)]
      · rw [if_neg hi, if_neg (fun h => hi (this.1 h))]

/-- One join. -/
def jA (l : List Hp) : Hp := l.getD (leastB (l.map (·.1))) hp0
def jR (l : List Hp) : List Hp := l.eraseIdx (leastB (l.map (·.1)))
def jH (l : List Hp) : Hp := ((jA l).1 + (jA (jR l)).1, (jA l).2 ++ (jA (jR l)).2)
def jstep (x : List Hp × List Int) : List Hp × List Int := (jR (jR x.1) ++ [jH x.1], incs x.2 (jH x.1).2)
def jinit (cs : List Int) : List Hp × List Int := ((posB cs).map fun s => (cnt cs s, [s]), List.replicate cs.length 0)
def jrun (cs : List Int) : Nat → List Hp × List Int
  | 0 => jinit cs
  | k + 1 => jstep (jrun cs k)
def joinsB (cs : List Int) : List Int := (jrun cs ((posB cs).length - 1)).2

theorem split_pick {A : List Hp} {x : Hp} {C : List Hp} (hA : ∀ a ∈ A, x.1 < a.1) (hC : ∀ c ∈ C, x.1 ≤ c.1) : jA (A ++ x :: C) = x ∧ jR (A ++ x :: C) = A ++ C := by
  have e : leastB ((A ++ x :: C).map (·.1)) = A.length := by
    rw [List.map_append, List.map_cons, leastB_split (fun a ha => by obtain ⟨y, hy, rfl⟩ := List.mem_map.1 ha; exact hA y hy) (fun a ha => by obtain ⟨y, hy, rfl⟩ := List.mem_map.1 ha; exact hC y hy), List.length_map]
  unfold jA jR
  rw [e]
  refine ⟨by simp [List.getD_eq_getElem?_getD], ?_⟩
  rw [List.eraseIdx_append_of_length_le (Nat.le_refl _)]
  simp

/-- What the list holds: the leaves that are left, by their numbers; then what was joined, in its order. -/
def jleaf (cs : List Int) (leaf : Nat) : List Int := (posB cs).filter fun s => decide (s ∈ (ordB cs).drop leaf)
def jsy (cs : List Int) (t : Tr) : List Int := t.sy.map fun j => (ordB cs).getD j 0
def jlist (cs : List Int) (sm : List Int) (ts : List Tr) (leaf made : Nat) : List Hp :=
  (jleaf cs leaf).map (fun s => (cnt cs s, [s])) ++ (List.range' made (sm.length - made)).map fun i => (sm.getD i 0, jsy cs (ts.getD i d0))
def jel (cs : List Int) (sm : List Int) (ts : List Tr) (i : Nat) : Hp := (sm.getD i 0, jsy cs (ts.getD i d0))

theorem jleaf_cut (cs : List Int) {leaf : Nat} (h : leaf < (ordB cs).length) : ∃ A C, jleaf cs leaf = A ++ (ordB cs).getD leaf 0 :: C ∧ jleaf cs (leaf + 1) = A ++ C ∧
    (∀ a ∈ A, cnt cs ((ordB cs).getD leaf 0) < cnt cs a) ∧ ∀ c ∈ C, cnt cs ((ordB cs).getD leaf 0) ≤ cnt cs c := by
  obtain ⟨s, hs⟩ : ∃ s, s = (ordB cs).getD leaf 0 := ⟨_, rfl⟩
  rw [← hs]
  have hdrop : (ordB cs).drop leaf = s :: (ordB cs).drop (leaf + 1) := by
    rw [List.drop_eq_getElem_cons h, hs, List.getD_eq_getElem?_getD, List.getElem?_eq_getElem h]; rfl
  have hnd : (s :: (ordB cs).drop (leaf + 1)).Nodup := by rw [← hdrop]; exact (List.drop_sublist _ _).nodup (ordB_nodup cs)
  rw [List.nodup_cons] at hnd
  have hsrt : ∀ y ∈ (ordB cs).drop (leaf + 1), lt (cnt cs) s y := by
    have := List.Pairwise.sublist (List.drop_sublist leaf (ordB cs)) (ordB_sorted cs)
    rw [hdrop, List.pairwise_cons] at this
    exact this.1
  have hmem : s ∈ jleaf cs leaf := by
    unfold jleaf
    rw [List.mem_filter]
    exact ⟨ordB_mem.1 (by rw [hs]; exact getD_mem h), by rw [hdrop]; simp⟩
  obtain ⟨A, C, hAC⟩ := List.append_of_mem hmem
  have hasc : (jleaf cs leaf).Pairwise (· < ·) := (posB_asc cs).filter _
  rw [hAC, List.pairwise_append, List.pairwise_cons] at hasc
  have hin : ∀ y, y ∈ A ∨ y ∈ C → y ∈ (ordB cs).drop (leaf + 1) := by
    intro y hy
    have h1 : y ∈ jleaf cs leaf := by rw [hAC]; rcases hy with hy | hy <;> simp [hy]
    unfold jleaf at h1
    rw [List.mem_filter, hdrop] at h1
    have h2 : y ∈ s :: (ordB cs).drop (leaf + 1) := by simpa using h1.2
    rcases List.mem_cons.1 h2 with e | e
    · exfalso
      subst e
      rcases hy with hy | hy
      · have := hasc.2.2 y hy y (by simp); omega
      · have := hasc.2.1.1 y hy; omega
    · exact e
  refine ⟨A, C, hAC, ?_, fun a ha => ?_, fun c hc => ?_⟩
  · have e1 : jleaf cs (leaf + 1) = (jleaf cs leaf).filter fun y => decide (y ≠ s) := by
      unfold jleaf
      rw [List.filter_filter]
      apply List.filter_congr
      intro y _
      rw [hdrop]
      by_cases e : y = s
      · subst e; simp [hnd.1]
      · simp [e]
    rw [e1, hAC, List.filter_append, List.filter_cons_of_neg (by simp)]
    rw [List.filter_eq_self.2 fun y hy => by have := hasc.2.2 y hy s (by simp); simp; omega, List.filter_eq_self.2 fun y hy => by have := hasc.2.1.1 y hy; simp; omega]
  · have h1 := hsrt a (hin a (.inl ha))
    have h2 := hasc.2.2 a ha s (by simp)
    unfold lt at h1; omega
  · have h1 := hsrt c (hin c (.inr hc))
    unfold lt at h1; omega

/-- One pick is one take. -/
theorem jpick {cs : List Int} {sm : List Int} {ts : List Tr} {leaf made : Nat} (hn : (ordB cs).length = (wts cs).length) (h1 : leaf ≤ (wts cs).length) (h2 : made ≤ sm.length) (h0 : (wts cs).length ≤ made) (h3 : leaf + made < (wts cs).length + sm.length)
    (hlf : ∀ i, i < (wts cs).length → ts.getD i d0 = .leaf i ∧ sm.getD i 0 = (wts cs).getD i 0) (hm : ∀ i j, (wts cs).length ≤ i → i ≤ j → j < sm.length → sm.getD i 0 ≤ sm.getD j 0) :
    jA (jlist cs sm ts leaf made) = jel cs sm ts (takeI (wts cs).length leaf made sm) ∧ jR (jlist cs sm ts leaf made) = jlist cs sm ts (takeL (wts cs).length leaf made sm) (takeM (wts cs).length leaf made sm) := by
  have hw : ∀ i, i < (wts cs).length → sm.getD i 0 = cnt cs ((ordB cs).getD i 0) := fun i hi => by rw [(hlf i hi).2, wts_get cs i (by omega)]
  unfold takeI takeL takeM
  by_cases hT : takeB (wts cs).length leaf made sm = true
  · rw [if_pos hT, if_pos hT, if_pos hT]
    simp only [takeB, Bool.and_eq_true, Bool.or_eq_true, decide_eq_true_eq] at hT
    obtain ⟨A, C, e1, e2, hA, hC⟩ := jleaf_cut cs (leaf := leaf) (by omega)
    have key := split_pick (A := A.map fun s => (cnt cs s, [s])) (x := (cnt cs ((ordB cs).getD leaf 0), [(ordB cs).getD leaf 0])) (C := C.map (fun s => (cnt cs s, [s])) ++ (List.range' made (sm.length - made)).map fun i => (sm.getD i 0, jsy cs (ts.getD i d0)))
      (fun a ha => by obtain ⟨y, hy, rfl⟩ := List.mem_map.1 ha; exact hA y hy) (fun c hc => by
        rcases List.mem_append.1 hc with hc | hc
        · obtain ⟨y, hy, rfl⟩ := List.mem_map.1 hc; exact hC y hy
        · obtain ⟨y, hy, rfl⟩ := List.mem_map.1 hc
          rw [List.mem_range'_1] at hy
          rw [← hw leaf (by omega)]
          show sm.getD leaf 0 ≤ sm.getD y 0
          rcases hT.2 with h | h
          · omega
          · exact Int.le_trans h (hm made y h0 hy.1 (by omega)))
    have e3 : jlist cs sm ts leaf made = A.map (fun s => (cnt cs s, [s])) ++ (cnt cs ((ordB cs).getD leaf 0), [(ordB cs).getD leaf 0]) :: (C.map (fun s => (cnt cs s, [s])) ++ (List.range' made (sm.length - made)).map fun i => (sm.getD i 0, jsy cs (ts.getD i d0))) := by
      unfold jlist; rw [e1]; simp
    rw [e3]
    refine ⟨key.1.trans ?_, key.2.trans ?_⟩
    · unfold jel jsy
      rw [(hlf leaf (by omega)).1, hw leaf (by omega)]; rfl
    · unfold jlist; rw [e2]; simp
  · rw [if_neg hT, if_neg hT, if_neg hT]
    simp only [takeB, Bool.and_eq_true, Bool.or_eq_true, decide_eq_true_eq, not_and, not_or] at hT
    have hml : made < sm.length := by
      by_cases hh : leaf < (wts cs).length
      · have := (hT hh).1; omega
      · omega
    have e1 : List.range' made (sm.length - made) = made :: List.range' (made + 1) (sm.length - (made + 1)) := range_take made sm.length hml
    have key := split_pick (A := (jleaf cs leaf).map fun s => (cnt cs s, [s])) (x := jel cs sm ts made) (C := (List.range' (made + 1) (sm.length - (made + 1))).map fun i => (sm.getD i 0, jsy cs (ts.getD i d0)))
      (fun a ha => by
        obtain ⟨y, hy, rfl⟩ := List.mem_map.1 ha
        unfold jleaf at hy
        rw [List.mem_filter] at hy
        have hy2 : y ∈ (ordB cs).drop leaf := by simpa using hy.2
        obtain ⟨j, hj, e⟩ := List.getElem_of_mem hy2
        rw [List.length_drop] at hj
        rw [List.getElem_drop] at e
        have hasc := wts_asc cs leaf (leaf + j) (by omega) (by omega)
        have h4 := (hT (by omega)).2
        show sm.getD made 0 < cnt cs y
        rw [(hlf leaf (by omega)).2] at h4
        have ey : (ordB cs).getD (leaf + j) 0 = y := by
          rw [List.getD_eq_getElem?_getD, List.getElem?_eq_getElem (show leaf + j < (ordB cs).length by omega)]; exact e
        rw [wts_get cs (leaf + j) (by omega), ey] at hasc
        omega)
      (fun c hc => by
        obtain ⟨y, hy, rfl⟩ := List.mem_map.1 hc
        rw [List.mem_range'_1] at hy
        exact hm made y h0 (by omega) (by omega))
    have e3 : jlist cs sm ts leaf made = (jleaf cs leaf).map (fun s => (cnt cs s, [s])) ++ jel cs sm ts made :: (List.range' (made + 1) (sm.length - (made + 1))).map fun i => (sm.getD i 0, jsy cs (ts.getD i d0)) := by
      unfold jlist; rw [e1]; rfl
    rw [e3]
    exact ⟨key.1, key.2⟩

theorem lv_shift : ∀ (t : Tr) (d j e : Nat), (j, e) ∈ t.lv (d + 1) → ∃ e', e = e' + 1 ∧ (j, e') ∈ t.lv d
  | .leaf i, d, j, e, h => by
    simp only [Tr.lv, List.mem_singleton, Prod.mk.injEq] at h
    exact ⟨d, h.2, by simp [Tr.lv, h.1]⟩
  | .node a b, d, j, e, h => by
    simp only [Tr.lv, List.mem_append] at h
    rcases h with h | h
    · obtain ⟨e', h1, h2⟩ := lv_shift a (d + 1) j e h
      exact ⟨e', h1, by simp [Tr.lv, h2]⟩
    · obtain ⟨e', h1, h2⟩ := lv_shift b (d + 1) j e h
      exact ⟨e', h1, by simp [Tr.lv, h2]⟩
theorem lv_mem_sy {t : Tr} {d j e : Nat} (h : (j, e) ∈ t.lv d) : j ∈ t.sy := by rw [← Tr.lv_sy t d]; exact List.mem_map.2 ⟨_, h, rfl⟩

structure JInv (cs : List Int) (k : Nat) : Prop where
  l : (jrun cs k).1 = jlist cs ((HSt.init (wts cs)).run (wts cs).length k).sm (trsB (wts cs) k) ((HSt.init (wts cs)).run (wts cs).length k).leaf ((HSt.init (wts cs)).run (wts cs).length k).made
  len : (jrun cs k).2.length = cs.length
  dep : ∀ i, Av (wts cs).length ((HSt.init (wts cs)).run (wts cs).length k).sm.length ((HSt.init (wts cs)).run (wts cs).length k).leaf ((HSt.init (wts cs)).run (wts cs).length k).made i →
    ∀ j e, (j, e) ∈ ((trsB (wts cs) k).getD i d0).lv 0 → (jrun cs k).2.getD ((ordB cs).getD j 0).toNat 0 = (e : Int)
  zero : ∀ s : Nat, (s : Int) ∉ posB cs → (jrun cs k).2.getD s 0 = 0

theorem av_mem {n len leaf made i : Nat} : Av n len leaf made i ↔ i ∈ avl n len leaf made := by
  unfold Av avl
  rw [List.mem_append, List.mem_range'_1, List.mem_range'_1]
  omega

theorem jinv_init (cs : List Int) : JInv cs 0 := by
  have hw := wts_len cs
  refine ⟨?_, by simp [jrun, jinit], fun i hi j e hj => ?_, fun s _ => ?_⟩
  · show (posB cs).map _ = jlist cs (wts cs) _ 0 (wts cs).length
    unfold jlist
    rw [Nat.sub_self, List.range'_zero, List.map_nil, List.append_nil]
    have : jleaf cs 0 = posB cs := by
      unfold jleaf
      rw [List.drop_zero, List.filter_eq_self]
      intro s hs
      simpa using ordB_mem.2 hs
    rw [this]
  · have hi' : i < (wts cs).length := by
      have : Av (wts cs).length (wts cs).length 0 (wts cs).length i := hi
      unfold Av at this; omega
    have e1 : (trsB (wts cs) 0).getD i d0 = .leaf i := by simp [trsB, List.getD_eq_getElem?_getD, hi']
    rw [e1] at hj
    simp only [Tr.lv, List.mem_singleton, Prod.mk.injEq] at hj
    obtain ⟨rfl, rfl⟩ := hj
    show (List.replicate cs.length 0).getD _ 0 = _
    rw [List.getD_eq_getElem?_getD, List.getElem?_replicate]; split <;> rfl
  · show (List.replicate cs.length 0).getD _ 0 = _
    rw [List.getD_eq_getElem?_getD, List.getElem?_replicate]; split <;> rfl

theorem jinv_step (cs : List Int) (h2 : 2 ≤ (ordB cs).length) (k : Nat) (hk : k + 2 ≤ (ordB cs).length) (hJ : JInv cs k) : JInv cs (k + 1) := by
  have hw := wts_len cs
  obtain ⟨hT, hsl⟩ := TOk.run (ws := wts cs) (by omega) (wts_pos cs) (wts_asc cs) k (by omega)
  obtain ⟨hT', hsl'⟩ := TOk.run (ws := wts cs) (by omega) (wts_pos cs) (wts_asc cs) (k + 1) (by omega)
  have pk := hT.pick (wts_asc cs) (by omega)
  obtain ⟨jl, jlen, jdep, jzero⟩ := hJ
  have hst : (HSt.init (wts cs)).run (wts cs).length (k + 1) = ((HSt.init (wts cs)).run (wts cs).length k).step (wts cs).length := rfl
  have htt : trsB (wts cs) (k + 1) = tstep (wts cs).length ((HSt.init (wts cs)).run (wts cs).length k) (trsB (wts cs) k) := rfl
  rw [hst, htt] at hT'
  obtain ⟨x, hx⟩ : ∃ x, x = (HSt.init (wts cs)).run (wts cs).length k := ⟨_, rfl⟩
  obtain ⟨ts, hts⟩ : ∃ ts, ts = trsB (wts cs) k := ⟨_, rfl⟩
  rw [← hx, ← hts] at hT hT' jl jdep
  rw [← hx] at hsl pk
  have lf := hT.ok.lf; have md := hT.ok.md; have sum := hT.ok.sum; have nm := hT.ok.nm; have n0 := hT.n0
  have hlf : ∀ i, i < (wts cs).length → ts.getD i d0 = .leaf i ∧ x.sm.getD i 0 = (wts cs).getD i 0 := fun i hi => ⟨hT.lf i hi, by rw [hT.wt i (by omega), hT.lf i hi]; rfl⟩
  have t1 := take_cases (wts cs).length x.leaf x.made x.sm lf md (by omega)
  have p1 := jpick (cs := cs) (ts := ts) (by omega) lf md nm (by omega) hlf hT.asc
  rw [← jl] at p1
  have e1 : takeI (wts cs).length x.leaf x.made x.sm = x.i1 (wts cs).length := rfl
  have e2 : takeL (wts cs).length x.leaf x.made x.sm = x.l1 (wts cs).length := rfl
  have e3 : takeM (wts cs).length x.leaf x.made x.sm = x.m1 (wts cs).length := rfl
  rw [e1, e2, e3] at p1
  rw [e2, e3] at t1
  have p2 := jpick (cs := cs) (ts := ts) (sm := x.sm) (leaf := x.l1 (wts cs).length) (made := x.m1 (wts cs).length) (by omega) (by omega) (by omega) (by omega) (by omega) hlf hT.asc
  rw [← p1.2] at p2
  have e4 : takeI (wts cs).length (x.l1 (wts cs).length) (x.m1 (wts cs).length) x.sm = x.i2 (wts cs).length := rfl
  have e5 : takeL (wts cs).length (x.l1 (wts cs).length) (x.m1 (wts cs).length) x.sm = (x.step (wts cs).length).leaf := rfl
  have e6 : takeM (wts cs).length (x.l1 (wts cs).length) (x.m1 (wts cs).length) x.sm = (x.step (wts cs).length).made := rfl
  rw [e4, e5, e6] at p2
  obtain ⟨a, ha⟩ : ∃ a, a = x.i1 (wts cs).length := ⟨_, rfl⟩
  obtain ⟨b, hb⟩ : ∃ b, b = x.i2 (wts cs).length := ⟨_, rfl⟩
  rw [← ha] at p1
  rw [← hb] at p2
  rw [← ha, ← hb] at pk
  have avlt : ∀ {j}, Av (wts cs).length x.sm.length x.leaf x.made j → j < x.sm.length := fun {j} hj => by unfold Av at hj; omega
  have hal := avlt pk.ava
  have hbl := avlt pk.avb
  have htsn : tstep (wts cs).length x ts = ts ++ [.node (ts.getD a d0) (ts.getD b d0)] := by rw [ha, hb]; rfl
  have hsmn : (x.step (wts cs).length).sm = x.sm ++ [x.sm.getD a 0 + x.sm.getD b 0] := by rw [ha, hb]; rfl
  have tl : ∀ i, i < x.sm.length → (tstep (wts cs).length x ts).getD i d0 = ts.getD i d0 := fun i hi => by rw [htsn, getD_snoc_lt _ _ _ _ (by rw [hT.len]; exact hi)]
  have te : (tstep (wts cs).length x ts).getD x.sm.length d0 = .node (ts.getD a d0) (ts.getD b d0) := by rw [htsn, getD_snoc_eq _ _ _ _ hT.len.symm]
  have hH : jH (jrun cs k).1 = (x.sm.getD a 0 + x.sm.getD b 0, jsy cs (.node (ts.getD a d0) (ts.getD b d0))) := by
    unfold jH
    rw [p1.1, p2.1]
    unfold jel jsy
    simp [Tr.sy]
  -- the symbols of the trees that are there: all apart
  have hnd : ((avl (wts cs).length x.sm.length x.leaf x.made).flatMap fun i => (ts.getD i d0).sy).Nodup := hT.sys.nodup_iff.2 List.nodup_range
  have apart : ∀ i i' j, Av (wts cs).length x.sm.length x.leaf x.made i → Av (wts cs).length x.sm.length x.leaf x.made i' → j ∈ (ts.getD i d0).sy → j ∈ (ts.getD i' d0).sy → i = i' := fun i i' j hi hi' h1 h3 => by
    apply Classical.byContradiction
    intro hne
    have := List.pairwise_flatMap.1 hnd
    have hp := this.2
    rcases Nat.lt_or_gt_of_ne hne with hlt | hlt
    all_goals
      have hsrt : (avl (wts cs).length x.sm.length x.leaf x.made).Pairwise (· < ·) := by
        unfold avl
        rw [List.pairwise_append]
        refine ⟨List.pairwise_lt_range', List.pairwise_lt_range', fun u hu v hv => ?_⟩
        rw [List.mem_range'_1] at hu hv; omega
    · obtain ⟨p, hp1, hp2⟩ := List.getElem_of_mem (av_mem.1 hi)
      obtain ⟨q, hq1, hq2⟩ := List.getElem_of_mem (av_mem.1 hi')
      have hpq : p < q := by
        rcases Nat.lt_trichotomy p q with h | h | h
        · exact h
        · subst h; omega
        · have := List.pairwise_iff_getElem.1 hsrt q p hq1 hp1 h; omega
      have := List.pairwise_iff_getElem.1 hp p q hp1 hq1 hpq j (by rw [hp2]; exact h1) j (by rw [hq2]; exact h3)
      exact this rfl
    · obtain ⟨p, hp1, hp2⟩ := List.getElem_of_mem (av_mem.1 hi)
      obtain ⟨q, hq1, hq2⟩ := List.getElem_of_mem (av_mem.1 hi')
      have hpq : q < p := by
        rcases Nat.lt_trichotomy q p with h | h | h
        · exact h
        · subst h; omega
        · have := List.pairwise_iff_getElem.1 hsrt p q hp1 hq1 h; omega
      have := List.pairwise_iff_getElem.1 hp q p hq1 hp1 hpq j (by rw [hq2]; exact h3) j (by rw [hp2]; exact h1)
      exact this rfl
  have syb : ∀ i j, Av (wts cs).length x.sm.length x.leaf x.made i → j ∈ (ts.getD i d0).sy → j < (ordB cs).length := fun i j hi hj => by
    have : j ∈ List.range (wts cs).length := hT.sys.subset (List.mem_flatMap.2 ⟨i, av_mem.1 hi, hj⟩)
    rw [List.mem_range] at this; omega
  have one : ∀ i, Av (wts cs).length x.sm.length x.leaf x.made i → (ts.getD i d0).sy.Nodup := fun i hi => (List.pairwise_flatMap.1 hnd).1 i (av_mem.1 hi)
  have inj : ∀ j j', j < (ordB cs).length → j' < (ordB cs).length → (ordB cs).getD j 0 = (ordB cs).getD j' 0 → j = j' := fun j j' h1 h3 e => by
    rw [List.getD_eq_getElem?_getD, List.getD_eq_getElem?_getD, List.getElem?_eq_getElem h1, List.getElem?_eq_getElem h3] at e
    exact (List.getElem_inj (ordB_nodup cs)).1 e
  have symem : ∀ j, j ∈ (ts.getD a d0).sy ++ (ts.getD b d0).sy → j < (ordB cs).length := fun j hj => by
    rcases List.mem_append.1 hj with h | h
    · exact syb a j pk.ava h
    · exact syb b j pk.avb h
  have hLn : (jsy cs (.node (ts.getD a d0) (ts.getD b d0))).Nodup := by
    unfold jsy
    simp only [Tr.sy]
    have h1 : ((ts.getD a d0).sy ++ (ts.getD b d0).sy).Nodup := by
      rw [List.nodup_append]
      exact ⟨one a pk.ava, one b pk.avb, fun u hu v hv e => pk.ne (apart a b u pk.ava pk.avb hu (by rw [e]; exact hv))⟩
    have : ∀ l : List Nat, l.Nodup → (∀ j ∈ l, j < (ordB cs).length) → (l.map fun j => (ordB cs).getD j 0).Nodup := by
      intro l
      induction l with
      | nil => intro _ _; exact List.nodup_nil
      | cons y r ih =>
        intro hn hb
        rw [List.nodup_cons] at hn
        rw [List.map_cons, List.nodup_cons]
        refine ⟨fun hm => ?_, ih hn.2 fun j hj => hb j (List.mem_cons_of_mem _ hj)⟩
        obtain ⟨z, hz, e⟩ := List.mem_map.1 hm
        have := inj z y (hb z (List.mem_cons_of_mem _ hz)) (hb y (List.mem_cons_self ..)) e
        subst this
        exact hn.1 hz
    exact this _ h1 symem
  have hLb : ∀ s ∈ jsy cs (.node (ts.getD a d0) (ts.getD b d0)), 0 ≤ s ∧ s < ((jrun cs k).2.length : Int) ∧ s ∈ posB cs := fun s hs => by
    unfold jsy at hs
    obtain ⟨j, hj, rfl⟩ := List.mem_map.1 hs
    have hjl := symem j hj
    have hp := ordB_mem.1 (getD_mem hjl)
    have := posB_mem hp
    rw [jlen]
    exact ⟨this.1, this.2.1, hp⟩
  have hget := incs_get (jsy cs (.node (ts.getD a d0) (ts.getD b d0))) (jrun cs k).2 hLn (fun s hs => ⟨(hLb s hs).1, (hLb s hs).2.1⟩)
  have hrun : jrun cs (k + 1) = (jR (jR (jrun cs k).1) ++ [jH (jrun cs k).1], incs (jrun cs k).2 (jH (jrun cs k).1).2) := rfl
  have hlen' : (x.step (wts cs).length).sm.length = x.sm.length + 1 := by rw [hsmn]; simp
  refine ⟨?_, ?_, ?_, ?_⟩
  · rw [hst, htt, ← hx, ← hts, hrun]
    dsimp only
    rw [p2.2, hH]
    unfold jlist
    rw [List.append_assoc]
    congr 1
    have mle := pk.mle
    rw [hlen', show x.sm.length + 1 - (x.step (wts cs).length).made = (x.sm.length - (x.step (wts cs).length).made) + 1 from by omega, List.range'_concat, List.map_append]
    congr 1
    · refine List.map_congr_left fun i hi => ?_
      rw [List.mem_range'_1] at hi
      rw [tl i (by omega), hsmn, getD_snoc_lt _ _ _ _ (by omega)]
    · simp only [List.map_cons, List.map_nil, Nat.one_mul]
      rw [show (x.step (wts cs).length).made + (x.sm.length - (x.step (wts cs).length).made) = x.sm.length from by omega, te, hsmn, getD_snoc_eq _ _ _ _ rfl]
  · rw [hrun]; simp [jlen]
  · rw [hst, htt, ← hx, ← hts, hrun]
    dsimp only
    rw [hH]
    dsimp only
    intro i hi j e hj
    rw [hget]
    have hav : i = x.sm.length ∨ (Av (wts cs).length x.sm.length x.leaf x.made i ∧ i ≠ a ∧ i ≠ b) := by
      rw [← pk.av' i]
      rw [hlen'] at hi
      unfold Av at hi ⊢
      omega
    rcases hav with rfl | ⟨hi1, hia, hib⟩
    · rw [te] at hj
      simp only [Tr.lv, List.mem_append] at hj
      have hin : j ∈ (ts.getD a d0).sy ++ (ts.getD b d0).sy := by
        rcases hj with hj | hj
        · exact List.mem_append_left _ (lv_mem_sy hj)
        · exact List.mem_append_right _ (lv_mem_sy hj)
      have hjl := symem j hin
      have hpos := posB_mem (ordB_mem.1 (getD_mem hjl))
      have hmem : (((ordB cs).getD j 0).toNat : Int) ∈ jsy cs (.node (ts.getD a d0) (ts.getD b d0)) := by
        rw [show (((ordB cs).getD j 0).toNat : Int) = (ordB cs).getD j 0 from by omega]
        exact List.mem_map.2 ⟨j, hin, rfl⟩
      rw [if_pos hmem]
      rcases hj with hj | hj
      · obtain ⟨e', rfl, he⟩ := lv_shift _ _ _ _ hj
        have := jdep a pk.ava j e' he; omega
      · obtain ⟨e', rfl, he⟩ := lv_shift _ _ _ _ hj
        have := jdep b pk.avb j e' he; omega
    · rw [tl i (avlt hi1)] at hj
      have hjs := lv_mem_sy hj
      have hjl := syb i j hi1 hjs
      have hpos := posB_mem (ordB_mem.1 (getD_mem hjl))
      have hmem : (((ordB cs).getD j 0).toNat : Int) ∉ jsy cs (.node (ts.getD a d0) (ts.getD b d0)) := fun hm => by
        rw [show (((ordB cs).getD j 0).toNat : Int) = (ordB cs).getD j 0 from by omega] at hm
        obtain ⟨j', hj', ee⟩ := List.mem_map.1 hm
        have hin : j' ∈ (ts.getD a d0).sy ++ (ts.getD b d0).sy := hj'
        have := inj j' j (symem j' hin) hjl ee
        subst this
        rcases List.mem_append.1 hin with h | h
        · exact hia (apart i a j' hi1 pk.ava hjs h)
        · exact hib (apart i b j' hi1 pk.avb hjs h)
      rw [if_neg hmem, jdep i hi1 j e hj]; omega
  · intro s hs
    rw [hrun]
    dsimp only
    rw [hH]
    dsimp only
    rw [hget, if_neg (fun h => hs (hLb _ h).2.2), jzero s hs]; omega

theorem jinv (cs : List Int) (h2 : 2 ≤ (ordB cs).length) : ∀ k, k + 1 ≤ (ordB cs).length → JInv cs k
  | 0, _ => jinv_init cs
  | k + 1, hk => jinv_step cs h2 k (by omega) (jinv cs h2 k (by omega))

/-- The joins give the lengths of the merge. -/
theorem joins_merge {cs : List Int} (h2 : 2 ≤ (ordB cs).length) : joinsB cs = mergeB cs := by
  have hw := wts_len cs
  have hJ := jinv cs h2 ((ordB cs).length - 1) (by omega)
  obtain ⟨hT, hsl⟩ := TOk.run (ws := wts cs) (by omega) (wts_pos cs) (wts_asc cs) ((ordB cs).length - 1) (by omega)
  have hm := mrg_of (ws := wts cs) (by omega) (wts_pos cs) (wts_asc cs)
  have hl := lgo_at (ordB cs) (deepB (wts cs)) (List.replicate cs.length 0) (ordB_nodup cs) (fun x hx => by have := posB_mem (ordB_mem.1 hx); simp; omega) (ordB cs).length (Nat.le_refl _)
  have hpl : (posB cs).length = (ordB cs).length := ((ordB_perm cs).length_eq).symm
  have e0 : joinsB cs = (jrun cs ((ordB cs).length - 1)).2 := by unfold joinsB; rw [hpl]
  rw [hw] at hm
  have la := hT.last (by omega)
  have lf := hT.ok.lf; have md := hT.ok.md; have sum := hT.ok.sum; have nm := hT.ok.nm
  have hav : Av (wts cs).length ((HSt.init (wts cs)).run (wts cs).length ((ordB cs).length - 1)).sm.length ((HSt.init (wts cs)).run (wts cs).length ((ordB cs).length - 1)).leaf ((HSt.init (wts cs)).run (wts cs).length ((ordB cs).length - 1)).made (2 * (ordB cs).length - 2) := by
    unfold Av; omega
  have hdep := hJ.dep _ hav
  rw [e0]
  apply List.ext_getElem
  · rw [hJ.len, mergeB_len]
  · intro s h1 h3
    have g1 : (jrun cs ((ordB cs).length - 1)).2[s] = (jrun cs ((ordB cs).length - 1)).2.getD s 0 := by rw [List.getD_eq_getElem?_getD, List.getElem?_eq_getElem h1]; rfl
    have g2 : (mergeB cs)[s] = (mergeB cs).getD s 0 := by rw [List.getD_eq_getElem?_getD, List.getElem?_eq_getElem h3]; rfl
    rw [g1, g2]
    by_cases hs : (s : Int) ∈ posB cs
    · obtain ⟨j, hj, e⟩ := List.getElem_of_mem (ordB_mem.2 hs)
      have eg : (ordB cs).getD j 0 = (s : Int) := by rw [List.getD_eq_getElem?_getD, List.getElem?_eq_getElem hj, e]; rfl
      have hjs : j ∈ ((trsB (wts cs) ((ordB cs).length - 1)).getD (2 * (ordB cs).length - 2) d0).sy := hm.sy.symm.subset (by rw [List.mem_range]; omega)
      rw [← Tr.lv_sy _ 0] at hjs
      obtain ⟨⟨j', d⟩, hp, e1⟩ := List.mem_map.1 hjs
      dsimp only at e1
      subst e1
      have d1 := hdep j' d hp
      have d2 := hl.1 j' hj
      rw [eg, Int.toNat_natCast] at d1 d2
      rw [d1, mergeB_big h2, d2, hm.dp j' d hp]
    · rw [hJ.zero s hs, mergeB_big h2, hl.2 s fun j hj e => ?_]
      · rw [List.getD_eq_getElem?_getD, List.getElem?_replicate]; split <;> rfl
      · refine hs ?_
        have hmem := ordB_mem.1 (getD_mem hj)
        have := posB_mem hmem
        rw [show (s : Int) = (ordB cs).getD j 0 from by omega]; exact hmem
end Eng
end Go.Proofs.Ytighkjohpmlemaa
