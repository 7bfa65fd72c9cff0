/-
  Plain law: the trees of a merge: weights, heights, depths.
-/
import Derived.Test.YtighkjohpmlemaaQue
namespace Go.Proofs.Ytighkjohpmlemaa
open Go.RowKit
namespace Eng

inductive Tr where
  | leaf (i : Nat)
  | node (a b : Tr)

def fibo : Nat → Int
  | 0 => 1
  | 1 => 2
  | k + 2 => fibo (k + 1) + fibo k

namespace Tr
def h : Tr → Nat
  | .leaf _ => 0
  | .node a b => max a.h b.h + 1
def w (ws : List Int) : Tr → Int
  | .leaf i => ws.getD i 0
  | .node a b => a.w ws + b.w ws
def sy : Tr → List Nat
  | .leaf i => [i]
  | .node a b => a.sy ++ b.sy
/-- The leaves, each with its depth; the root's is d. -/
def lv (d : Nat) : Tr → List (Nat × Nat)
  | .leaf i => [(i, d)]
  | .node a b => a.lv (d + 1) ++ b.lv (d + 1)
def ok (ws : List Int) : Tr → Prop
  | .leaf i => 1 ≤ ws.getD i 0
  | .node a b => a.ok ws ∧ b.ok ws ∧ fibo (max a.h b.h + 1) ≤ a.w ws + b.w ws

theorem lv_sy : ∀ (t : Tr) (d : Nat), (t.lv d).map (·.1) = t.sy
  | .leaf _, _ => rfl
  | .node a b, d => by simp only [lv, sy, List.map_append, lv_sy a, lv_sy b]
theorem lv_bd : ∀ (t : Tr) (d j e : Nat), (j, e) ∈ t.lv d → d ≤ e ∧ e ≤ d + t.h
  | .leaf i, d, j, e, h => by
    simp only [lv, List.mem_singleton, Prod.mk.injEq] at h
    simp only [Tr.h]; omega
  | .node a b, d, j, e, h => by
    simp only [lv, List.mem_append] at h
    simp only [Tr.h]
    rcases h with h | h
    · have := lv_bd a _ _ _ h; omega
    · have := lv_bd b _ _ _ h; omega
theorem lv_top : ∀ (t : Tr) (d : Nat), ∃ j, (j, d + t.h) ∈ t.lv d
  | .leaf i, d => ⟨i, by simp [lv, Tr.h]⟩
  | .node a b, d => by
    obtain ⟨j, hj⟩ := lv_top a (d + 1)
    obtain ⟨j', hj'⟩ := lv_top b (d + 1)
    simp only [Tr.h, lv, List.mem_append]
    rcases Nat.le_total a.h b.h with hh | hh
    · refine ⟨j', .inr ?_⟩
      rw [Nat.max_eq_right hh, show d + (b.h + 1) = d + 1 + b.h from by omega]; exact hj'
    · refine ⟨j, .inl ?_⟩
      rw [Nat.max_eq_left hh, show d + (a.h + 1) = d + 1 + a.h from by omega]; exact hj
theorem kraft (H : Nat) : ∀ (t : Tr) (d : Nat), d + t.h ≤ H → ((t.lv d).map fun p => 2 ^ (H - p.2)).sum = 2 ^ (H - d)
  | .leaf i, d, _ => by simp [lv]
  | .node a b, d, hh => by
    simp only [Tr.h] at hh
    simp only [lv, List.map_append, List.sum_append]
    rw [kraft H a (d + 1) (by omega), kraft H b (d + 1) (by omega), show H - d = (H - (d + 1)) + 1 from by omega, Nat.pow_succ]
    omega
theorem ok_fib (ws : List Int) : ∀ t : Tr, t.ok ws → fibo t.h ≤ t.w ws
  | .leaf _, h => h
  | .node _ _, h => h.2.2
theorem ok_pos {ws : List Int} : ∀ t : Tr, t.ok ws → 1 ≤ t.w ws
  | .leaf _, h => h
  | .node a b, h => by
    have := ok_pos a h.1
    have := ok_pos b h.2.1
    simp only [w]; omega
theorem sy_pos : ∀ t : Tr, 0 < t.sy.length
  | .leaf _ => by simp [sy]
  | .node a b => by have := sy_pos a; simp [sy]; omega
end Tr

theorem fibo_pos : ∀ k, 1 ≤ fibo k
  | 0 => by simp [fibo]
  | 1 => by simp [fibo]
  | k + 2 => by have := fibo_pos k; have := fibo_pos (k + 1); simp only [fibo]; omega
theorem fibo_mono : ∀ {a b : Nat}, a ≤ b → fibo a ≤ fibo b := by
  intro a b h
  induction h with
  | refl => exact Int.le_refl _
  | step _ ih =>
    rename_i m _
    refine Int.le_trans ih ?_
    cases m with
    | zero => decide
    | succ m => have := fibo_pos m; simp only [fibo]; omega

/-- What is still there to take. -/
def Av (n len leaf made i : Nat) : Prop := (leaf ≤ i ∧ i < n) ∨ (made ≤ i ∧ i < len)

theorem take_min (n leaf made : Nat) (sm : List Int) (h1 : leaf ≤ n) (h2 : made ≤ sm.length) (h0 : n ≤ made) (h3 : leaf + made < n + sm.length)
    (hs : ∀ i j, i ≤ j → j < n → sm.getD i 0 ≤ sm.getD j 0) (hm : ∀ i j, n ≤ i → i ≤ j → j < sm.length → sm.getD i 0 ≤ sm.getD j 0) :
    Av n sm.length leaf made (takeI n leaf made sm) ∧ (∀ j, Av n sm.length leaf made j → sm.getD (takeI n leaf made sm) 0 ≤ sm.getD j 0) ∧
    ∀ j, Av n sm.length (takeL n leaf made sm) (takeM n leaf made sm) j ↔ Av n sm.length leaf made j ∧ j ≠ takeI n leaf made sm := by
  unfold takeI takeL takeM Av
  by_cases hT : takeB n leaf made sm = true
  · rw [if_pos hT, if_pos hT, if_pos hT]
    simp only [takeB, Bool.and_eq_true, Bool.or_eq_true, decide_eq_true_eq] at hT
    refine ⟨by omega, fun j hj => ?_, fun j => by omega⟩
    rcases hj with hj | hj
    · exact hs _ _ hj.1 hj.2
    · rcases hT.2 with h | h
      · omega
      · exact Int.le_trans h (hm _ _ h0 hj.1 hj.2)
  · rw [if_neg hT, if_neg hT, if_neg hT]
    simp only [takeB, Bool.and_eq_true, Bool.or_eq_true, decide_eq_true_eq, not_and, not_or] at hT
    have hml : made < sm.length := by
      by_cases hh : leaf < n
      · have := (hT hh).1; omega
      · omega
    refine ⟨by omega, fun j hj => ?_, fun j => by omega⟩
    rcases hj with hj | hj
    · have := (hT (by omega)).2
      have := hs _ _ hj.1 hj.2
      omega
    · exact hm _ _ h0 hj.1 hj.2

def d0 : Tr := .leaf 0
/-- Taken. -/
def Tk (n : Nat) (x : HSt) (i : Nat) : Prop := i < x.leaf ∨ (n ≤ i ∧ i < x.made)

structure TOk (ws : List Int) (x : HSt) (ts : List Tr) : Prop where
  ok : HOk ws.length x
  len : ts.length = x.sm.length
  n0 : ws.length ≤ x.sm.length
  wt : ∀ i, i < x.sm.length → x.sm.getD i 0 = (ts.getD i d0).w ws
  lf : ∀ i, i < ws.length → ts.getD i d0 = .leaf i
  asc : ∀ i j, ws.length ≤ i → i ≤ j → j < x.sm.length → x.sm.getD i 0 ≤ x.sm.getD j 0
  two : ∀ i j, Av ws.length x.sm.length x.leaf x.made i → Av ws.length x.sm.length x.leaf x.made j → i ≠ j → ∀ m, ws.length ≤ m → m < x.sm.length → x.sm.getD m 0 ≤ x.sm.getD i 0 + x.sm.getD j 0
  kid : ∀ i a b, Av ws.length x.sm.length x.leaf x.made i → ts.getD i d0 = .node a b → ∀ j, Av ws.length x.sm.length x.leaf x.made j → j ≠ i → a.w ws ≤ x.sm.getD j 0 ∧ b.w ws ≤ x.sm.getD j 0
  fib : ∀ i, i < x.sm.length → (ts.getD i d0).ok ws
  par : ∀ p, ws.length ≤ p → p < x.sm.length → ∃ i j, Tk ws.length x i ∧ Tk ws.length x j ∧ x.up.getD i 0 = p ∧ x.up.getD j 0 = p ∧ ts.getD p d0 = .node (ts.getD i d0) (ts.getD j d0)
  mono : ∀ i j, i ≤ j → (j < x.leaf ∨ ws.length ≤ i ∧ j < x.made) → x.up.getD i 0 ≤ x.up.getD j 0
  sys : ((List.range' x.leaf (ws.length - x.leaf) ++ List.range' x.made (x.sm.length - x.made)).flatMap fun i => (ts.getD i d0).sy).Perm (List.range ws.length)
  last : ws.length < x.sm.length → x.made < x.sm.length
  upn : ∀ i, Tk ws.length x i → (ws.length : Int) ≤ x.up.getD i 0

/-- The trees behind a step. -/
def tstep (n : Nat) (x : HSt) (ts : List Tr) : List Tr := ts ++ [.node (ts.getD (x.i1 n) d0) (ts.getD (x.i2 n) d0)]

theorem getD_snoc_lt {α : Type} (l : List α) (x d : α) (i : Nat) (h : i < l.length) : (l ++ [x]).getD i d = l.getD i d := by
  rw [List.getD_eq_getElem?_getD, List.getD_eq_getElem?_getD, List.getElem?_append_left h]
theorem getD_snoc_eq {α : Type} (l : List α) (x d : α) (i : Nat) (h : i = l.length) : (l ++ [x]).getD i d = x := by
  subst h; simp [List.getD_eq_getElem?_getD]

/-- What the step takes. -/
structure Pick (n : Nat) (x : HSt) (a b : Nat) : Prop where
  ava : Av n x.sm.length x.leaf x.made a
  avb : Av n x.sm.length x.leaf x.made b
  ne : a ≠ b
  mina : ∀ j, Av n x.sm.length x.leaf x.made j → x.sm.getD a 0 ≤ x.sm.getD j 0
  minb : ∀ j, Av n x.sm.length x.leaf x.made j → j ≠ a → x.sm.getD b 0 ≤ x.sm.getD j 0
  av' : ∀ j, Av n x.sm.length (x.step n).leaf (x.step n).made j ↔ Av n x.sm.length x.leaf x.made j ∧ j ≠ a ∧ j ≠ b
  tk : ∀ j, Tk n (x.step n) j ↔ Tk n x j ∨ j = a ∨ j = b
  mle : (x.step n).made ≤ x.sm.length

theorem TOk.leaves {ws : List Int} {x : HSt} {ts : List Tr} (h : TOk ws x ts) (hs : ∀ i j, i ≤ j → j < ws.length → ws.getD i 0 ≤ ws.getD j 0) : ∀ i j, i ≤ j → j < ws.length → x.sm.getD i 0 ≤ x.sm.getD j 0 := by
  intro i j hij hj
  have := h.n0
  rw [h.wt i (by omega), h.wt j (by omega), h.lf i (by omega), h.lf j hj]
  exact hs i j hij hj

theorem TOk.pick {ws : List Int} {x : HSt} {ts : List Tr} (h : TOk ws x ts) (hs : ∀ i j, i ≤ j → j < ws.length → ws.getD i 0 ≤ ws.getD j 0) (hb : x.sm.length + 2 ≤ 2 * ws.length) : Pick ws.length x (x.i1 ws.length) (x.i2 ws.length) := by
  have hl := h.leaves hs
  obtain ⟨n2, lf, md, nm, sum, big, ul, upr⟩ := h.ok
  have t1 := take_cases ws.length x.leaf x.made x.sm lf md (by omega)
  have m1 := take_min ws.length x.leaf x.made x.sm lf md nm (by omega) hl h.asc
  have e1 : takeI ws.length x.leaf x.made x.sm = x.i1 ws.length := rfl
  have e2 : takeL ws.length x.leaf x.made x.sm = x.l1 ws.length := rfl
  have e3 : takeM ws.length x.leaf x.made x.sm = x.m1 ws.length := rfl
  rw [e1, e2, e3] at t1 m1
  have t2 := take_cases ws.length (x.l1 ws.length) (x.m1 ws.length) x.sm (by omega) (by omega) (by omega)
  have m2 := take_min ws.length (x.l1 ws.length) (x.m1 ws.length) x.sm (by omega) (by omega) (by omega) (by omega) hl h.asc
  have e4 : takeI ws.length (x.l1 ws.length) (x.m1 ws.length) x.sm = x.i2 ws.length := rfl
  have e5 : takeL ws.length (x.l1 ws.length) (x.m1 ws.length) x.sm = (x.step ws.length).leaf := rfl
  have e6 : takeM ws.length (x.l1 ws.length) (x.m1 ws.length) x.sm = (x.step ws.length).made := rfl
  rw [e4, e5, e6] at t2 m2
  obtain ⟨a1, a2, a3⟩ := m1
  obtain ⟨b1, b2, b3⟩ := m2
  have b1' := (a3 _).1 b1
  refine ⟨a1, b1'.1, fun e => b1'.2 e.symm, a2, fun j hj hja => b2 j ((a3 j).2 ⟨hj, hja⟩), fun j => ?_, fun j => ?_, by omega⟩
  · rw [b3 j, a3 j]; exact ⟨fun hh => ⟨hh.1.1, hh.1.2, hh.2⟩, fun hh => ⟨⟨hh.1, hh.2.1⟩, hh.2.2⟩⟩
  · unfold Tk; omega

theorem range_take (leaf n : Nat) (h : leaf < n) : List.range' leaf (n - leaf) = leaf :: List.range' (leaf + 1) (n - (leaf + 1)) := by
  rw [show n - leaf = (n - (leaf + 1)) + 1 from by omega, List.range'_succ]

/-- The rows of what is there. -/
def avl (n len leaf made : Nat) : List Nat := List.range' leaf (n - leaf) ++ List.range' made (len - made)
theorem avl_take (n leaf made : Nat) (sm : List Int) (h1 : leaf ≤ n) (h2 : made ≤ sm.length) (h3 : leaf + made < n + sm.length) : (avl n sm.length leaf made).Perm (takeI n leaf made sm :: avl n sm.length (takeL n leaf made sm) (takeM n leaf made sm)) := by
  unfold avl
  rcases take_cases n leaf made sm h1 h2 h3 with ⟨e1, e2, e3, e4⟩ | ⟨e1, e2, e3, e4⟩
  · rw [e1, e2, e3, range_take leaf n e4]; exact List.Perm.refl _
  · rw [e1, e2, e3, range_take made sm.length e4]; exact List.perm_middle

theorem TOk.step {ws : List Int} {x : HSt} {ts : List Tr} (h : TOk ws x ts) (hs : ∀ i j, i ≤ j → j < ws.length → ws.getD i 0 ≤ ws.getD j 0) (hb : x.sm.length + 2 ≤ 2 * ws.length) : TOk ws (x.step ws.length) (tstep ws.length x ts) := by
  have pk := h.pick hs hb
  have ok' := h.ok.step hb
  obtain ⟨a, ha⟩ : ∃ a, a = x.i1 ws.length := ⟨_, rfl⟩
  obtain ⟨b, hb'⟩ : ∃ b, b = x.i2 ws.length := ⟨_, rfl⟩
  have hsm : (x.step ws.length).sm = x.sm ++ [x.sm.getD a 0 + x.sm.getD b 0] := by rw [ha, hb']; rfl
  have hup : (x.step ws.length).up = (x.up.set a (x.sm.length : Int)).set b (x.sm.length : Int) := by rw [ha, hb']; rfl
  have hts : tstep ws.length x ts = ts ++ [.node (ts.getD a d0) (ts.getD b d0)] := by rw [ha, hb']; rfl
  rw [← ha, ← hb'] at pk
  have hlen : (x.step ws.length).sm.length = x.sm.length + 1 := by rw [hsm]; simp
  have avlt : ∀ {j}, Av ws.length x.sm.length x.leaf x.made j → j < x.sm.length := fun {j} hj => by have := h.n0; unfold Av at hj; omega
  have hal := avlt pk.ava
  have hbl := avlt pk.avb
  have gl : ∀ i, i < x.sm.length → (x.step ws.length).sm.getD i 0 = x.sm.getD i 0 := fun i hi => by rw [hsm, getD_snoc_lt _ _ _ _ hi]
  have ge : (x.step ws.length).sm.getD x.sm.length 0 = x.sm.getD a 0 + x.sm.getD b 0 := by rw [hsm, getD_snoc_eq _ _ _ _ rfl]
  have tl : ∀ i, i < x.sm.length → (tstep ws.length x ts).getD i d0 = ts.getD i d0 := fun i hi => by rw [hts, getD_snoc_lt _ _ _ _ (by rw [h.len]; exact hi)]
  have te : (tstep ws.length x ts).getD x.sm.length d0 = .node (ts.getD a d0) (ts.getD b d0) := by rw [hts, getD_snoc_eq _ _ _ _ h.len.symm]
  have wa := h.wt a hal
  have wb := h.wt b hbl
  have oka := h.fib a hal
  have okb := h.fib b hbl
  have posa := Tr.ok_pos _ oka
  have posb := Tr.ok_pos _ okb
  have av2 : ∀ j, Av ws.length (x.step ws.length).sm.length (x.step ws.length).leaf (x.step ws.length).made j → j = x.sm.length ∨ (Av ws.length x.sm.length x.leaf x.made j ∧ j ≠ a ∧ j ≠ b) := fun j hj => by
    rw [← pk.av' j]
    rw [hlen] at hj
    unfold Av at hj ⊢
    omega
  have lasta : ∀ m, ws.length ≤ m → m < x.sm.length → x.sm.getD m 0 ≤ x.sm.getD a 0 + x.sm.getD b 0 := fun m h1 h2 => h.two a b pk.ava pk.avb pk.ne m h1 h2
  have n0 := h.n0
  have minb' : ∀ j, Av ws.length x.sm.length x.leaf x.made j → j ≠ a → x.sm.getD a 0 ≤ x.sm.getD j 0 ∧ x.sm.getD b 0 ≤ x.sm.getD j 0 := fun j hj hja => ⟨pk.mina j hj, pk.minb j hj hja⟩
  refine ⟨ok', by rw [hts, hlen]; simp [h.len], by omega, fun i hi => ?_, fun i hi => ?_, fun i j h1 h2 h3 => ?_, fun i j hi hj hij m h1 h2 => ?_, fun i ta tb hi he j hj hij => ?_, fun i hi => ?_, fun p h1 h2 => ?_, fun i j h1 h2 => ?_, ?_, fun _ => by have := pk.mle; omega, fun i hi => ?_⟩
  · by_cases hi' : i < x.sm.length
    · rw [gl i hi', tl i hi']; exact h.wt i hi'
    · obtain rfl : i = x.sm.length := by omega
      rw [ge, te]; simp only [Tr.w]; omega
  · rw [tl i (by omega)]; exact h.lf i hi
  · by_cases h3' : j < x.sm.length
    · rw [gl i (by omega), gl j h3']; exact h.asc i j h1 h2 h3'
    · obtain rfl : j = x.sm.length := by omega
      rw [ge]
      by_cases h4 : i < x.sm.length
      · rw [gl i h4]; exact lasta i h1 h4
      · obtain rfl : i = x.sm.length := by omega
        rw [ge]; omega
  · have hi' := av2 i hi
    have hj' := av2 j hj
    have key : (x.step ws.length).sm.getD m 0 ≤ x.sm.getD a 0 + x.sm.getD b 0 := by
      by_cases h4 : m < x.sm.length
      · rw [gl m h4]; exact lasta m h1 h4
      · obtain rfl : m = x.sm.length := by omega
        rw [ge]; omega
    rcases hi' with rfl | ⟨hi1, hi2, hi3⟩
    · rcases hj' with rfl | ⟨hj1, hj2, hj3⟩
      · exact absurd rfl hij
      · have := minb' j hj1 hj2
        rw [ge, gl j (avlt hj1)]; omega
    · rcases hj' with rfl | ⟨hj1, hj2, hj3⟩
      · have := minb' i hi1 hi2
        rw [ge, gl i (avlt hi1)]; omega
      · have := minb' j hj1 hj2
        have := minb' i hi1 hi2
        rw [gl i (avlt hi1), gl j (avlt hj1)]; omega
  · have hi' := av2 i hi
    have hj' := av2 j hj
    rcases hi' with rfl | ⟨hi1, hi2, hi3⟩
    · rw [te] at he
      injection he with e1 e2
      subst e1; subst e2
      rcases hj' with rfl | ⟨hj1, hj2, hj3⟩
      · exact absurd rfl hij
      · have := minb' j hj1 hj2
        rw [gl j (avlt hj1)]; omega
    · rw [tl i (avlt hi1)] at he
      rcases hj' with rfl | ⟨hj1, hj2, hj3⟩
      · have := h.kid i ta tb hi1 he a pk.ava (fun e => hi2 e.symm)
        rw [ge]; omega
      · have := h.kid i ta tb hi1 he j hj1 hij
        rw [gl j (avlt hj1)]; exact this
  · by_cases hi' : i < x.sm.length
    · rw [tl i hi']; exact h.fib i hi'
    · obtain rfl : i = x.sm.length := by omega
      rw [te]
      refine ⟨oka, okb, ?_⟩
      have fa := Tr.ok_fib ws _ oka
      have fb := Tr.ok_fib ws _ okb
      have key : ∀ (s t : Tr), s.ok ws → t.ok ws → t.h ≤ s.h → (∀ u v, s = .node u v → u.w ws ≤ t.w ws ∧ v.w ws ≤ t.w ws) → fibo (s.h + 1) ≤ s.w ws + t.w ws := by
        intro s t hs ht hle hk
        have p1 := Tr.ok_pos s hs
        have p2 := Tr.ok_pos t ht
        cases s with
        | leaf i => show (2 : Int) ≤ _; omega
        | node u v =>
          have hk' := hk u v rfl
          have f1 := Tr.ok_fib ws _ hs
          have hu := Tr.ok_fib ws u hs.1
          have hv := Tr.ok_fib ws v hs.2.1
          have e : (Tr.node u v).h = max u.h v.h + 1 := rfl
          rw [e] at f1 ⊢
          simp only [fibo]
          rcases Nat.le_total u.h v.h with hh | hh
          · rw [Nat.max_eq_right hh] at f1 ⊢; omega
          · rw [Nat.max_eq_left hh] at f1 ⊢; omega
      rcases Nat.le_total (ts.getD b d0).h (ts.getD a d0).h with hh | hh
      · rw [Nat.max_eq_left hh]
        refine key _ _ oka okb hh fun u v e => ?_
        have := h.kid a u v pk.ava e b pk.avb (fun e => pk.ne e.symm)
        rw [wb] at this; exact this
      · rw [Nat.max_eq_right hh, Int.add_comm]
        refine key _ _ okb oka hh fun u v e => ?_
        have := h.kid b u v pk.avb e a pk.ava pk.ne
        rw [wa] at this; exact this
  · have ul := h.ok.ul
    have tkn : ∀ i, Tk ws.length x i → i ≠ a ∧ i ≠ b ∧ i < x.sm.length := fun i hi => by
      have h1 := pk.ava; have h2 := pk.avb; have h3 := h.ok.lf; have h4 := h.ok.nm; have h5 := h.ok.md
      unfold Tk at hi; unfold Av at h1 h2; omega
    by_cases h2' : p < x.sm.length
    · obtain ⟨i, j, hi, hj, ui, uj, ht⟩ := h.par p h1 h2'
      have ni := tkn i hi
      have nj := tkn j hj
      refine ⟨i, j, (pk.tk i).2 (.inl hi), (pk.tk j).2 (.inl hj), ?_, ?_, ?_⟩
      · rw [hup, getD_set, getD_set, if_neg (by omega), if_neg (by omega)]; exact ui
      · rw [hup, getD_set, getD_set, if_neg (by omega), if_neg (by omega)]; exact uj
      · rw [tl p h2', tl i ni.2.2, tl j nj.2.2]; exact ht
    · obtain rfl : p = x.sm.length := by omega
      refine ⟨a, b, (pk.tk a).2 (.inr (.inl rfl)), (pk.tk b).2 (.inr (.inr rfl)), ?_, ?_, ?_⟩
      · rw [hup, getD_set, getD_set, List.length_set]
        split
        · rfl
        · rw [if_pos (by omega)]
      · rw [hup, getD_set, getD_set, List.length_set, if_pos (by omega)]
      · rw [te, tl a hal, tl b hbl]
  · have ul := h.ok.ul
    have hj' := pk.tk j
    have hi' := pk.tk i
    have h1a := pk.ava; have h2a := pk.avb; have h3a := h.ok.lf; have h4a := h.ok.nm; have h5a := h.ok.md
    have hup' : ∀ i, (x.step ws.length).up.getD i 0 = if i = a ∨ i = b then (x.sm.length : Int) else x.up.getD i 0 := fun i => by
      rw [hup, getD_set, getD_set, List.length_set]
      by_cases e1 : b = i
      · rw [if_pos (by omega), if_pos (by omega)]
      · rw [if_neg (by omega)]
        by_cases e2 : a = i
        · rw [if_pos (by omega), if_pos (by omega)]
        · rw [if_neg (by omega), if_neg (by omega)]
    rw [hup' i, hup' j]
    by_cases e1 : j = a ∨ j = b
    · rw [if_pos e1]
      by_cases e2 : i = a ∨ i = b
      · rw [if_pos e2]; omega
      · rw [if_neg e2]
        have hk : Tk ws.length x i := by
          have : Tk ws.length (x.step ws.length) i := by unfold Tk; have := ok'.nm; have := ok'.lf; omega
          exact (hi'.1 this).resolve_right e2
        have := (h.ok.upr i hk).2; omega
    · rw [if_neg e1]
      have hk : Tk ws.length x j := by
        have : Tk ws.length (x.step ws.length) j := by unfold Tk; omega
        exact (hj'.1 this).resolve_right e1
      have hk2 : i = a ∨ i = b → False := fun e2 => by
        unfold Tk at hk; unfold Av at h1a h2a; have := ok'.nm; have := ok'.lf; omega
      rw [if_neg hk2]
      refine h.mono i j h1 ?_
      unfold Tk at hk
      have := ok'.nm; have := ok'.lf
      omega
  · have lf := h.ok.lf; have md := h.ok.md; have sum := h.ok.sum; have nm := h.ok.nm
    have t1 := take_cases ws.length x.leaf x.made x.sm lf md (by omega)
    have p1 := avl_take ws.length x.leaf x.made x.sm lf md (by omega)
    have e2 : takeL ws.length x.leaf x.made x.sm = x.l1 ws.length := rfl
    have e3 : takeM ws.length x.leaf x.made x.sm = x.m1 ws.length := rfl
    have e1 : takeI ws.length x.leaf x.made x.sm = a := ha.symm
    rw [e1, e2, e3] at p1
    rw [e2, e3] at t1
    have p2 := avl_take ws.length (x.l1 ws.length) (x.m1 ws.length) x.sm (by omega) (by omega) (by omega)
    have e4 : takeI ws.length (x.l1 ws.length) (x.m1 ws.length) x.sm = b := hb'.symm
    have e5 : takeL ws.length (x.l1 ws.length) (x.m1 ws.length) x.sm = (x.step ws.length).leaf := rfl
    have e6 : takeM ws.length (x.l1 ws.length) (x.m1 ws.length) x.sm = (x.step ws.length).made := rfl
    rw [e4, e5, e6] at p2
    have mle := pk.mle
    have p3 : (avl ws.length x.sm.length x.leaf x.made).Perm (a :: b :: avl ws.length x.sm.length (x.step ws.length).leaf (x.step ws.length).made) := p1.trans (p2.cons a)
    have p4 := (List.Perm.flatMap_right (fun i => (ts.getD i d0).sy) p3).symm.trans h.sys
    refine List.Perm.trans ?_ p4
    have e7 : List.range' (x.step ws.length).made ((x.step ws.length).sm.length - (x.step ws.length).made) = List.range' (x.step ws.length).made (x.sm.length - (x.step ws.length).made) ++ [x.sm.length] := by
      rw [hlen, show x.sm.length + 1 - (x.step ws.length).made = (x.sm.length - (x.step ws.length).made) + 1 from by omega, List.range'_concat]
      congr 2; omega
    rw [e7, ← List.append_assoc, List.flatMap_append]
    have e8 : (avl ws.length x.sm.length (x.step ws.length).leaf (x.step ws.length).made).flatMap (fun i => ((tstep ws.length x ts).getD i d0).sy) = (avl ws.length x.sm.length (x.step ws.length).leaf (x.step ws.length).made).flatMap (fun i => (ts.getD i d0).sy) := by
      rw [List.flatMap_def, List.flatMap_def]
      congr 1
      refine List.map_congr_left fun i hi => ?_
      rw [tl i]
      unfold avl at hi
      rw [List.mem_append, List.mem_range'_1, List.mem_range'_1] at hi
      have := ok'.lf
      omega
    show (List.flatMap (fun i => ((tstep ws.length x ts).getD i d0).sy) (avl ws.length x.sm.length (x.step ws.length).leaf (x.step ws.length).made) ++ _).Perm _
    rw [e8]
    simp only [List.flatMap_cons, List.flatMap_nil, List.append_nil, te, Tr.sy]
    exact List.perm_append_comm.trans (by rw [List.append_assoc])
  · rw [hup, getD_set, getD_set]
    split
    · omega
    · split
      · omega
      · rename_i h1 h2
        have ul := h.ok.ul
        rw [List.length_set] at h1
        exact h.upn i (((pk.tk i).1 hi).resolve_right (by omega))

/-- The trees from the start on. -/
def trsB (ws : List Int) : Nat → List Tr
  | 0 => (List.range ws.length).map .leaf
  | k + 1 => tstep ws.length ((HSt.init ws).run ws.length k) (trsB ws k)

theorem flat_one (l : List Nat) (f : Nat → List Nat) (h : ∀ i ∈ l, f i = [i]) : l.flatMap f = l := by
  induction l with
  | nil => rfl
  | cons x r ih => rw [List.flatMap_cons, h x (List.mem_cons_self ..), ih fun i hi => h i (List.mem_cons_of_mem _ hi)]; rfl

theorem TOk.init {ws : List Int} (h2 : 2 ≤ ws.length) (hp : ∀ i, i < ws.length → 1 ≤ ws.getD i 0) : TOk ws (HSt.init ws) (trsB ws 0) := by
  have hg : ∀ i, i < ws.length → (trsB ws 0).getD i d0 = .leaf i := fun i hi => by
    simp [trsB, List.getD_eq_getElem?_getD, hi]
  have hl : (HSt.init ws).sm = ws := rfl
  have hle : (HSt.init ws).leaf = 0 := rfl
  have hma : (HSt.init ws).made = ws.length := rfl
  refine ⟨HOk.init h2, by simp [trsB, hl], by rw [hl]; omega, fun i hi => ?_, hg, fun i j h1 h2 h3 => ?_, fun i j _ _ _ m h1 h2 => ?_, fun i a b hi he => ?_, fun i hi => ?_, fun p h1 h2 => ?_, fun i j h1 h2 => ?_, ?_, fun hh => ?_, fun i hi => ?_⟩
  · rw [hl] at hi ⊢; rw [hg i hi]; rfl
  · rw [hl] at h3; omega
  · rw [hl] at h2; omega
  · rw [hl, hle, hma] at hi
    unfold Av at hi
    rw [hg i (by omega)] at he; cases he
  · rw [hl] at hi; rw [hg i hi]; exact hp i hi
  · rw [hl] at h2; omega
  · rw [hle, hma] at h2; omega
  · rw [hl, hle, hma, Nat.sub_self, Nat.sub_zero]
    simp only [List.range'_zero, List.append_nil]
    rw [flat_one _ _ fun i hi => by rw [List.mem_range'_1] at hi; rw [hg i (by omega)]; rfl, List.range_eq_range']
  · rw [hl] at hh; omega
  · unfold Tk at hi; rw [hle, hma] at hi; omega

theorem TOk.run {ws : List Int} (h2 : 2 ≤ ws.length) (hp : ∀ i, i < ws.length → 1 ≤ ws.getD i 0) (hs : ∀ i j, i ≤ j → j < ws.length → ws.getD i 0 ≤ ws.getD j 0) :
    ∀ k, k + 1 ≤ ws.length → TOk ws ((HSt.init ws).run ws.length k) (trsB ws k) ∧ ((HSt.init ws).run ws.length k).sm.length = ws.length + k
  | 0, _ => ⟨TOk.init h2 hp, rfl⟩
  | k + 1, hk => by
    obtain ⟨h1, h3⟩ := TOk.run h2 hp hs k (by omega)
    exact ⟨h1.step hs (by omega), ((HOk.init h2).run rfl (k + 1) hk).2⟩

/-- The depths that the code lays. -/
theorem dto_spec (up : List Int) (m : Nat) (hu : ∀ i, i < m → (i : Int) < up.getD i 0 ∧ up.getD i 0 ≤ m) : ∀ k, k ≤ m → (dto up m k).getD m 0 = 0 ∧ ∀ i, m - k ≤ i → i < m → (dto up m k).getD i 0 = (dto up m k).getD (up.getD i 0).toNat 0 + 1
  | 0, _ => ⟨by simp [dto, List.getD_eq_getElem?_getD], fun i h1 h2 => by omega⟩
  | k + 1, hk => by
    obtain ⟨h1, h2⟩ := dto_spec up m hu k (by omega)
    have hl := length_dto up m k
    refine ⟨?_, fun i h3 h4 => ?_⟩
    · simp only [dto]; rw [getD_set, if_neg (by omega)]; exact h1
    · simp only [dto]
      have hui := hu i h4
      rw [getD_set, getD_set]
      rw [if_neg (show ¬ (m - (k + 1) = (up.getD i 0).toNat ∧ m - (k + 1) < (dto up m k).length) from by omega)]
      by_cases e : m - (k + 1) = i
      · rw [if_pos (by omega), e]
      · rw [if_neg (by omega)]; exact h2 i (by omega) h4

/-- The tree of a merge. -/
structure Mrg (ws deep : List Int) (T : Tr) : Prop where
  ok : T.ok ws
  sy : T.sy.Perm (List.range ws.length)
  dp : ∀ j e, (j, e) ∈ T.lv 0 → deep.getD j 0 = (e : Int)
  h1 : 1 ≤ T.h
  mono : ∀ i j, i ≤ j → j < ws.length → deep.getD j 0 ≤ deep.getD i 0

theorem mrg_of {ws : List Int} (h2 : 2 ≤ ws.length) (hp : ∀ i, i < ws.length → 1 ≤ ws.getD i 0) (hs : ∀ i j, i ≤ j → j < ws.length → ws.getD i 0 ≤ ws.getD j 0) :
    Mrg ws (deepB ws) ((trsB ws (ws.length - 1)).getD (2 * ws.length - 2) d0) := by
  obtain ⟨h, hlen⟩ := TOk.run h2 hp hs (ws.length - 1) (by omega)
  obtain ⟨x, hx⟩ : ∃ x, x = (HSt.init ws).run ws.length (ws.length - 1) := ⟨_, rfl⟩
  obtain ⟨ts, hts⟩ : ∃ ts, ts = trsB ws (ws.length - 1) := ⟨_, rfl⟩
  have hd : deepB ws = dto x.up (2 * ws.length - 2) (2 * ws.length - 2) := by rw [hx]; rfl
  rw [← hts, ← hx] at h
  rw [← hx] at hlen
  rw [← hts, hd]
  have lf := h.ok.lf; have md := h.ok.md; have sum := h.ok.sum; have nm := h.ok.nm; have la := h.last (by omega); have upr := h.ok.upr
  obtain ⟨m, hm⟩ : ∃ m, m = 2 * ws.length - 2 := ⟨_, rfl⟩
  rw [← hm]
  have hu : ∀ i, i < m → (i : Int) < x.up.getD i 0 ∧ x.up.getD i 0 ≤ m := fun i hi => by have := upr i (by omega); omega
  obtain ⟨d1, d2⟩ := dto_spec x.up m hu m (Nat.le_refl _)
  obtain ⟨D, hD⟩ : ∃ D, D = dto x.up m m := ⟨_, rfl⟩
  rw [← hD] at d1 d2 ⊢
  have lv : ∀ p, p ≤ m → ∀ (d j e : Nat), (j, e) ∈ (ts.getD p d0).lv d → D.getD j 0 + d = D.getD p 0 + e := by
    intro p
    induction p using Nat.strongRecOn with
    | _ p ih =>
      intro hpm d j e hj
      by_cases hpn : p < ws.length
      · rw [h.lf p hpn] at hj
        simp only [Tr.lv, List.mem_singleton, Prod.mk.injEq] at hj
        obtain ⟨rfl, rfl⟩ := hj; rfl
      · obtain ⟨a, b, ta, tb, ua, ub, he⟩ := h.par p (by omega) (by omega)
        have ra := upr a ta
        have rb := upr b tb
        rw [he] at hj
        simp only [Tr.lv, List.mem_append] at hj
        have da := d2 a (by omega) (by omega)
        have db := d2 b (by omega) (by omega)
        rw [ua] at da
        rw [ub] at db
        simp only [Int.toNat_natCast] at da db
        rcases hj with hj | hj
        · have := ih a (by omega) (by omega) _ _ _ hj; omega
        · have := ih b (by omega) (by omega) _ _ _ hj; omega
  refine ⟨h.fib m (by omega), ?_, fun j e hj => ?_, ?_, ?_⟩
  · have := h.sys
    rw [show ws.length - x.leaf = 0 from by omega, show x.sm.length - x.made = 1 from by omega, show x.made = m from by omega] at this
    simpa using this
  · have := lv m (Nat.le_refl _) 0 j e hj; omega
  · obtain ⟨a, b, _, _, _, _, he⟩ := h.par m (by omega) (by omega)
    rw [he]; simp only [Tr.h]; omega
  · have nn : ∀ i, 0 ≤ D.getD i 0 := fun i => by rw [hD]; exact (dto_le x.up m m i).1
    have jn : ∀ t i j, m - j ≤ t → ws.length ≤ i → i ≤ j → j ≤ m → D.getD j 0 ≤ D.getD i 0 := by
      intro t
      induction t with
      | zero => intro i j h1 h2 h3 h4; obtain rfl : j = m := by omega
                rw [d1]; exact nn i
      | succ t ih =>
        intro i j h1 h2 h3 h4
        by_cases hj : j = m
        · subst hj; rw [d1]; exact nn i
        · rw [d2 i (by omega) (by omega), d2 j (by omega) (by omega)]
          have mo := h.mono i j h3 (by omega)
          have ri := upr i (by omega)
          have rj := upr j (by omega)
          have := ih (x.up.getD i 0).toNat (x.up.getD j 0).toNat (by omega) (by omega) (by omega) (by omega)
          omega
    intro i j h1 h2
    have hpar : ∀ i, i < ws.length → ws.length ≤ (x.up.getD i 0).toNat := fun i hi => by
      have := h.upn i (by unfold Tk; omega); omega
    rw [d2 i (by omega) (by omega), d2 j (by omega) (by omega)]
    have mo := h.mono i j h1 (by omega)
    have rj := upr j (by omega)
    have := jn m (x.up.getD i 0).toNat (x.up.getD j 0).toNat (by omega) (hpar i (by omega)) (by omega) (by omega)
    omega
end Eng
end Go.Proofs.Ytighkjohpmlemaa
