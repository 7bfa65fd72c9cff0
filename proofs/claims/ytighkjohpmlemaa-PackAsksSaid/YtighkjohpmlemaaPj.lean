/-
  Package pack: token.
-/
import Derived.Test.YtighkjohpmlemaaPi
import Derived.Laws.ResultCell
namespace Go.Proofs.Ytighkjohpmlemaa
open Go.RowKit
namespace Eng
theorem tretc2 {env : Env} {w : World} {fn : Func} {R : Value → World → Prop} {k : List It} {t u : Tmp} {bt tt : TypeId} {g : Nat} {cs : Array Value} {v' : Value} (hr : fn.results = #[.cell t tt, .tmp u]) (hv : look env t = some (.pointer (some ⟨g, 0, none⟩))) (hu : look env u = some v') (hB : Blk w g bt cs) (ht : get l_agg tt = some cs.size) (h : R (.tuple #[.agg cs, v']) w) :
    T Try.prog fn R (.code .ret :: k) env w := fun a ha => by
  refine wp_ret (sem_ret (show bodyPost Try.prog fn (Ret R) .ret a w from ⟨ha.1, .tuple #[.agg cs, v'], ?_, _, rfl, h⟩) k)
  have hp' : a.tmps[t]?.getD undef = .pointer (some ⟨g, 0, none⟩) := by rw [ha.2.2 t _ hv]; rfl
  have hu' : a.tmps[u]?.getD undef = v' := by rw [ha.2.2 u _ hu]; rfl
  simp [results, hr, hp', hu', asAddr, ld_row hB ht]

attribute [local irreducible] xs T

theorem symGo_le : ∀ (zs : List Int) (l : Int) (k i : Nat), symGo zs l k i ≤ i + zs.length
  | [], l, k, i => by simp [symGo]
  | z :: r, l, k, i => by
    rw [List.length_cons]
    by_cases hz : z = l
    · cases k with
      | zero => simp [symGo, hz]
      | succ k => have := symGo_le r l k (i + 1); simp only [symGo, hz, if_true]; omega
    · have := symGo_le r l k (i + 1)
      have e : symGo (z :: r) l k i = symGo r l k (i + 1) := by cases k <;> simp [symGo, hz]
      rw [e]; omega
/-- The bits' bytes lie in no block of ints. -/
theorem InR.st {w w' : World} {g q p : Nat} {zs : List Int} {t : TypeId} {cs : Array Value} (h : InR w g zs p) (hB : Blk w q t cs) (hcs : ∀ (i : Nat) (u : Value), cs[i]? = some u → ∃ z, u = .int .i64 z) (hF : Fr (· = q) w w') (hq : g ≠ q) : InR w' g zs p := by
  obtain ⟨⟨v, h1, h2, h3⟩, h4, h5⟩ := h
  refine ⟨⟨v, h1.fr hF hq, ?_, h3⟩, h4, h5⟩
  cases zs with
  | nil => obtain ⟨A, c, rfl, hc, hcm, hA⟩ := h2; exact ⟨A, c, rfl, hc, hcm, fun hh => absurd hh (by simp)⟩
  | cons z r =>
    refine Row.fr h2 hF fun b hb e => ?_
    obtain ⟨A, c, rfl, hc, hcm, hA⟩ := h2
    obtain ⟨b', o, rfl, hlt, hcl⟩ := hA (by simp)
    have hb' : (some b' : Option Nat) = some b := hb
    injection hb' with hb'
    have e' : b = q := e
    subst hb' e'
    have := hcl 0 (.int .u8 z) (by simp)
    rw [hB.cell] at this
    obtain ⟨z', hz'⟩ := hcs _ _ this
    cases hz'
theorem InR.above {S : Nat → Prop} {w w' : World} {g p : Nat} {zs : List Int} (h : InR w g zs p) (hf : Fr S w w') (hS : ∀ b, b ≤ g → ¬ S b) : InR w' g zs p := by
  obtain ⟨⟨v, h1, h2, h3⟩, h4, h5⟩ := h
  exact ⟨⟨v, h1.fr hf (hS g (Nat.le_refl _)), Row.fr h2 hf fun b hb => hS b (Nat.le_of_lt (h3 b hb)), h3⟩, h4, h5⟩
theorem tkC_i64 (t : Tkn) : ∀ (i : Nat) (u : Value), (tkC t).toArray[i]? = some u → ∃ z, u = .int .i64 z := fun i u h => by
  match i, h with
  | 0, h => exact ⟨t.lit, by injection h with h; exact h.symm⟩
  | 1, h => exact ⟨t.back, by injection h with h; exact h.symm⟩
  | 2, h => exact ⟨t.long, by injection h with h; exact h.symm⟩
  | i + 3, h => simp [tkC] at h
theorem getGo_bd (zs ys : List Int) (top : Nat) : ∀ f p long code, 0 ≤ (getGo zs ys top f p long code).1 ∧ (getGo zs ys top f p long code).1 ≤ zs.length
  | 0, p, long, code => by simp [getGo]
  | f + 1, p, long, code => by
    have ih := getGo_bd zs ys top f (p + 1) (long + 1) (2 * code + bitAt ys p)
    unfold getGo
    split
    · simp
    · split
      · have h2 := symGo_le zs ((long + 1 : Nat) : Int) (2 * code + bitAt ys p - firstB zs (long + 1)) 0
        unfold symB
        exact ⟨by dsimp only; omega, by dsimp only; omega⟩
      · split
        · exact ih
        · simp
theorem getB_bd (zs ys : List Int) (p : Nat) : 0 ≤ (getB zs ys p).1 ∧ (getB zs ys p).1 ≤ zs.length := getGo_bd zs ys _ _ _ _ _

set_option maxRecDepth 20000 in
set_option maxHeartbeats 4000000 in
theorem token_does (w : World) (gi : Nat) (v : Value) (lens ys : List Int) (p : Nat) (hi : InR w gi ys p) (hv : IRow w v lens) (hg : v.ownBlock ≠ some gi) (hl : lens.length ≤ 1000) (hy : ys.length ≤ 2 ^ 40) :
    Does Try.prog 90 #[.pointer (some ⟨gi, 0, none⟩), v] w fun r w' => Fr (· = gi) w w' ∧ match tokB lens ys p with
      | none => r = .tuple #[.agg (tkC ⟨0, 0, 0⟩).toArray, .bool false]
      | some (t, p') => r = .tuple #[.agg (tkC t).toArray, .bool true] ∧ InR w' gi ys p' := by
  refine does2 Try.func90 rfl (by kernel_rfl) ?_
  have hgl := hi.lt
  refine goL ?_
  refine xalloc (z := .agg #[.int .i64 0, .int .i64 0, .int .i64 0]) (by kernel_rfl) (fun w1 hB1 hE1 hs1 => ?_)
  refine goL ?_
  unfold tokB
  cases hok : okGet lens with
  | false =>
    rw [if_pos rfl]
    refine xcall rfl rfl (hget_no w1 gi _ lens (hv.ext hE1) hl hok) (fun r w2 h2 => ?_)
    obtain ⟨rfl, hE2⟩ := h2
    refine goL ?_
    refine xbd (cells := #[.int .i64 0, .int .i64 0, .int .i64 0]) rfl (by kernel_rfl) ?_
    refine xsta (cs := (tkC ⟨0, 0, 0⟩).toArray) (hB1.ext hE2) rfl rfl rfl rfl (tkC_all _) (fun w3 hB3 hF3 => ?_)
    refine goL ?_
    exact tretc2 rfl rfl rfl hB3 rfl ⟨(Ext.fr (hE1.t hE2)).trans hF3 fun j hj e => by have e' : j = w.heap.size := e; omega, rfl⟩
  | true =>
    rw [if_neg (by decide)]
    have hbd := getB_bd lens ys p
    refine xcall rfl rfl (hget_does w1 gi _ lens ys p (hi.ext hE1) (hv.ext hE1) hg hok hy) (fun r w2 h2 => ?_)
    obtain ⟨rfl, hin2, hF2⟩ := h2
    have hB2 := hB1.fr hF2 (by show ¬ w.heap.size = gi; omega)
    have hF02 : Fr (· = gi) w w2 := (Ext.fr hE1).t hF2
    by_cases he : (getB lens ys p).2.1 ≠ 0
    · rw [if_pos he]
      refine goL ?_
      refine xbd (cells := #[.int .i64 0, .int .i64 0, .int .i64 0]) rfl (by kernel_rfl) ?_
      refine xsta (cs := (tkC ⟨0, 0, 0⟩).toArray) hB2 rfl rfl rfl rfl (tkC_all _) (fun w3 hB3 hF3 => ?_)
      refine goL ?_
      exact tretc2 rfl rfl rfl hB3 rfl ⟨hF02.trans hF3 fun j hj e => by have e' : j = w.heap.size := e; omega, rfl⟩
    rw [if_neg he]
    by_cases h256 : (getB lens ys p).1 < 256
    · rw [if_pos h256]
      refine goL ?_
      refine xbd (cells := #[.int .i64 (getB lens ys p).1, .int .i64 0, .int .i64 0]) rfl (by kernel_rfl) ?_
      refine xsta (cs := (tkC ⟨(getB lens ys p).1, 0, 0⟩).toArray) hB2 rfl rfl rfl rfl (tkC_all _) (fun w3 hB3 hF3 => ?_)
      refine goL ?_
      refine tretc2 rfl rfl rfl hB3 rfl ⟨hF02.trans hF3 fun j hj e => by have e' : j = w.heap.size := e; omega, rfl, ?_⟩
      exact hin2.st hB2 (tkC_i64 ⟨0, 0, 0⟩) hF3 (by omega)
    rw [if_neg h256]
    refine goL ?_
    refine xcall rfl rfl (get_does w2 gi ys _ 10 hin2 (by decide) hy) (fun r w3 h3 => ?_)
    rcases h3 with ⟨hc, rfl, hin3, hF3⟩ | ⟨hc, rfl, hin3, hF3⟩
    · rw [if_pos hc]
      have hB3 := hB2.fr hF3 (by show ¬ w.heap.size = gi; omega)
      refine goL ?_
      refine xbd (cells := #[.int .i64 0, .int .i64 0, .int .i64 0]) rfl (by kernel_rfl) ?_
      refine xsta (cs := (tkC ⟨0, 0, 0⟩).toArray) hB3 rfl rfl rfl rfl (tkC_all _) (fun w4 hB4 hF4 => ?_)
      refine goL ?_
      exact tretc2 rfl rfl rfl hB4 rfl ⟨(hF02.t hF3).trans hF4 fun j hj e => by have e' : j = w.heap.size := e; omega, rfl⟩
    · rw [if_neg (by omega)]
      have hB3 := hB2.fr hF3 (by show ¬ w.heap.size = gi; omega)
      have hv10 : val (unpk ys (getB lens ys p).2.2 10) < 1024 := by
        have := val_lt (bits_unpk ys (getB lens ys p).2.2 10)
        rw [length_unpk] at this
        exact this
      repeat' (first | refine xcvi rfl rfl rfl (by omega) (by omega) ?_ | refine go1L ?_ | fail)
      refine xbd (cells := #[.int .i64 (-1), .int .i64 ((val (unpk ys (getB lens ys p).2.2 10) : Int) + 1), .int .i64 ((getB lens ys p).1 - 256 + 3)]) rfl (by kernel_rfl) ?_
      refine xsta (cs := (tkC ⟨-1, (val (unpk ys (getB lens ys p).2.2 10) : Int) + 1, (getB lens ys p).1 - 256 + 3⟩).toArray) hB3 rfl rfl rfl rfl (tkC_all _) (fun w4 hB4 hF4 => ?_)
      refine goL ?_
      refine tretc2 rfl rfl rfl hB4 rfl ⟨(hF02.t hF3).trans hF4 fun j hj e => by have e' : j = w.heap.size := e; omega, rfl, ?_⟩
      exact hin3.st hB3 (tkC_i64 ⟨0, 0, 0⟩) hF4 (by omega)
end Eng
end Go.Proofs.Ytighkjohpmlemaa
