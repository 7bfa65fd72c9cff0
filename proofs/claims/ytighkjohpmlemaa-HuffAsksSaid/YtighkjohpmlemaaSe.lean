/-
  The library's stable sort of ints: merging two sorted parts in place, the rest.
-/
import Derived.Test.YtighkjohpmlemaaSd
namespace Go.Proofs.Ytighkjohpmlemaa
open Go.RowKit
namespace Eng

structure SymJ (A X Y mid : Nat) (w0 : World) (x : Nat × Nat) (w : World) : Prop where
  a : A ≤ x.1
  b : mid + (A + X) ≤ x.1 + (A + X + Y)
  c : x.1 ≤ x.2
  d : x.2 ≤ mid ∧ x.2 ≤ A + X ∧ (x.2 = mid ∨ x.2 = A + X)
  e : x.1 = A ∨ x.1 + (A + X + Y) = mid + (A + X)
  w : w0 = w

set_option maxRecDepth 20000 in
set_option maxHeartbeats 4000000 in
theorem smC (f : FuncId) (cap : Array Value) (D : Int → Prop) (c : Int → Int) (g n cp : Nat) (hl : n ≤ 100000) (w : World) (A X Y C : List Int) (hB : DB w g (A ++ X ++ Y ++ C)) (hn : n = A.length + X.length + Y.length + C.length) (hC : CmpOK g w f cap D c) (hD : ∀ x ∈ X ++ Y, D x)
    (hsX : X.Pairwise (lt c)) (hsY : Y.Pairwise (lt c)) (hst : ∀ x ∈ X, ∀ y ∈ Y, stb c x y) (hX0 : 0 < X.length) (hY0 : 0 < Y.length) (hX1 : ¬ X.length = 1) (hY1 : ¬ Y.length = 1) (IH : ∀ (w : World) (A X' Y' C : List Int), X'.length + Y'.length < X.length + Y.length → DB w g (A ++ X' ++ Y' ++ C) → n = A.length + X'.length + Y'.length + C.length → CmpOK g w f cap D c → (∀ x ∈ X' ++ Y', D x) →
    X'.Pairwise (lt c) → Y'.Pairwise (lt c) → (∀ x ∈ X', ∀ y ∈ Y', stb c x y) → 0 < X'.length → 0 < Y'.length → ∀ a m b : Int, a = A.length → m = A.length + X'.length → b = A.length + X'.length + Y'.length →
    Does Try.prog 94 #[.slice (some ⟨g, 0, none⟩) n cp, .int .i64 a, .int .i64 m, .int .i64 b, .func (.func f) #[] cap] w fun _ w' => ∃ Z, Z.Perm (X' ++ Y') ∧ Z.Pairwise (lt c) ∧ DB w' g (A ++ Z ++ C) ∧ Fr (· = g) w w') :
    Does Try.prog 94 #[.slice (some ⟨g, 0, none⟩) n cp, .int .i64 A.length, .int .i64 (A.length + X.length), .int .i64 (A.length + X.length + Y.length), .func (.func f) #[] cap] w fun _ w' => ∃ Z, Z.Perm (X ++ Y) ∧ Z.Pairwise (lt c) ∧ DB w' g (A ++ Z ++ C) ∧ Fr (· = g) w w' := by
  have gX := srt_get A X (Y ++ C) hsX
  have gY := srt_get (A ++ X) Y C hsY
  have mX := mem_get A X (Y ++ C)
  have mY := mem_get (A ++ X) Y C
  rw [← List.append_assoc] at gX mX
  simp only [List.length_append] at gY mY
  have hlen : (A ++ X ++ Y ++ C).length = n := by simp; omega
  refine does5 Try.func94 rfl (by kernel_rfl) ?_
  obtain ⟨mid, hmid⟩ : ∃ mid, mid = (2 * A.length + X.length + Y.length) / 2 := ⟨_, rfl⟩
  repeat' (refine tseq ?_)
  repeat' (first | refine xp rfl ?_ | refine xnil ?_ | refine xai rfl rfl rfl (by omega) (by omega) ?_ | refine xdi rfl rfl rfl (by omega) (by omega) (by omega) ?_ | refine xau rfl rfl rfl (by omega) (by omega) ?_ | refine xct rfl rfl rfl (by omega) ?_ | refine xcf rfl rfl rfl (by omega) ?_ | refine xgy rfl ?_ | refine xgn rfl ?_ | refine tct rfl ?_ | refine tcf rfl ?_ | refine tskip ?_ | refine treg (by kernel_rfl) ?_ | refine tdraw (by kernel_rfl) (by decide +kernel) ?_ | refine tblock ?_ | refine tblk ?_ | refine texit rfl ?_ | refine xixn rfl rfl rfl (by omega) ?_ | refine xld rfl rfl (by assumption) ?_)
  repeat' (refine tseq ?_)
  repeat' (first | refine xp rfl ?_ | refine xnil ?_ | refine xai rfl rfl rfl (by omega) (by omega) ?_ | refine xdi rfl rfl rfl (by omega) (by omega) (by omega) ?_ | refine xau rfl rfl rfl (by omega) (by omega) ?_ | refine xct rfl rfl rfl (by omega) ?_ | refine xcf rfl rfl rfl (by omega) ?_ | refine xgy rfl ?_ | refine xgn rfl ?_ | refine tct rfl ?_ | refine tcf rfl ?_ | refine tskip ?_ | refine treg (by kernel_rfl) ?_ | refine tdraw (by kernel_rfl) (by decide +kernel) ?_ | refine tblock ?_ | refine tblk ?_ | refine texit rfl ?_ | refine xixn rfl rfl rfl (by omega) ?_ | refine xld rfl rfl (by assumption) ?_)
  repeat' (refine tseq ?_)
  repeat' (first | refine xp rfl ?_ | refine xnil ?_ | refine xcvu rfl rfl rfl (by omega) (by omega) ?_ | refine xhalf rfl rfl (by kernel_rfl) ?_ | refine xcvi rfl rfl rfl (by omega) (by omega) ?_ | refine xai rfl rfl rfl (by omega) (by omega) ?_ | refine xdi rfl rfl rfl (by omega) (by omega) (by omega) ?_ | refine xau rfl rfl rfl (by omega) (by omega) ?_ | refine xct rfl rfl rfl (by omega) ?_ | refine xcf rfl rfl rfl (by omega) ?_ | refine xgy rfl ?_ | refine xgn rfl ?_ | refine tct rfl ?_ | refine tcf rfl ?_ | refine tskip ?_ | refine treg (by kernel_rfl) ?_ | refine tdraw (by kernel_rfl) (by decide +kernel) ?_ | refine tblock ?_ | refine tblk ?_ | refine texit rfl ?_ | refine xixn rfl rfl rfl (by omega) ?_ | refine xld rfl rfl (by assumption) ?_)
  repeat' (refine tseq ?_)
  repeat' (first | refine xp rfl ?_ | refine xnil ?_ | refine xai rfl rfl rfl (by omega) (by omega) ?_ | refine xdi rfl rfl rfl (by omega) (by omega) (by omega) ?_ | refine xau rfl rfl rfl (by omega) (by omega) ?_ | refine xct rfl rfl rfl (by omega) ?_ | refine xcf rfl rfl rfl (by omega) ?_ | refine xgy rfl ?_ | refine xgn rfl ?_ | refine tct rfl ?_ | refine tcf rfl ?_ | refine tskip ?_ | refine treg (by kernel_rfl) ?_ | refine tdraw (by kernel_rfl) (by decide +kernel) ?_ | refine tblock ?_ | refine tblk ?_ | refine texit rfl ?_ | refine xixn rfl rfl rfl (by omega) ?_ | refine xld rfl rfl (by assumption) ?_)
  repeat' (refine tseq ?_)
  repeat' (first | refine xp rfl ?_ | refine xnil ?_ | refine xai rfl rfl rfl (by omega) (by omega) ?_ | refine xdi rfl rfl rfl (by omega) (by omega) (by omega) ?_ | refine xau rfl rfl rfl (by omega) (by omega) ?_ | refine xct rfl rfl rfl (by omega) ?_ | refine xcf rfl rfl rfl (by omega) ?_ | refine xgy rfl ?_ | refine xgn rfl ?_ | refine tct rfl ?_ | refine tcf rfl ?_ | refine tskip ?_ | refine treg (by kernel_rfl) ?_ | refine tdraw (by kernel_rfl) (by decide +kernel) ?_ | refine tblock ?_ | refine tblk ?_ | refine texit rfl ?_ | refine xixn rfl rfl rfl (by omega) ?_ | refine xld rfl rfl (by assumption) ?_)
  refine tseq ?_
  refine tcut (α := Nat × Nat) (fun x => [(0, .slice (some ⟨g, 0, none⟩) n cp), (1, .int .i64 (A.length : Int)), (2, .int .i64 ((A.length : Int) + X.length)), (3, .int .i64 ((A.length : Int) + X.length + Y.length)), (4, .func (.func f) #[] cap), (18, .int .i64 (mid : Int)), (19, .int .i64 ((mid : Int) + A.length + X.length)), (20, .int .i64 (x.1 : Int)), (21, .int .i64 (x.2 : Int))]) (SymJ A.length X.length Y.length mid w) ?_ ?_
  · by_cases hmm : mid < A.length + X.length
    · repeat' (first | refine xp rfl ?_ | refine xnil ?_ | refine xai rfl rfl rfl (by omega) (by omega) ?_ | refine xdi rfl rfl rfl (by omega) (by omega) (by omega) ?_ | refine xau rfl rfl rfl (by omega) (by omega) ?_ | refine xct rfl rfl rfl (by omega) ?_ | refine xcf rfl rfl rfl (by omega) ?_ | refine xgy rfl ?_ | refine xgn rfl ?_ | refine tseq ?_ | refine tct rfl ?_ | refine tcf rfl ?_ | refine tskip ?_ | refine treg (by kernel_rfl) ?_ | refine tdraw (by kernel_rfl) (by decide +kernel) ?_ | refine tblock ?_ | refine tblk ?_ | refine texit rfl ?_ | refine xixn rfl rfl rfl (by omega) ?_ | refine xld rfl rfl (by assumption) ?_)
      exact tfin ⟨(mid + (A.length + X.length) - (A.length + X.length + Y.length), mid), sub ⟨rfl, rfl, rfl, rfl, rfl, ieq (by omega), ieq (by omega), ieq (by dsimp only; omega), ieq (by dsimp only; omega)⟩, by dsimp only; omega, by dsimp only; omega, by dsimp only; omega, by dsimp only; omega, by dsimp only; omega, rfl⟩
    · repeat' (first | refine xp rfl ?_ | refine xnil ?_ | refine xai rfl rfl rfl (by omega) (by omega) ?_ | refine xdi rfl rfl rfl (by omega) (by omega) (by omega) ?_ | refine xau rfl rfl rfl (by omega) (by omega) ?_ | refine xct rfl rfl rfl (by omega) ?_ | refine xcf rfl rfl rfl (by omega) ?_ | refine xgy rfl ?_ | refine xgn rfl ?_ | refine tseq ?_ | refine tct rfl ?_ | refine tcf rfl ?_ | refine tskip ?_ | refine treg (by kernel_rfl) ?_ | refine tdraw (by kernel_rfl) (by decide +kernel) ?_ | refine tblock ?_ | refine tblk ?_ | refine texit rfl ?_ | refine xixn rfl rfl rfl (by omega) ?_ | refine xld rfl rfl (by assumption) ?_)
      exact tfin ⟨(A.length, A.length + X.length), sub ⟨rfl, rfl, rfl, rfl, rfl, ieq (by omega), ieq (by omega), ieq (by dsimp only), ieq (by dsimp only; omega)⟩, by dsimp only; omega, by dsimp only; omega, by dsimp only; omega, by dsimp only; omega, by dsimp only; omega, rfl⟩
  rintro ⟨s0, r0⟩ w0 ⟨h0a, h0b, h0c, h0d, h0e, rfl⟩
  dsimp only at h0a h0b h0c h0d h0e
  repeat' (first | refine xp rfl ?_ | refine xnil ?_ | refine xai rfl rfl rfl (by omega) (by omega) ?_ | refine xdi rfl rfl rfl (by omega) (by omega) (by omega) ?_ | refine xau rfl rfl rfl (by omega) (by omega) ?_ | refine xct rfl rfl rfl (by omega) ?_ | refine xcf rfl rfl rfl (by omega) ?_ | refine xgy rfl ?_ | refine xgn rfl ?_ | refine tseq ?_ | refine tct rfl ?_ | refine tcf rfl ?_ | refine tskip ?_ | refine treg (by kernel_rfl) ?_ | refine tdraw (by kernel_rfl) (by decide +kernel) ?_ | refine tblock ?_ | refine tblk ?_ | refine texit rfl ?_ | refine xixn rfl rfl rfl (by omega) ?_ | refine xld rfl rfl (by assumption) ?_)
  refine tloop (α := Nat × Nat) (fun x => [(0, .slice (some ⟨g, 0, none⟩) n cp), (1, .int .i64 (A.length : Int)), (2, .int .i64 ((A.length : Int) + X.length)), (3, .int .i64 ((A.length : Int) + X.length + Y.length)), (4, .func (.func f) #[] cap), (18, .int .i64 (mid : Int)), (19, .int .i64 ((mid : Int) + A.length + X.length)), (20, .int .i64 (x.1 : Int)), (21, .int .i64 (x.2 : Int)), (22, .int .i64 ((mid : Int) + A.length + X.length - 1))]) (Bs (fun q => ¬ c ((A ++ X ++ Y ++ C).getD (mid + (A.length + X.length) - 1 - q) 0) < c ((A ++ X ++ Y ++ C).getD q 0)) s0 r0 (A ++ X ++ Y ++ C) g w) (fun x => x.2 - x.1) (s0, r0) (sub ⟨rfl, rfl, rfl, rfl, rfl, rfl, rfl, rfl, rfl, rfl⟩) ⟨hB, Fr.refl _ _, by dsimp only; omega, by dsimp only; omega, by dsimp only; omega, fun q _ _ => by dsimp only at *; omega, fun q _ _ => by dsimp only at *; omega⟩ ?_
  rintro ⟨i, j⟩ w1 ⟨hdb, hfr, hl1, hl2, hl3, hy, hno⟩
  dsimp only at *
  by_cases hij : i < j
  · repeat' (first | refine xp rfl ?_ | refine xnil ?_ | refine xcvu rfl rfl rfl (by omega) (by omega) ?_ | refine xhalf rfl rfl (by kernel_rfl) ?_ | refine xcvi rfl rfl rfl (by omega) (by omega) ?_ | refine xai rfl rfl rfl (by omega) (by omega) ?_ | refine xdi rfl rfl rfl (by omega) (by omega) (by omega) ?_ | refine xau rfl rfl rfl (by omega) (by omega) ?_ | refine xct rfl rfl rfl (by omega) ?_ | refine xcf rfl rfl rfl (by omega) ?_ | refine xgy rfl ?_ | refine xgn rfl ?_ | refine tseq ?_ | refine tct rfl ?_ | refine tcf rfl ?_ | refine tskip ?_ | refine treg (by kernel_rfl) ?_ | refine tdraw (by kernel_rfl) (by decide +kernel) ?_ | refine tblock ?_ | refine tblk ?_ | refine texit rfl ?_ | refine xixn rfl rfl rfl (by omega) ?_ | refine xld rfl rfl (by assumption) ?_)
    refine xisq (mid + (A.length + X.length) - 1 - (i + j) / 2) (mid + (A.length + X.length) - 1 - (i + j) / 2) rfl rfl rfl (by omega) (by omega) (by omega) ?_
    refine xldd hdb rfl rfl (by omega) ?_
    repeat' (first | refine xp rfl ?_ | refine xnil ?_ | refine xai rfl rfl rfl (by omega) (by omega) ?_ | refine xdi rfl rfl rfl (by omega) (by omega) (by omega) ?_ | refine xau rfl rfl rfl (by omega) (by omega) ?_ | refine xct rfl rfl rfl (by omega) ?_ | refine xcf rfl rfl rfl (by omega) ?_ | refine xgy rfl ?_ | refine xgn rfl ?_ | refine tseq ?_ | refine tct rfl ?_ | refine tcf rfl ?_ | refine tskip ?_ | refine treg (by kernel_rfl) ?_ | refine tdraw (by kernel_rfl) (by decide +kernel) ?_ | refine tblock ?_ | refine tblk ?_ | refine texit rfl ?_ | refine xixn rfl rfl rfl (by omega) ?_ | refine xld rfl rfl (by assumption) ?_)
    refine xisq ((i + j) / 2) ((i + j) / 2) rfl rfl rfl (by omega) (by omega) (by omega) ?_
    refine xldd hdb rfl rfl (by omega) ?_
    have hm2 := mX ((i + j) / 2) (by omega) (by omega)
    have hm3 := mY (mid + (A.length + X.length) - 1 - (i + j) / 2) (by omega) (by omega)
    refine xcmp ((hC.fr hfr).fr (Fr.drew _ _)) rfl rfl (hD _ (List.mem_append_right _ hm3)) (hD _ (List.mem_append_left _ hm2)) (fun z w5 hx5 hz => ?_)
    by_cases hlt : c ((A ++ X ++ Y ++ C).getD (mid + (A.length + X.length) - 1 - (i + j) / 2) 0) < c ((A ++ X ++ Y ++ C).getD ((i + j) / 2) 0)
    · have hz' := hz.2 hlt
      repeat' (first | refine xp rfl ?_ | refine xnil ?_ | refine xai rfl rfl rfl (by omega) (by omega) ?_ | refine xdi rfl rfl rfl (by omega) (by omega) (by omega) ?_ | refine xau rfl rfl rfl (by omega) (by omega) ?_ | refine xct rfl rfl rfl (by omega) ?_ | refine xcf rfl rfl rfl (by omega) ?_ | refine xgy rfl ?_ | refine xgn rfl ?_ | refine tseq ?_ | refine tct rfl ?_ | refine tcf rfl ?_ | refine tskip ?_ | refine treg (by kernel_rfl) ?_ | refine tdraw (by kernel_rfl) (by decide +kernel) ?_ | refine tblock ?_ | refine tblk ?_ | refine texit rfl ?_ | refine xixn rfl rfl rfl (by omega) ?_ | refine xld rfl rfl (by assumption) ?_)
      refine tfin ⟨(i, (i + j) / 2), sub ⟨rfl, rfl, rfl, rfl, rfl, rfl, rfl, rfl, ieq (by dsimp only; omega), rfl⟩, ⟨hdb.dr.ext hx5, hfr.d.te hx5, hl1, by dsimp only; omega, by dsimp only; omega, hy, fun q h1 h2 => ?_⟩, by dsimp only; omega⟩
      dsimp only at *
      by_cases e : q = (i + j) / 2
      · rw [e]; omega
      · have k1 := gX ((i + j) / 2) q (by omega) (by omega) (by omega)
        have k2 := gY (mid + (A.length + X.length) - 1 - q) (mid + (A.length + X.length) - 1 - (i + j) / 2) (by omega) (by omega) (by omega)
        unfold lt at k1 k2; omega
    · have hz' : ¬ z < 0 := fun h => hlt (hz.1 h)
      repeat' (first | refine xp rfl ?_ | refine xnil ?_ | refine xai rfl rfl rfl (by omega) (by omega) ?_ | refine xdi rfl rfl rfl (by omega) (by omega) (by omega) ?_ | refine xau rfl rfl rfl (by omega) (by omega) ?_ | refine xct rfl rfl rfl (by omega) ?_ | refine xcf rfl rfl rfl (by omega) ?_ | refine xgy rfl ?_ | refine xgn rfl ?_ | refine tseq ?_ | refine tct rfl ?_ | refine tcf rfl ?_ | refine tskip ?_ | refine treg (by kernel_rfl) ?_ | refine tdraw (by kernel_rfl) (by decide +kernel) ?_ | refine tblock ?_ | refine tblk ?_ | refine texit rfl ?_ | refine xixn rfl rfl rfl (by omega) ?_ | refine xld rfl rfl (by assumption) ?_)
      refine tfin ⟨((i + j) / 2 + 1, j), sub ⟨rfl, rfl, rfl, rfl, rfl, rfl, rfl, ieq (by dsimp only; omega), rfl, rfl⟩, ⟨hdb.dr.ext hx5, hfr.d.te hx5, by dsimp only; omega, by dsimp only; omega, hl3, fun q h1 h2 => ?_, hno⟩, by dsimp only; omega⟩
      dsimp only at *
      by_cases e : q = (i + j) / 2
      · rw [e]; exact hlt
      · have k1 := gX q ((i + j) / 2) (by omega) (by omega) (by omega)
        have k2 := gY (mid + (A.length + X.length) - 1 - (i + j) / 2) (mid + (A.length + X.length) - 1 - q) (by omega) (by omega) (by omega)
        unfold lt at k1 k2; omega
  · obtain rfl : i = j := by omega
    obtain ⟨X1, X2, rfl, hX1⟩ : ∃ P Q, X = P ++ Q ∧ P.length = i - A.length := ⟨X.take (i - A.length), X.drop (i - A.length), (List.take_append_drop _ _).symm, by rw [List.length_take]; omega⟩
    obtain ⟨Y1, Y2, rfl, hY1⟩ : ∃ P Q, Y = P ++ Q ∧ P.length = mid - i := ⟨Y.take (mid - i), Y.drop (mid - i), (List.take_append_drop _ _).symm, by rw [List.length_take]; omega⟩
    simp only [List.length_append] at *
    rw [List.pairwise_append] at hsX hsY
    -- what stands left is below what stands right
    have c1 : ∀ x ∈ X1, ∀ y ∈ Y2, lt c x y := by
      rcases List.eq_nil_or_concat X1 with rfl | ⟨X1, x, rfl⟩
      · simp
      rcases Y2 with _ | ⟨y, Y2⟩
      · simp
      rw [List.concat_eq_append] at *
      simp only [List.length_append, List.length_cons, List.length_nil] at *
      have k := hy (i - 1) (by omega) (by omega)
      have e1 := get_mid (A ++ X1) x (X2 ++ Y1 ++ (y :: Y2) ++ C) (i - 1) (by simp; omega)
      have e2 := get_mid (A ++ X1 ++ [x] ++ X2 ++ Y1) y (Y2 ++ C) (mid + (A.length + (X1.length + (0 + 1) + X2.length)) - 1 - (i - 1)) (by simp; omega)
      rw [show A ++ (X1 ++ [x] ++ X2) ++ (Y1 ++ y :: Y2) ++ C = (A ++ X1 ++ [x] ++ X2 ++ Y1) ++ y :: (Y2 ++ C) by simp, e2, show (A ++ X1 ++ [x] ++ X2 ++ Y1) ++ y :: (Y2 ++ C) = (A ++ X1) ++ x :: (X2 ++ Y1 ++ (y :: Y2) ++ C) by simp, e1] at k
      have := hst x (by simp) y (by simp)
      exact all_lt hsX.1 hsY.2.1 (by unfold stb at this; unfold lt; omega)
    have c2 : ∀ y ∈ Y1, ∀ x ∈ X2, lt c y x := by
      rcases List.eq_nil_or_concat Y1 with rfl | ⟨Y1, y, rfl⟩
      · simp
      rcases X2 with _ | ⟨x, X2⟩
      · simp
      rw [List.concat_eq_append] at *
      simp only [List.length_append, List.length_cons, List.length_nil] at *
      have k := hno i (by omega) (by omega)
      have e1 := get_mid (A ++ X1) x (X2 ++ (Y1 ++ [y] ++ Y2) ++ C) i (by simp; omega)
      have e2 := get_mid (A ++ X1 ++ [x] ++ X2 ++ Y1) y (Y2 ++ C) (mid + (A.length + (X1.length + (X2.length + 1))) - 1 - i) (by simp; omega)
      rw [show A ++ (X1 ++ x :: X2) ++ (Y1 ++ [y] ++ Y2) ++ C = (A ++ X1 ++ [x] ++ X2 ++ Y1) ++ y :: (Y2 ++ C) by simp, e2, show (A ++ X1 ++ [x] ++ X2 ++ Y1) ++ y :: (Y2 ++ C) = (A ++ X1) ++ x :: (X2 ++ (Y1 ++ [y] ++ Y2) ++ C) by simp, e1] at k
      exact all_lt hsY.1 hsX.2.1 (.inl (by omega))
    have hi : i = A.length + X1.length := by omega
    have hmd : mid = A.length + X1.length + Y1.length := by omega
    have hd1 : 0 < X1.length + Y1.length := by omega
    have hd2 : 0 < X2.length + Y2.length := by omega
    clear gX gY mX mY hy hno h0a h0b h0c h0d h0e hl1 hl2 hl3 hij hmid hlen
    subst hi; subst hmd
    repeat' (refine tseq ?_)
    repeat' (first | refine xp rfl ?_ | refine xnil ?_ | refine xai rfl rfl rfl (by omega) (by omega) ?_ | refine xdi rfl rfl rfl (by omega) (by omega) (by omega) ?_ | refine xau rfl rfl rfl (by omega) (by omega) ?_ | refine xct rfl rfl rfl (by omega) ?_ | refine xcf rfl rfl rfl (by omega) ?_ | refine xgy rfl ?_ | refine xgn rfl ?_ | refine tct rfl ?_ | refine tcf rfl ?_ | refine tskip ?_ | refine treg (by kernel_rfl) ?_ | refine tdraw (by kernel_rfl) (by decide +kernel) ?_ | refine tblock ?_ | refine tblk ?_ | refine texit rfl ?_ | refine xixn rfl rfl rfl (by omega) ?_ | refine xld rfl rfl (by assumption) ?_)
    refine tseq ?_
    repeat' (first | refine xp rfl ?_ | refine xnil ?_ | refine xai rfl rfl rfl (by omega) (by omega) ?_ | refine xdi rfl rfl rfl (by omega) (by omega) (by omega) ?_ | refine xau rfl rfl rfl (by omega) (by omega) ?_ | refine xct rfl rfl rfl (by omega) ?_ | refine xcf rfl rfl rfl (by omega) ?_ | refine xgy rfl ?_ | refine xgn rfl ?_ | refine tct rfl ?_ | refine tcf rfl ?_ | refine tskip ?_ | refine treg (by kernel_rfl) ?_ | refine tdraw (by kernel_rfl) (by decide +kernel) ?_ | refine tblock ?_ | refine tblk ?_ | refine texit rfl ?_ | refine xixn rfl rfl rfl (by omega) ?_ | refine xld rfl rfl (by assumption) ?_)
    refine tseq ?_
    refine tcut (α := Unit) (fun _ => [(0, .slice (some ⟨g, 0, none⟩) n cp), (1, .int .i64 (A.length : Int)), (3, .int .i64 ((A.length : Int) + (X1.length + X2.length) + (Y1.length + Y2.length))), (4, .func (.func f) #[] cap), (18, .int .i64 ((A.length : Int) + X1.length + Y1.length)), (20, .int .i64 ((A.length : Int) + X1.length)), (24, .int .i64 ((A.length : Int) + X1.length + Y1.length + X2.length))]) (fun _ w' => DB w' g (A ++ X1 ++ Y1 ++ X2 ++ Y2 ++ C) ∧ Fr (· = g) w w') ?_ ?_
    · by_cases hr : 0 < X2.length ∧ 0 < Y1.length
      · repeat' (first | refine xp rfl ?_ | refine xnil ?_ | refine xai rfl rfl rfl (by omega) (by omega) ?_ | refine xdi rfl rfl rfl (by omega) (by omega) (by omega) ?_ | refine xau rfl rfl rfl (by omega) (by omega) ?_ | refine xct rfl rfl rfl (by omega) ?_ | refine xcf rfl rfl rfl (by omega) ?_ | refine xgy rfl ?_ | refine xgn rfl ?_ | refine tseq ?_ | refine tct rfl ?_ | refine tcf rfl ?_ | refine tskip ?_ | refine treg (by kernel_rfl) ?_ | refine tdraw (by kernel_rfl) (by decide +kernel) ?_ | refine tblock ?_ | refine tblk ?_ | refine texit rfl ?_ | refine xixn rfl rfl rfl (by omega) ?_ | refine xld rfl rfl (by assumption) ?_)
        refine xcall (S := fun _ w' => DB w' g ((A ++ X1) ++ Y1 ++ X2 ++ (Y2 ++ C)) ∧ Fr (· = g) w1 w') rfl rfl (rotate_does w1 g n cp _ (A ++ X1) X2 Y1 (Y2 ++ C) (by simpa using hdb) (by simp only [List.length_append]; omega) hl _ _ _ (by simp) (by simp only [List.length_append]; omega) (by simp only [List.length_append]; omega) hr.1 hr.2) ?_
        rintro v w2 ⟨hd2, hf2⟩
        repeat' (first | refine xp rfl ?_ | refine xnil ?_ | refine xai rfl rfl rfl (by omega) (by omega) ?_ | refine xdi rfl rfl rfl (by omega) (by omega) (by omega) ?_ | refine xau rfl rfl rfl (by omega) (by omega) ?_ | refine xct rfl rfl rfl (by omega) ?_ | refine xcf rfl rfl rfl (by omega) ?_ | refine xgy rfl ?_ | refine xgn rfl ?_ | refine tseq ?_ | refine tct rfl ?_ | refine tcf rfl ?_ | refine tskip ?_ | refine treg (by kernel_rfl) ?_ | refine tdraw (by kernel_rfl) (by decide +kernel) ?_ | refine tblock ?_ | refine tblk ?_ | refine texit rfl ?_ | refine xixn rfl rfl rfl (by omega) ?_ | refine xld rfl rfl (by assumption) ?_)
        exact tfin ⟨(), sub ⟨rfl, rfl, ieq (by omega), rfl, ieq (by omega), ieq (by omega), ieq (by omega)⟩, by simpa using hd2, hfr.t hf2⟩
      · have hd2 : DB w1 g (A ++ X1 ++ Y1 ++ X2 ++ Y2 ++ C) := by
          have : X2 = [] ∨ Y1 = [] := by
            rcases X2 with _ | ⟨_, _⟩
            · exact .inl rfl
            · rcases Y1 with _ | ⟨_, _⟩
              · exact .inr rfl
              · exact absurd ⟨by simp, by simp⟩ hr
          rcases this with rfl | rfl <;> simpa using hdb
        by_cases hr2 : 0 < X2.length
        · repeat' (first | refine xp rfl ?_ | refine xnil ?_ | refine xai rfl rfl rfl (by omega) (by omega) ?_ | refine xdi rfl rfl rfl (by omega) (by omega) (by omega) ?_ | refine xau rfl rfl rfl (by omega) (by omega) ?_ | refine xct rfl rfl rfl (by omega) ?_ | refine xcf rfl rfl rfl (by omega) ?_ | refine xgy rfl ?_ | refine xgn rfl ?_ | refine tseq ?_ | refine tct rfl ?_ | refine tcf rfl ?_ | refine tskip ?_ | refine treg (by kernel_rfl) ?_ | refine tdraw (by kernel_rfl) (by decide +kernel) ?_ | refine tblock ?_ | refine tblk ?_ | refine texit rfl ?_ | refine xixn rfl rfl rfl (by omega) ?_ | refine xld rfl rfl (by assumption) ?_)
          exact tfin ⟨(), sub ⟨rfl, rfl, ieq (by omega), rfl, ieq (by omega), ieq (by omega), ieq (by omega)⟩, hd2, hfr⟩
        · repeat' (first | refine xp rfl ?_ | refine xnil ?_ | refine xai rfl rfl rfl (by omega) (by omega) ?_ | refine xdi rfl rfl rfl (by omega) (by omega) (by omega) ?_ | refine xau rfl rfl rfl (by omega) (by omega) ?_ | refine xct rfl rfl rfl (by omega) ?_ | refine xcf rfl rfl rfl (by omega) ?_ | refine xgy rfl ?_ | refine xgn rfl ?_ | refine tseq ?_ | refine tct rfl ?_ | refine tcf rfl ?_ | refine tskip ?_ | refine treg (by kernel_rfl) ?_ | refine tdraw (by kernel_rfl) (by decide +kernel) ?_ | refine tblock ?_ | refine tblk ?_ | refine texit rfl ?_ | refine xixn rfl rfl rfl (by omega) ?_ | refine xld rfl rfl (by assumption) ?_)
          exact tfin ⟨(), sub ⟨rfl, rfl, ieq (by omega), rfl, ieq (by omega), ieq (by omega), ieq (by omega)⟩, hd2, hfr⟩
    rintro _ w2 ⟨hd2, hfr2⟩
    refine tseq ?_
    refine tcut (α := List Int) (fun _ => [(0, .slice (some ⟨g, 0, none⟩) n cp), (3, .int .i64 ((A.length : Int) + (X1.length + X2.length) + (Y1.length + Y2.length))), (4, .func (.func f) #[] cap), (18, .int .i64 ((A.length : Int) + X1.length + Y1.length)), (24, .int .i64 ((A.length : Int) + X1.length + Y1.length + X2.length))]) (fun Z w' => Z.Perm (X1 ++ Y1) ∧ Z.Pairwise (lt c) ∧ DB w' g (A ++ Z ++ X2 ++ Y2 ++ C) ∧ Fr (· = g) w w') ?_ ?_
    · by_cases hr : 0 < X1.length ∧ 0 < Y1.length
      · repeat' (first | refine xp rfl ?_ | refine xnil ?_ | refine xai rfl rfl rfl (by omega) (by omega) ?_ | refine xdi rfl rfl rfl (by omega) (by omega) (by omega) ?_ | refine xau rfl rfl rfl (by omega) (by omega) ?_ | refine xct rfl rfl rfl (by omega) ?_ | refine xcf rfl rfl rfl (by omega) ?_ | refine xgy rfl ?_ | refine xgn rfl ?_ | refine tseq ?_ | refine tct rfl ?_ | refine tcf rfl ?_ | refine tskip ?_ | refine treg (by kernel_rfl) ?_ | refine tdraw (by kernel_rfl) (by decide +kernel) ?_ | refine tblock ?_ | refine tblk ?_ | refine texit rfl ?_ | refine xixn rfl rfl rfl (by omega) ?_ | refine xld rfl rfl (by assumption) ?_)
        refine xcall (S := fun _ w' => ∃ Z, Z.Perm (X1 ++ Y1) ∧ Z.Pairwise (lt c) ∧ DB w' g (A ++ Z ++ (X2 ++ Y2 ++ C)) ∧ Fr (· = g) w2 w') rfl rfl (IH w2 A X1 Y1 (X2 ++ Y2 ++ C) (by omega) (by simpa using hd2) (by simp; omega) (hC.fr hfr2) (fun x hx => hD x (by rcases List.mem_append.1 hx with h | h <;> simp [h])) hsX.1 hsY.1 (fun x hx y hy => hst x (by simp [hx]) y (by simp [hy])) hr.1 hr.2 _ _ _ rfl rfl rfl) ?_
        rintro v w3 ⟨Z, hZ1, hZ2, hd3, hf3⟩
        repeat' (first | refine xp rfl ?_ | refine xnil ?_ | refine xai rfl rfl rfl (by omega) (by omega) ?_ | refine xdi rfl rfl rfl (by omega) (by omega) (by omega) ?_ | refine xau rfl rfl rfl (by omega) (by omega) ?_ | refine xct rfl rfl rfl (by omega) ?_ | refine xcf rfl rfl rfl (by omega) ?_ | refine xgy rfl ?_ | refine xgn rfl ?_ | refine tseq ?_ | refine tct rfl ?_ | refine tcf rfl ?_ | refine tskip ?_ | refine treg (by kernel_rfl) ?_ | refine tdraw (by kernel_rfl) (by decide +kernel) ?_ | refine tblock ?_ | refine tblk ?_ | refine texit rfl ?_ | refine xixn rfl rfl rfl (by omega) ?_ | refine xld rfl rfl (by assumption) ?_)
        exact tfin ⟨Z, sub ⟨rfl, rfl, rfl, rfl, rfl⟩, hZ1, hZ2, by simpa using hd3, hfr2.t hf3⟩
      · have hs1 : (X1 ++ Y1).Pairwise (lt c) := by
          have : X1 = [] ∨ Y1 = [] := by
            rcases X1 with _ | ⟨_, _⟩
            · exact .inl rfl
            · rcases Y1 with _ | ⟨_, _⟩
              · exact .inr rfl
              · exact absurd ⟨by simp, by simp⟩ hr
          rcases this with rfl | rfl
          · simpa using hsY.1
          · simpa using hsX.1
        by_cases hr2 : 0 < X1.length
        · repeat' (first | refine xp rfl ?_ | refine xnil ?_ | refine xai rfl rfl rfl (by omega) (by omega) ?_ | refine xdi rfl rfl rfl (by omega) (by omega) (by omega) ?_ | refine xau rfl rfl rfl (by omega) (by omega) ?_ | refine xct rfl rfl rfl (by omega) ?_ | refine xcf rfl rfl rfl (by omega) ?_ | refine xgy rfl ?_ | refine xgn rfl ?_ | refine tseq ?_ | refine tct rfl ?_ | refine tcf rfl ?_ | refine tskip ?_ | refine treg (by kernel_rfl) ?_ | refine tdraw (by kernel_rfl) (by decide +kernel) ?_ | refine tblock ?_ | refine tblk ?_ | refine texit rfl ?_ | refine xixn rfl rfl rfl (by omega) ?_ | refine xld rfl rfl (by assumption) ?_)
          exact tfin ⟨X1 ++ Y1, sub ⟨rfl, rfl, rfl, rfl, rfl⟩, List.Perm.refl _, hs1, by simpa using hd2, hfr2⟩
        · repeat' (first | refine xp rfl ?_ | refine xnil ?_ | refine xai rfl rfl rfl (by omega) (by omega) ?_ | refine xdi rfl rfl rfl (by omega) (by omega) (by omega) ?_ | refine xau rfl rfl rfl (by omega) (by omega) ?_ | refine xct rfl rfl rfl (by omega) ?_ | refine xcf rfl rfl rfl (by omega) ?_ | refine xgy rfl ?_ | refine xgn rfl ?_ | refine tseq ?_ | refine tct rfl ?_ | refine tcf rfl ?_ | refine tskip ?_ | refine treg (by kernel_rfl) ?_ | refine tdraw (by kernel_rfl) (by decide +kernel) ?_ | refine tblock ?_ | refine tblk ?_ | refine texit rfl ?_ | refine xixn rfl rfl rfl (by omega) ?_ | refine xld rfl rfl (by assumption) ?_)
          exact tfin ⟨X1 ++ Y1, sub ⟨rfl, rfl, rfl, rfl, rfl⟩, List.Perm.refl _, hs1, by simpa using hd2, hfr2⟩
    rintro Z w3 ⟨hZ1, hZ2, hd3, hfr3⟩
    have hlZ := hZ1.length_eq
    simp only [List.length_append] at hlZ
    have fin : ∀ Z', Z'.Perm (X2 ++ Y2) → Z'.Pairwise (lt c) → (Z ++ Z').Perm (X1 ++ X2 ++ (Y1 ++ Y2)) ∧ (Z ++ Z').Pairwise (lt c) := fun Z' h1 h2 => by
      refine ⟨(List.Perm.append hZ1 h1).trans ?_, List.pairwise_append.2 ⟨hZ2, h2, fun p hp q hq => ?_⟩⟩
      · simp only [List.append_assoc]
        refine List.Perm.append_left X1 ?_
        rw [← List.append_assoc, ← List.append_assoc]
        exact List.Perm.append_right Y2 List.perm_append_comm
      · rcases List.mem_append.1 (hZ1.subset hp) with hp | hp <;> rcases List.mem_append.1 (h1.subset hq) with hq | hq
        · exact hsX.2.2 p hp q hq
        · exact c1 p hp q hq
        · exact c2 p hp q hq
        · exact hsY.2.2 p hp q hq
    by_cases hr : 0 < X2.length ∧ 0 < Y2.length
    · repeat' (first | refine xp rfl ?_ | refine xnil ?_ | refine xai rfl rfl rfl (by omega) (by omega) ?_ | refine xdi rfl rfl rfl (by omega) (by omega) (by omega) ?_ | refine xau rfl rfl rfl (by omega) (by omega) ?_ | refine xct rfl rfl rfl (by omega) ?_ | refine xcf rfl rfl rfl (by omega) ?_ | refine xgy rfl ?_ | refine xgn rfl ?_ | refine tseq ?_ | refine tct rfl ?_ | refine tcf rfl ?_ | refine tskip ?_ | refine treg (by kernel_rfl) ?_ | refine tdraw (by kernel_rfl) (by decide +kernel) ?_ | refine tblock ?_ | refine tblk ?_ | refine texit rfl ?_ | refine xixn rfl rfl rfl (by omega) ?_ | refine xld rfl rfl (by assumption) ?_)
      refine xcall (S := fun _ w' => ∃ Z', Z'.Perm (X2 ++ Y2) ∧ Z'.Pairwise (lt c) ∧ DB w' g ((A ++ Z) ++ Z' ++ C) ∧ Fr (· = g) w3 w') rfl rfl (IH w3 (A ++ Z) X2 Y2 C (by omega) (by simpa using hd3) (by simp; omega) (hC.fr hfr3) (fun x hx => hD x (by rcases List.mem_append.1 hx with h | h <;> simp [h])) hsX.2.1 hsY.2.1 (fun x hx y hy => hst x (by simp [hx]) y (by simp [hy])) hr.1 hr.2 _ _ _ (by simp; omega) (by simp; omega) (by simp; omega)) ?_
      rintro v w4 ⟨Z', hZ3, hZ4, hd4, hf4⟩
      repeat' (first | refine xp rfl ?_ | refine xnil ?_ | refine xai rfl rfl rfl (by omega) (by omega) ?_ | refine xdi rfl rfl rfl (by omega) (by omega) (by omega) ?_ | refine xau rfl rfl rfl (by omega) (by omega) ?_ | refine xct rfl rfl rfl (by omega) ?_ | refine xcf rfl rfl rfl (by omega) ?_ | refine xgy rfl ?_ | refine xgn rfl ?_ | refine tseq ?_ | refine tct rfl ?_ | refine tcf rfl ?_ | refine tskip ?_ | refine treg (by kernel_rfl) ?_ | refine tdraw (by kernel_rfl) (by decide +kernel) ?_ | refine tblock ?_ | refine tblk ?_ | refine texit rfl ?_ | refine xixn rfl rfl rfl (by omega) ?_ | refine xld rfl rfl (by assumption) ?_)
      exact tend0 rfl ⟨Z ++ Z', (fin Z' hZ3 hZ4).1, (fin Z' hZ3 hZ4).2, by simpa using hd4, hfr3.t hf4⟩
    · have hs1 : (X2 ++ Y2).Pairwise (lt c) := by
        have : X2 = [] ∨ Y2 = [] := by
          rcases X2 with _ | ⟨_, _⟩
          · exact .inl rfl
          · rcases Y2 with _ | ⟨_, _⟩
            · exact .inr rfl
            · exact absurd ⟨by simp, by simp⟩ hr
        rcases this with rfl | rfl
        · simpa using hsY.2.1
        · simpa using hsX.2.1
      have hf := fin (X2 ++ Y2) (List.Perm.refl _) hs1
      by_cases hr2 : 0 < X2.length
      · repeat' (first | refine xp rfl ?_ | refine xnil ?_ | refine xai rfl rfl rfl (by omega) (by omega) ?_ | refine xdi rfl rfl rfl (by omega) (by omega) (by omega) ?_ | refine xau rfl rfl rfl (by omega) (by omega) ?_ | refine xct rfl rfl rfl (by omega) ?_ | refine xcf rfl rfl rfl (by omega) ?_ | refine xgy rfl ?_ | refine xgn rfl ?_ | refine tseq ?_ | refine tct rfl ?_ | refine tcf rfl ?_ | refine tskip ?_ | refine treg (by kernel_rfl) ?_ | refine tdraw (by kernel_rfl) (by decide +kernel) ?_ | refine tblock ?_ | refine tblk ?_ | refine texit rfl ?_ | refine xixn rfl rfl rfl (by omega) ?_ | refine xld rfl rfl (by assumption) ?_)
        exact tend0 rfl ⟨Z ++ (X2 ++ Y2), hf.1, hf.2, by simpa using hd3, hfr3⟩
      · repeat' (first | refine xp rfl ?_ | refine xnil ?_ | refine xai rfl rfl rfl (by omega) (by omega) ?_ | refine xdi rfl rfl rfl (by omega) (by omega) (by omega) ?_ | refine xau rfl rfl rfl (by omega) (by omega) ?_ | refine xct rfl rfl rfl (by omega) ?_ | refine xcf rfl rfl rfl (by omega) ?_ | refine xgy rfl ?_ | refine xgn rfl ?_ | refine tseq ?_ | refine tct rfl ?_ | refine tcf rfl ?_ | refine tskip ?_ | refine treg (by kernel_rfl) ?_ | refine tdraw (by kernel_rfl) (by decide +kernel) ?_ | refine tblock ?_ | refine tblk ?_ | refine texit rfl ?_ | refine xixn rfl rfl rfl (by omega) ?_ | refine xld rfl rfl (by assumption) ?_)
        exact tend0 rfl ⟨Z ++ (X2 ++ Y2), hf.1, hf.2, by simpa using hd3, hfr3⟩

theorem symMerge_does (f : FuncId) (cap : Array Value) (D : Int → Prop) (c : Int → Int) (g n cp : Nat) (hl : n ≤ 100000) : ∀ (N : Nat) (w : World) (A X Y C : List Int), X.length + Y.length ≤ N → DB w g (A ++ X ++ Y ++ C) → n = A.length + X.length + Y.length + C.length → CmpOK g w f cap D c → (∀ x ∈ X ++ Y, D x) →
    X.Pairwise (lt c) → Y.Pairwise (lt c) → (∀ x ∈ X, ∀ y ∈ Y, stb c x y) → 0 < X.length → 0 < Y.length → ∀ a m b : Int, a = A.length → m = A.length + X.length → b = A.length + X.length + Y.length →
    Does Try.prog 94 #[.slice (some ⟨g, 0, none⟩) n cp, .int .i64 a, .int .i64 m, .int .i64 b, .func (.func f) #[] cap] w fun _ w' => ∃ Z, Z.Perm (X ++ Y) ∧ Z.Pairwise (lt c) ∧ DB w' g (A ++ Z ++ C) ∧ Fr (· = g) w w'
  | 0, w, A, X, Y, C, hN, _, _, _, _, _, _, _, hX0, _, _, _, _, _, _, _ => by omega
  | N + 1, w, A, X, Y, C, hN, hB, hn, hC, hD, hsX, hsY, hst, hX0, hY0, a, m, b, ha, hm, hb => by
    subst ha; subst hm; subst hb
    by_cases hX1 : X.length = 1
    · exact smA f cap D c g n cp hl w A X Y C hB hn hC hD hsX hsY hst hX0 hY0 hX1
    by_cases hY1 : Y.length = 1
    · exact smB f cap D c g n cp hl w A X Y C hB hn hC hD hsX hsY hst hX0 hY0 hX1 hY1
    exact smC f cap D c g n cp hl w A X Y C hB hn hC hD hsX hsY hst hX0 hY0 hX1 hY1 fun w A X' Y' C h1 => symMerge_does f cap D c g n cp hl N w A X' Y' C (by omega)
end Eng
end Go.Proofs.Ytighkjohpmlemaa
