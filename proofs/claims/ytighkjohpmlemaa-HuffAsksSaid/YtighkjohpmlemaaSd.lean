/-
  The library's stable sort of ints: merging two sorted parts in place, the second of length 1.
-/
import Derived.Test.YtighkjohpmlemaaSc
namespace Go.Proofs.Ytighkjohpmlemaa
open Go.RowKit
namespace Eng

set_option maxRecDepth 20000 in
set_option maxHeartbeats 4000000 in
theorem smB (f : FuncId) (cap : Array Value) (D : Int → Prop) (c : Int → Int) (g n cp : Nat) (hl : n ≤ 100000) (w : World) (A X Y C : List Int) (hB : DB w g (A ++ X ++ Y ++ C)) (hn : n = A.length + X.length + Y.length + C.length) (hC : CmpOK g w f cap D c) (hD : ∀ x ∈ X ++ Y, D x)
    (hsX : X.Pairwise (lt c)) (hsY : Y.Pairwise (lt c)) (hst : ∀ x ∈ X, ∀ y ∈ Y, stb c x y) (hX0 : 0 < X.length) (hY0 : 0 < Y.length) (hX1 : ¬ X.length = 1) (hY1 : Y.length = 1) :
    Does Try.prog 94 #[.slice (some ⟨g, 0, none⟩) n cp, .int .i64 A.length, .int .i64 (A.length + X.length), .int .i64 (A.length + X.length + Y.length), .func (.func f) #[] cap] w fun _ w' => ∃ Z, Z.Perm (X ++ Y) ∧ Z.Pairwise (lt c) ∧ DB w' g (A ++ Z ++ C) ∧ Fr (· = g) w w' := by
  have gX := srt_get A X (Y ++ C) hsX
  have gY := srt_get (A ++ X) Y C hsY
  have mX := mem_get A X (Y ++ C)
  have mY := mem_get (A ++ X) Y C
  rw [← List.append_assoc] at gX mX
  simp only [List.length_append] at gY mY
  have hlen : (A ++ X ++ Y ++ C).length = n := by simp; omega
  refine does5 Try.func94 rfl (by kernel_rfl) ?_
  obtain ⟨y, rfl⟩ : ∃ x, Y = [x] := List.length_eq_one_iff.1 hY1
  simp only [List.length_cons, List.length_nil] at *
  have gy : (A ++ X ++ [y] ++ C).getD (A.length + X.length) 0 = y := by simp
  repeat' (first | refine xp rfl ?_ | refine xnil ?_ | refine xai rfl rfl rfl (by omega) (by omega) ?_ | refine xdi rfl rfl rfl (by omega) (by omega) (by omega) ?_ | refine xau rfl rfl rfl (by omega) (by omega) ?_ | refine xct rfl rfl rfl (by omega) ?_ | refine xcf rfl rfl rfl (by omega) ?_ | refine xgy rfl ?_ | refine xgn rfl ?_ | refine tseq ?_ | refine tct rfl ?_ | refine tcf rfl ?_ | refine tskip ?_ | refine treg (by kernel_rfl) ?_ | refine tdraw (by kernel_rfl) (by decide +kernel) ?_ | refine tblock ?_ | refine tblk ?_ | refine texit rfl ?_ | refine xixn rfl rfl rfl (by omega) ?_ | refine xld rfl rfl (by assumption) ?_)
  refine tloop (α := Nat × Nat) (fun x => [(0, .slice (some ⟨g, 0, none⟩) n cp), (1, .int .i64 (A.length : Int)), (2, .int .i64 ((A.length : Int) + X.length)), (4, .func (.func f) #[] cap), (14, .int .i64 (x.1 : Int)), (15, .int .i64 (x.2 : Int))]) (Bs (fun q => ¬ c y < c ((A ++ X ++ [y] ++ C).getD q 0)) A.length (A.length + X.length) (A ++ X ++ [y] ++ C) g w) (fun x => x.2 - x.1) (A.length, A.length + X.length) (sub ⟨rfl, rfl, rfl, rfl, rfl, ieq (by dsimp only; omega)⟩) ⟨hB, Fr.refl _ _, by dsimp only; omega, by dsimp only; omega, by dsimp only; omega, fun q _ _ => by dsimp only at *; omega, fun q _ _ => by dsimp only at *; omega⟩ ?_
  rintro ⟨i, j⟩ w1 ⟨hdb, hfr, hl1, hl2, hl3, hy, hno⟩
  dsimp only at *
  by_cases hij : i < j
  · repeat' (first | refine xp rfl ?_ | refine xnil ?_ | refine xcvu rfl rfl rfl (by omega) (by omega) ?_ | refine xhalf rfl rfl (by kernel_rfl) ?_ | refine xcvi rfl rfl rfl (by omega) (by omega) ?_ | refine xisq ((i + j) / 2) ((i + j) / 2) rfl rfl rfl (by omega) (by omega) (by omega) ?_ | refine xisq (A.length + X.length) (A.length + X.length) rfl rfl rfl (by omega) (by omega) (by omega) ?_ | refine xldd hdb rfl rfl (by omega) ?_ | refine xai rfl rfl rfl (by omega) (by omega) ?_ | refine xdi rfl rfl rfl (by omega) (by omega) (by omega) ?_ | refine xau rfl rfl rfl (by omega) (by omega) ?_ | refine xct rfl rfl rfl (by omega) ?_ | refine xcf rfl rfl rfl (by omega) ?_ | refine xgy rfl ?_ | refine xgn rfl ?_ | refine tseq ?_ | refine tct rfl ?_ | refine tcf rfl ?_ | refine tskip ?_ | refine treg (by kernel_rfl) ?_ | refine tdraw (by kernel_rfl) (by decide +kernel) ?_ | refine tblock ?_ | refine tblk ?_ | refine texit rfl ?_ | refine xixn rfl rfl rfl (by omega) ?_ | refine xld rfl rfl (by assumption) ?_)
    rw [gy]
    have hm2 := mX ((i + j) / 2) (by omega) (by omega)
    refine xcmp ((hC.fr hfr).fr (Fr.drew _ _)) rfl rfl (hD _ (by simp)) (hD _ (List.mem_append_left _ hm2)) (fun z w5 hx5 hz => ?_)
    by_cases hlt : c y < c ((A ++ X ++ [y] ++ C).getD ((i + j) / 2) 0)
    · have hz' := hz.2 hlt
      repeat' (first | refine xp rfl ?_ | refine xnil ?_ | refine xai rfl rfl rfl (by omega) (by omega) ?_ | refine xdi rfl rfl rfl (by omega) (by omega) (by omega) ?_ | refine xau rfl rfl rfl (by omega) (by omega) ?_ | refine xct rfl rfl rfl (by omega) ?_ | refine xcf rfl rfl rfl (by omega) ?_ | refine xgy rfl ?_ | refine xgn rfl ?_ | refine tseq ?_ | refine tct rfl ?_ | refine tcf rfl ?_ | refine tskip ?_ | refine treg (by kernel_rfl) ?_ | refine tdraw (by kernel_rfl) (by decide +kernel) ?_ | refine tblock ?_ | refine tblk ?_ | refine texit rfl ?_ | refine xixn rfl rfl rfl (by omega) ?_ | refine xld rfl rfl (by assumption) ?_)
      refine tfin ⟨(i, (i + j) / 2), sub ⟨rfl, rfl, rfl, rfl, rfl, ieq (by dsimp only; omega)⟩, ⟨hdb.dr.ext hx5, hfr.d.te hx5, hl1, by dsimp only; omega, by dsimp only; omega, hy, fun q h1 h2 => ?_⟩, by dsimp only; omega⟩
      dsimp only at *
      by_cases e : q = (i + j) / 2
      · rw [e]; omega
      · have := gX ((i + j) / 2) q (by omega) (by omega) (by omega)
        unfold lt at this; omega
    · have hz' : ¬ z < 0 := fun h => hlt (hz.1 h)
      repeat' (first | refine xp rfl ?_ | refine xnil ?_ | refine xai rfl rfl rfl (by omega) (by omega) ?_ | refine xdi rfl rfl rfl (by omega) (by omega) (by omega) ?_ | refine xau rfl rfl rfl (by omega) (by omega) ?_ | refine xct rfl rfl rfl (by omega) ?_ | refine xcf rfl rfl rfl (by omega) ?_ | refine xgy rfl ?_ | refine xgn rfl ?_ | refine tseq ?_ | refine tct rfl ?_ | refine tcf rfl ?_ | refine tskip ?_ | refine treg (by kernel_rfl) ?_ | refine tdraw (by kernel_rfl) (by decide +kernel) ?_ | refine tblock ?_ | refine tblk ?_ | refine texit rfl ?_ | refine xixn rfl rfl rfl (by omega) ?_ | refine xld rfl rfl (by assumption) ?_)
      refine tfin ⟨((i + j) / 2 + 1, j), sub ⟨rfl, rfl, rfl, rfl, ieq (by dsimp only; omega), rfl⟩, ⟨hdb.dr.ext hx5, hfr.d.te hx5, by dsimp only; omega, by dsimp only; omega, hl3, fun q h1 h2 => ?_, hno⟩, by dsimp only; omega⟩
      dsimp only at *
      by_cases e : q = (i + j) / 2
      · rw [e]; exact hlt
      · have := gX q ((i + j) / 2) (by omega) (by omega) (by omega)
        unfold lt at this; omega
  · obtain rfl : i = j := by omega
    obtain ⟨X1, X2, rfl, hX1⟩ : ∃ P Q, X = P ++ Q ∧ P.length = i - A.length := ⟨X.take (i - A.length), X.drop (i - A.length), (List.take_append_drop _ _).symm, by rw [List.length_take]; omega⟩
    simp only [List.length_append] at *
    have hi : (i : Int) = A.length + X1.length := by omega
    have p1 : ∀ x ∈ X1, ¬ c y < c x := fun x hx1 => by
      obtain ⟨q, hq, rfl⟩ := List.getElem_of_mem hx1
      have := hy (A.length + q) (by omega) (by omega)
      have e := get_seg A X1 (X2 ++ [y] ++ C) q hq _ rfl
      rw [show A ++ (X1 ++ X2) ++ [y] ++ C = A ++ X1 ++ (X2 ++ [y] ++ C) by simp, e] at this
      exact this
    have p2 : ∀ x ∈ X2, c y < c x := fun x hx1 => by
      obtain ⟨q, hq, rfl⟩ := List.getElem_of_mem hx1
      have := hno (A.length + X1.length + q) (by omega) (by omega)
      have e := get_seg (A ++ X1) X2 ([y] ++ C) q hq (A.length + X1.length + q) (by simp)
      rw [show A ++ (X1 ++ X2) ++ [y] ++ C = (A ++ X1) ++ X2 ++ ([y] ++ C) by simp, e] at this
      omega
    repeat' (first | refine xp rfl ?_ | refine xnil ?_ | refine xai rfl rfl rfl (by omega) (by omega) ?_ | refine xdi rfl rfl rfl (by omega) (by omega) (by omega) ?_ | refine xau rfl rfl rfl (by omega) (by omega) ?_ | refine xct rfl rfl rfl (by omega) ?_ | refine xcf rfl rfl rfl (by omega) ?_ | refine xgy rfl ?_ | refine xgn rfl ?_ | refine tseq ?_ | refine tct rfl ?_ | refine tcf rfl ?_ | refine tskip ?_ | refine treg (by kernel_rfl) ?_ | refine tdraw (by kernel_rfl) (by decide +kernel) ?_ | refine tblock ?_ | refine tblk ?_ | refine texit rfl ?_ | refine xixn rfl rfl rfl (by omega) ?_ | refine xld rfl rfl (by assumption) ?_)
    refine tloop (α := List Int × List Int) (fun s => [(0, .slice (some ⟨g, 0, none⟩) n cp), (14, .int .i64 ((A.length : Int) + X1.length)), (17, .int .i64 ((A.length : Int) + X1.length + s.1.length))]) (ShR (A ++ X1) y X2 C g w1) (fun s => s.1.length) (X2, []) (sub ⟨rfl, ieq (by omega), ieq (by dsimp only; omega)⟩) ⟨by simpa using hdb, by simp, Fr.refl _ _⟩ ?_
    rintro ⟨P, Q⟩ w2 ⟨hdb2, heq, hfr2⟩
    dsimp only at *
    have hle := congrArg List.length heq
    simp only [List.length_append] at hle
    rcases List.eq_nil_or_concat P with rfl | ⟨P, p, rfl⟩
    · simp only [List.length_nil] at *
      obtain rfl : Q = X2 := by simpa using heq
      repeat' (first | refine xp rfl ?_ | refine xnil ?_ | refine xai rfl rfl rfl (by omega) (by omega) ?_ | refine xdi rfl rfl rfl (by omega) (by omega) (by omega) ?_ | refine xau rfl rfl rfl (by omega) (by omega) ?_ | refine xct rfl rfl rfl (by omega) ?_ | refine xcf rfl rfl rfl (by omega) ?_ | refine xgy rfl ?_ | refine xgn rfl ?_ | refine tseq ?_ | refine tct rfl ?_ | refine tcf rfl ?_ | refine tskip ?_ | refine treg (by kernel_rfl) ?_ | refine tdraw (by kernel_rfl) (by decide +kernel) ?_ | refine tblock ?_ | refine tblk ?_ | refine texit rfl ?_ | refine xixn rfl rfl rfl (by omega) ?_ | refine xld rfl rfl (by assumption) ?_)
      refine tret0 rfl ⟨X1 ++ y :: Q, ?_, ?_, by simpa using hdb2, hfr.t hfr2⟩
      · have : (X1 ++ y :: Q).Perm (y :: (X1 ++ Q)) := List.perm_middle
        exact this.trans (List.perm_append_singleton _ _).symm
      · rw [List.pairwise_append] at hsX
        rw [List.pairwise_append, List.pairwise_cons]
        refine ⟨hsX.1, ⟨fun x hx1 => .inl (p2 x hx1), hsX.2.1⟩, fun p hp q hq => ?_⟩
        rcases List.mem_cons.1 hq with rfl | hq
        · have h1 := p1 p hp
          have h2 := hst p (by simp [hp]) q (by simp)
          unfold stb at h2; unfold lt; omega
        · exact hsX.2.2 p hp q hq
    · rw [List.concat_eq_append] at *
      simp only [List.length_append, List.length_cons, List.length_nil] at *
      have hdb3 : DB w2 g ((A ++ X1 ++ P) ++ p :: ([] ++ y :: (Q ++ C))) := by simpa using hdb2
      have hl3 : ((A ++ X1 ++ P) ++ p :: ([] ++ y :: (Q ++ C))).length = n := by simp; omega
      repeat' (first | refine xp rfl ?_ | refine xnil ?_ | refine xisq (A.length + X1.length + P.length + 1) (A.length + X1.length + P.length + 1) rfl rfl rfl (by omega) (by omega) (by omega) ?_ | refine xisq (A.length + X1.length + P.length) (A.length + X1.length + P.length) rfl rfl rfl (by omega) (by omega) (by omega) ?_ | refine xldd hdb3 rfl rfl (by omega) ?_ | refine xai rfl rfl rfl (by omega) (by omega) ?_ | refine xdi rfl rfl rfl (by omega) (by omega) (by omega) ?_ | refine xau rfl rfl rfl (by omega) (by omega) ?_ | refine xct rfl rfl rfl (by omega) ?_ | refine xcf rfl rfl rfl (by omega) ?_ | refine xgy rfl ?_ | refine xgn rfl ?_ | refine tseq ?_ | refine tct rfl ?_ | refine tcf rfl ?_ | refine tskip ?_ | refine treg (by kernel_rfl) ?_ | refine tdraw (by kernel_rfl) (by decide +kernel) ?_ | refine tblock ?_ | refine tblk ?_ | refine texit rfl ?_ | refine xixn rfl rfl rfl (by omega) ?_ | refine xld rfl rfl (by assumption) ?_)
      refine xstd hdb3.dr rfl rfl rfl (by omega) (fun w3 hB3 hF3 => ?_)
      repeat' (first | refine xp rfl ?_ | refine xnil ?_ | refine xisq (A.length + X1.length + P.length) (A.length + X1.length + P.length) rfl rfl rfl (by omega) (by omega) (by omega) ?_ | refine xai rfl rfl rfl (by omega) (by omega) ?_ | refine xdi rfl rfl rfl (by omega) (by omega) (by omega) ?_ | refine xau rfl rfl rfl (by omega) (by omega) ?_ | refine xct rfl rfl rfl (by omega) ?_ | refine xcf rfl rfl rfl (by omega) ?_ | refine xgy rfl ?_ | refine xgn rfl ?_ | refine tseq ?_ | refine tct rfl ?_ | refine tcf rfl ?_ | refine tskip ?_ | refine treg (by kernel_rfl) ?_ | refine tdraw (by kernel_rfl) (by decide +kernel) ?_ | refine tblock ?_ | refine tblk ?_ | refine texit rfl ?_ | refine xixn rfl rfl rfl (by omega) ?_ | refine xld rfl rfl (by assumption) ?_)
      refine xstd hB3 rfl rfl rfl (by rw [List.length_set]; omega) (fun w4 hB4 hF4 => ?_)
      repeat' (first | refine xp rfl ?_ | refine xnil ?_ | refine xai rfl rfl rfl (by omega) (by omega) ?_ | refine xdi rfl rfl rfl (by omega) (by omega) (by omega) ?_ | refine xau rfl rfl rfl (by omega) (by omega) ?_ | refine xct rfl rfl rfl (by omega) ?_ | refine xcf rfl rfl rfl (by omega) ?_ | refine xgy rfl ?_ | refine xgn rfl ?_ | refine tseq ?_ | refine tct rfl ?_ | refine tcf rfl ?_ | refine tskip ?_ | refine treg (by kernel_rfl) ?_ | refine tdraw (by kernel_rfl) (by decide +kernel) ?_ | refine tblock ?_ | refine tblk ?_ | refine texit rfl ?_ | refine xixn rfl rfl rfl (by omega) ?_ | refine xld rfl rfl (by assumption) ?_)
      have e := swp_mid' (A ++ X1 ++ P) p [] y (Q ++ C) (A.length + X1.length + P.length) (A.length + X1.length + P.length + 1) (by simp; omega) (by simp; omega)
      refine tfin ⟨(P, p :: Q), sub ⟨rfl, rfl, ieq (by dsimp only; omega)⟩, ⟨?_, by rw [← heq]; simp, ((hfr2.d.t hF3).t hF4)⟩, by dsimp only; omega⟩
      unfold swp at e
      rw [e] at hB4
      simpa using hB4
end Eng
end Go.Proofs.Ytighkjohpmlemaa
