/-
  The library's stable sort of ints: merging two sorted parts in place.
-/
import Derived.Test.YtighkjohpmlemaaSb
namespace Go.Proofs.Ytighkjohpmlemaa
open Go.RowKit
namespace Eng

variable {hs : List Nat} {H : World → Prop} {full : Array Oper} {K : Env → World → Prop} {rest : List Oper} {env : Env} {w : World} {d : Tmp} {dst : Option Tmp} {ty : TypeId} {pos : String} {af : Array Edge}

/-- A place where ways come together. -/
theorem tcut {fn : Func} {R : Value → World → Prop} {k : List It} {α : Type} (E : α → Env) (I : α → World → Prop) {c : Code} (h1 : T Try.prog fn R (.code c :: .fin (fun env w => ∃ y, Sub (E y) env ∧ I y w) :: k) env w) (h2 : ∀ y w', I y w' → T Try.prog fn R k (E y) w') : T Try.prog fn R (.code c :: k) env w := fun a ha => by
  refine wp_mono (h1 a ha) ?_
  intro e a' w' hq
  cases e with
  | normal => obtain ⟨env', hf', y, hs, hy⟩ := hq; exact h2 y w' hy a' (hf'.sub hs)
  | exit id => exact hq
  | goto l => exact hq
  | ret => exact hq
  | panic ch => exact hq
  | outgrown => exact hq

/-- Half of a number, by a shift. -/
theorem xhalf {t yt : TypeId} {x y : Operand} {k yk : IntKind} {a : Int} (hx : evo env x = some (.int k a)) (hy : evo env y = some (.int yk 1)) (hk : decide ((1 : Int) ≤ k.bits) = true)
    (h : xs Try.prog isI isS hs H full K rest ((d, .int k (a / 2)) :: env) w) : xs Try.prog isI isS hs H full K (⟨some d, .binOp .shr t x y yt, ty, pos, af, none⟩ :: rest) env w :=
  xshr hx hy (by omega) (of_decide_eq_true hk) h

theorem srt_get {c : Int → Int} (A S C : List Int) (h : S.Pairwise (lt c)) (q q' : Nat) (h1 : A.length ≤ q) (h2 : q < q') (h3 : q' < A.length + S.length) : lt c ((A ++ S ++ C).getD q 0) ((A ++ S ++ C).getD q' 0) := by
  rw [List.pairwise_iff_getElem] at h
  have := h (q - A.length) (q' - A.length) (by omega) (by omega) (by omega)
  have e : ∀ r, A.length ≤ r → (hr : r - A.length < S.length) → (A ++ S ++ C).getD r 0 = S[r - A.length] := fun r h1 hr => by
    rw [List.getD_eq_getElem?_getD, List.append_assoc, List.getElem?_append_right h1, List.getElem?_append_left hr, List.getElem?_eq_getElem hr]; rfl
  rw [e q h1 (by omega), e q' (by omega) (by omega)]
  exact this
theorem get_seg (A S C : List Int) (q : Nat) (hq : q < S.length) (r : Nat) (hr : r = A.length + q) : (A ++ S ++ C).getD r 0 = S[q] := by
  subst hr
  rw [List.getD_eq_getElem?_getD, List.append_assoc, List.getElem?_append_right (by omega), List.getElem?_append_left (by omega), Nat.add_sub_cancel_left, List.getElem?_eq_getElem hq]; rfl
theorem mem_get (A S C : List Int) (q : Nat) (h1 : A.length ≤ q) (h3 : q < A.length + S.length) : (A ++ S ++ C).getD q 0 ∈ S := by
  rw [List.getD_eq_getElem?_getD, List.append_assoc, List.getElem?_append_right h1, List.getElem?_append_left (by omega), List.getElem?_eq_getElem (by omega)]
  exact List.getElem_mem _
theorem all_lt {c : Int → Int} {Y : List Int} {y x : Int} {X : List Int} (hY : (Y ++ [y]).Pairwise (lt c)) (hX : (x :: X).Pairwise (lt c)) (h : lt c y x) : ∀ p ∈ Y ++ [y], ∀ q ∈ x :: X, lt c p q := by
  intro p hp q hq
  have := sorted_last hY h p hp
  rcases List.mem_cons.1 hq with rfl | hq
  · exact this
  · exact lt_trans this ((List.pairwise_cons.1 hX).1 q hq)

/-- Halving: p holds below i and not from j on. -/
structure Bs (p : Nat → Prop) (lo hi : Nat) (l : List Int) (g : Nat) (w0 : World) (x : Nat × Nat) (w : World) : Prop where
  db : DB w g l
  fr : Fr (· = g) w0 w
  l1 : lo ≤ x.1
  l2 : x.1 ≤ x.2
  l3 : x.2 ≤ hi
  yes : ∀ q, lo ≤ q → q < x.1 → p q
  no : ∀ q, x.2 ≤ q → q < hi → ¬ p q

/-- Moving one element right over others. -/
structure ShR (A : List Int) (x : Int) (Y C : List Int) (g : Nat) (w0 : World) (s : List Int × List Int) (w : World) : Prop where
  db : DB w g (A ++ s.1 ++ x :: s.2 ++ C)
  eq : s.1 ++ s.2 = Y
  fr : Fr (· = g) w0 w

set_option maxRecDepth 20000 in
set_option maxHeartbeats 4000000 in
theorem smA (f : FuncId) (cap : Array Value) (D : Int → Prop) (c : Int → Int) (g n cp : Nat) (hl : n ≤ 100000) (w : World) (A X Y C : List Int) (hB : DB w g (A ++ X ++ Y ++ C)) (hn : n = A.length + X.length + Y.length + C.length) (hC : CmpOK g w f cap D c) (hD : ∀ x ∈ X ++ Y, D x)
    (hsX : X.Pairwise (lt c)) (hsY : Y.Pairwise (lt c)) (hst : ∀ x ∈ X, ∀ y ∈ Y, stb c x y) (hX0 : 0 < X.length) (hY0 : 0 < Y.length) (hX1 : X.length = 1) :
    Does Try.prog 94 #[.slice (some ⟨g, 0, none⟩) n cp, .int .i64 A.length, .int .i64 (A.length + X.length), .int .i64 (A.length + X.length + Y.length), .func (.func f) #[] cap] w fun _ w' => ∃ Z, Z.Perm (X ++ Y) ∧ Z.Pairwise (lt c) ∧ DB w' g (A ++ Z ++ C) ∧ Fr (· = g) w w' := by
  have gX := srt_get A X (Y ++ C) hsX
  have gY := srt_get (A ++ X) Y C hsY
  have mX := mem_get A X (Y ++ C)
  have mY := mem_get (A ++ X) Y C
  rw [← List.append_assoc] at gX mX
  simp only [List.length_append] at gY mY
  have hlen : (A ++ X ++ Y ++ C).length = n := by simp; omega
  refine does5 Try.func94 rfl (by kernel_rfl) ?_
  obtain ⟨x, rfl⟩ : ∃ x, X = [x] := List.length_eq_one_iff.1 hX1
  simp only [List.length_cons, List.length_nil] at *
  repeat' (first | refine xp rfl ?_ | refine xnil ?_ | refine xai rfl rfl rfl (by omega) (by omega) ?_ | refine xdi rfl rfl rfl (by omega) (by omega) (by omega) ?_ | refine xau rfl rfl rfl (by omega) (by omega) ?_ | refine xct rfl rfl rfl (by omega) ?_ | refine xcf rfl rfl rfl (by omega) ?_ | refine xgy rfl ?_ | refine xgn rfl ?_ | refine tseq ?_ | refine tct rfl ?_ | refine tcf rfl ?_ | refine tskip ?_ | refine treg (by kernel_rfl) ?_ | refine tdraw (by kernel_rfl) (by decide +kernel) ?_ | refine tblock ?_ | refine tblk ?_ | refine texit rfl ?_ | refine xixn rfl rfl rfl (by omega) ?_ | refine xld rfl rfl (by assumption) ?_)
  refine tloop (α := Nat × Nat) (fun x => [(0, .slice (some ⟨g, 0, none⟩) n cp), (1, .int .i64 (A.length : Int)), (2, .int .i64 ((A.length : Int) + 1)), (3, .int .i64 ((A.length : Int) + 1 + Y.length)), (4, .func (.func f) #[] cap), (10, .int .i64 (x.1 : Int)), (11, .int .i64 (x.2 : Int))]) (Bs (fun q => c ((A ++ [x] ++ Y ++ C).getD q 0) < c x) (A.length + 1) (A.length + 1 + Y.length) (A ++ [x] ++ Y ++ C) g w) (fun x => x.2 - x.1) (A.length + 1, A.length + 1 + Y.length) (sub ⟨rfl, rfl, ieq (by omega), ieq (by omega), rfl, ieq (by dsimp only; omega), ieq (by dsimp only; omega)⟩) ⟨hB, Fr.refl _ _, by dsimp only; omega, by dsimp only; omega, by dsimp only; omega, fun q _ _ => by dsimp only at *; omega, fun q _ _ => by dsimp only at *; omega⟩ ?_
  rintro ⟨i, j⟩ w1 ⟨hdb, hfr, hl1, hl2, hl3, hy, hno⟩
  dsimp only at *
  have gx : (A ++ [x] ++ Y ++ C).getD A.length 0 = x := by simp
  by_cases hij : i < j
  · repeat' (first | refine xp rfl ?_ | refine xnil ?_ | refine xcvu rfl rfl rfl (by omega) (by omega) ?_ | refine xhalf rfl rfl (by kernel_rfl) ?_ | refine xcvi rfl rfl rfl (by omega) (by omega) ?_ | refine xisq ((i + j) / 2) ((i + j) / 2) rfl rfl rfl (by omega) (by omega) (by omega) ?_ | refine xisq A.length A.length rfl rfl rfl (by omega) (by omega) (by omega) ?_ | refine xldd hdb rfl rfl (by omega) ?_ | refine xai rfl rfl rfl (by omega) (by omega) ?_ | refine xdi rfl rfl rfl (by omega) (by omega) (by omega) ?_ | refine xau rfl rfl rfl (by omega) (by omega) ?_ | refine xct rfl rfl rfl (by omega) ?_ | refine xcf rfl rfl rfl (by omega) ?_ | refine xgy rfl ?_ | refine xgn rfl ?_ | refine tseq ?_ | refine tct rfl ?_ | refine tcf rfl ?_ | refine tskip ?_ | refine treg (by kernel_rfl) ?_ | refine tdraw (by kernel_rfl) (by decide +kernel) ?_ | refine tblock ?_ | refine tblk ?_ | refine texit rfl ?_ | refine xixn rfl rfl rfl (by omega) ?_ | refine xld rfl rfl (by assumption) ?_)
    rw [gx]
    have hm2 := mY ((i + j) / 2) (by omega) (by omega)
    refine xcmp ((hC.fr hfr).fr (Fr.drew _ _)) rfl rfl (hD _ (List.mem_append_right _ hm2)) (hD _ (by simp)) (fun z w5 hx5 hz => ?_)
    by_cases hlt : c ((A ++ [x] ++ Y ++ C).getD ((i + j) / 2) 0) < c x
    · have hz' := hz.2 hlt
      repeat' (first | refine xp rfl ?_ | refine xnil ?_ | refine xai rfl rfl rfl (by omega) (by omega) ?_ | refine xdi rfl rfl rfl (by omega) (by omega) (by omega) ?_ | refine xau rfl rfl rfl (by omega) (by omega) ?_ | refine xct rfl rfl rfl (by omega) ?_ | refine xcf rfl rfl rfl (by omega) ?_ | refine xgy rfl ?_ | refine xgn rfl ?_ | refine tseq ?_ | refine tct rfl ?_ | refine tcf rfl ?_ | refine tskip ?_ | refine treg (by kernel_rfl) ?_ | refine tdraw (by kernel_rfl) (by decide +kernel) ?_ | refine tblock ?_ | refine tblk ?_ | refine texit rfl ?_ | refine xixn rfl rfl rfl (by omega) ?_ | refine xld rfl rfl (by assumption) ?_)
      refine tfin ⟨((i + j) / 2 + 1, j), sub ⟨rfl, rfl, rfl, rfl, rfl, ieq (by dsimp only; omega), rfl⟩, ⟨hdb.dr.ext hx5, hfr.d.te hx5, by dsimp only; omega, by dsimp only; omega, hl3, fun q h1 h2 => ?_, hno⟩, by dsimp only; omega⟩
      dsimp only at *
      by_cases e : q = (i + j) / 2
      · rw [e]; exact hlt
      · have := gY q ((i + j) / 2) (by omega) (by omega) (by omega)
        unfold lt at this; omega
    · have hz' : ¬ z < 0 := fun h => hlt (hz.1 h)
      repeat' (first | refine xp rfl ?_ | refine xnil ?_ | refine xai rfl rfl rfl (by omega) (by omega) ?_ | refine xdi rfl rfl rfl (by omega) (by omega) (by omega) ?_ | refine xau rfl rfl rfl (by omega) (by omega) ?_ | refine xct rfl rfl rfl (by omega) ?_ | refine xcf rfl rfl rfl (by omega) ?_ | refine xgy rfl ?_ | refine xgn rfl ?_ | refine tseq ?_ | refine tct rfl ?_ | refine tcf rfl ?_ | refine tskip ?_ | refine treg (by kernel_rfl) ?_ | refine tdraw (by kernel_rfl) (by decide +kernel) ?_ | refine tblock ?_ | refine tblk ?_ | refine texit rfl ?_ | refine xixn rfl rfl rfl (by omega) ?_ | refine xld rfl rfl (by assumption) ?_)
      refine tfin ⟨(i, (i + j) / 2), sub ⟨rfl, rfl, rfl, rfl, rfl, rfl, ieq (by dsimp only; omega)⟩, ⟨hdb.dr.ext hx5, hfr.d.te hx5, hl1, by dsimp only; omega, by dsimp only; omega, hy, fun q h1 h2 => ?_⟩, by dsimp only; omega⟩
      dsimp only at *
      by_cases e : q = (i + j) / 2
      · rw [e]; exact hlt
      · have := gY ((i + j) / 2) q (by omega) (by omega) (by omega)
        unfold lt at this; omega
  · obtain rfl : i = j := by omega
    obtain ⟨Y1, Y2, rfl, hY1⟩ : ∃ P Q, Y = P ++ Q ∧ P.length = i - (A.length + 1) := ⟨Y.take (i - (A.length + 1)), Y.drop (i - (A.length + 1)), (List.take_append_drop _ _).symm, by rw [List.length_take]; omega⟩
    simp only [List.length_append] at *
    have hi : (i : Int) = A.length + 1 + Y1.length := by omega
    have p1 : ∀ y ∈ Y1, c y < c x := fun y hy1 => by
      obtain ⟨q, hq, rfl⟩ := List.getElem_of_mem hy1
      have := hy (A.length + 1 + q) (by omega) (by omega)
      have e := get_seg (A ++ [x]) Y1 (Y2 ++ C) q hq _ (by simp : A.length + 1 + q = (A ++ [x]).length + q)
      rw [show A ++ [x] ++ (Y1 ++ Y2) ++ C = (A ++ [x]) ++ Y1 ++ (Y2 ++ C) by simp, e] at this
      exact this
    have p2 : ∀ y ∈ Y2, ¬ c y < c x := fun y hy1 => by
      obtain ⟨q, hq, rfl⟩ := List.getElem_of_mem hy1
      have := hno (A.length + 1 + Y1.length + q) (by omega) (by omega)
      have e := get_seg (A ++ [x] ++ Y1) Y2 C q hq (A.length + 1 + Y1.length + q) (by simp; omega)
      rw [show A ++ [x] ++ (Y1 ++ Y2) ++ C = (A ++ [x] ++ Y1) ++ Y2 ++ C by simp, e] at this
      exact this
    repeat' (first | refine xp rfl ?_ | refine xnil ?_ | refine xai rfl rfl rfl (by omega) (by omega) ?_ | refine xdi rfl rfl rfl (by omega) (by omega) (by omega) ?_ | refine xau rfl rfl rfl (by omega) (by omega) ?_ | refine xct rfl rfl rfl (by omega) ?_ | refine xcf rfl rfl rfl (by omega) ?_ | refine xgy rfl ?_ | refine xgn rfl ?_ | refine tseq ?_ | refine tct rfl ?_ | refine tcf rfl ?_ | refine tskip ?_ | refine treg (by kernel_rfl) ?_ | refine tdraw (by kernel_rfl) (by decide +kernel) ?_ | refine tblock ?_ | refine tblk ?_ | refine texit rfl ?_ | refine xixn rfl rfl rfl (by omega) ?_ | refine xld rfl rfl (by assumption) ?_)
    refine tloop (α := List Int × List Int) (fun s => [(0, .slice (some ⟨g, 0, none⟩) n cp), (10, .int .i64 ((A.length : Int) + 1 + Y1.length)), (13, .int .i64 ((A.length : Int) + s.1.length))]) (ShR A x Y1 (Y2 ++ C) g w1) (fun s => s.2.length) ([], Y1) (sub ⟨rfl, ieq (by omega), ieq (by dsimp only; simp)⟩) ⟨by simpa using hdb, rfl, Fr.refl _ _⟩ ?_
    rintro ⟨P, Q⟩ w2 ⟨hdb2, heq, hfr2⟩
    dsimp only at *
    have hle := congrArg List.length heq
    simp only [List.length_append] at hle
    rcases Q with _ | ⟨q, Q⟩
    · simp only [List.length_nil] at hle
      obtain rfl : P = Y1 := by simpa using heq
      repeat' (first | refine xp rfl ?_ | refine xnil ?_ | refine xai rfl rfl rfl (by omega) (by omega) ?_ | refine xdi rfl rfl rfl (by omega) (by omega) (by omega) ?_ | refine xau rfl rfl rfl (by omega) (by omega) ?_ | refine xct rfl rfl rfl (by omega) ?_ | refine xcf rfl rfl rfl (by omega) ?_ | refine xgy rfl ?_ | refine xgn rfl ?_ | refine tseq ?_ | refine tct rfl ?_ | refine tcf rfl ?_ | refine tskip ?_ | refine treg (by kernel_rfl) ?_ | refine tdraw (by kernel_rfl) (by decide +kernel) ?_ | refine tblock ?_ | refine tblk ?_ | refine texit rfl ?_ | refine xixn rfl rfl rfl (by omega) ?_ | refine xld rfl rfl (by assumption) ?_)
      refine tret0 rfl ⟨P ++ x :: Y2, ?_, ?_, by simpa using hdb2, hfr.t hfr2⟩
      · exact (List.perm_middle).trans (by simp)
      · rw [List.pairwise_append] at hsY
        rw [List.pairwise_append, List.pairwise_cons]
        refine ⟨hsY.1, ⟨fun y hy1 => ?_, hsY.2.1⟩, fun p hp q hq => ?_⟩
        · have h1 := p2 y hy1
          have h2 := hst x (by simp) y (by simp [hy1])
          unfold stb at h2; unfold lt; omega
        · rcases List.mem_cons.1 hq with rfl | hq
          · exact .inl (p1 p hp)
          · exact hsY.2.2 p hp q hq
    · simp only [List.length_cons] at *
      have hdb3 : DB w2 g ((A ++ P) ++ x :: ([] ++ q :: (Q ++ (Y2 ++ C)))) := by simpa using hdb2
      have hl3 : ((A ++ P) ++ x :: ([] ++ q :: (Q ++ (Y2 ++ C)))).length = n := by simp; omega
      repeat' (first | refine xp rfl ?_ | refine xnil ?_ | refine xisq (A.length + P.length + 1) (A.length + P.length + 1) rfl rfl rfl (by omega) (by omega) (by omega) ?_ | refine xisq (A.length + P.length) (A.length + P.length) rfl rfl rfl (by omega) (by omega) (by omega) ?_ | refine xldd hdb3 rfl rfl (by omega) ?_ | refine xai rfl rfl rfl (by omega) (by omega) ?_ | refine xdi rfl rfl rfl (by omega) (by omega) (by omega) ?_ | refine xau rfl rfl rfl (by omega) (by omega) ?_ | refine xct rfl rfl rfl (by omega) ?_ | refine xcf rfl rfl rfl (by omega) ?_ | refine xgy rfl ?_ | refine xgn rfl ?_ | refine tseq ?_ | refine tct rfl ?_ | refine tcf rfl ?_ | refine tskip ?_ | refine treg (by kernel_rfl) ?_ | refine tdraw (by kernel_rfl) (by decide +kernel) ?_ | refine tblock ?_ | refine tblk ?_ | refine texit rfl ?_ | refine xixn rfl rfl rfl (by omega) ?_ | refine xld rfl rfl (by assumption) ?_)
      refine xstd hdb3.dr rfl rfl rfl (by omega) (fun w3 hB3 hF3 => ?_)
      repeat' (first | refine xp rfl ?_ | refine xnil ?_ | refine xisq (A.length + P.length + 1) (A.length + P.length + 1) rfl rfl rfl (by omega) (by omega) (by omega) ?_ | refine xai rfl rfl rfl (by omega) (by omega) ?_ | refine xdi rfl rfl rfl (by omega) (by omega) (by omega) ?_ | refine xau rfl rfl rfl (by omega) (by omega) ?_ | refine xct rfl rfl rfl (by omega) ?_ | refine xcf rfl rfl rfl (by omega) ?_ | refine xgy rfl ?_ | refine xgn rfl ?_ | refine tseq ?_ | refine tct rfl ?_ | refine tcf rfl ?_ | refine tskip ?_ | refine treg (by kernel_rfl) ?_ | refine tdraw (by kernel_rfl) (by decide +kernel) ?_ | refine tblock ?_ | refine tblk ?_ | refine texit rfl ?_ | refine xixn rfl rfl rfl (by omega) ?_ | refine xld rfl rfl (by assumption) ?_)
      refine xstd hB3 rfl rfl rfl (by rw [List.length_set]; omega) (fun w4 hB4 hF4 => ?_)
      repeat' (first | refine xp rfl ?_ | refine xnil ?_ | refine xai rfl rfl rfl (by omega) (by omega) ?_ | refine xdi rfl rfl rfl (by omega) (by omega) (by omega) ?_ | refine xau rfl rfl rfl (by omega) (by omega) ?_ | refine xct rfl rfl rfl (by omega) ?_ | refine xcf rfl rfl rfl (by omega) ?_ | refine xgy rfl ?_ | refine xgn rfl ?_ | refine tseq ?_ | refine tct rfl ?_ | refine tcf rfl ?_ | refine tskip ?_ | refine treg (by kernel_rfl) ?_ | refine tdraw (by kernel_rfl) (by decide +kernel) ?_ | refine tblock ?_ | refine tblk ?_ | refine texit rfl ?_ | refine xixn rfl rfl rfl (by omega) ?_ | refine xld rfl rfl (by assumption) ?_)
      have e := swp_mid (A ++ P) x [] q (Q ++ (Y2 ++ C)) (A.length + P.length) (A.length + P.length + 1) (by simp) (by simp)
      refine tfin ⟨(P ++ [q], Q), sub ⟨rfl, rfl, ieq (by dsimp only; simp; omega)⟩, ⟨?_, by rw [← heq]; simp, ((hfr2.d.t hF3).t hF4)⟩, by dsimp only; omega⟩
      unfold swp at e
      rw [e] at hB4
      simpa using hB4
end Eng
end Go.Proofs.Ytighkjohpmlemaa
