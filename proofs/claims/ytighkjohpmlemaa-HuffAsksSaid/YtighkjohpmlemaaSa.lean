/-
  The library's stable sort of ints: exchanging and rotating parts.
-/
import Derived.Test.YtighkjohpmlemaaMemC
import Derived.Test.YtighkjohpmlemaaHb
namespace Go.Proofs.Ytighkjohpmlemaa
open Go.RowKit
namespace Eng

/-- Block g begins with these ints. -/
def DB (w : World) (g : Nat) (l : List Int) : Prop := ∃ rest : List Value, Blk w g 3 (l.map (Value.int .i64) ++ rest).toArray

theorem DB.cell {w : World} {g : Nat} {l : List Int} (h : DB w g l) {i : Nat} {z : Int} (hz : l[i]? = some z) : w.cell? ⟨g, i, none⟩ = some (.int .i64 z) := by
  obtain ⟨rest, h⟩ := h
  have hi : i < l.length := (List.getElem?_eq_some_iff.1 hz).1
  rw [h.cell]
  simp only [List.getElem?_toArray]
  rw [List.getElem?_append_left (by simpa using hi), List.getElem?_map, hz]; rfl
theorem DB.lt {w : World} {g : Nat} {l : List Int} (h : DB w g l) : g < w.heap.size := by obtain ⟨rest, h⟩ := h; exact h.lt
theorem DB.fr {S : Nat → Prop} {w w' : World} {g : Nat} {l : List Int} (h : DB w g l) (hf : Fr S w w') (hS : ¬ S g) : DB w' g l := by obtain ⟨rest, h⟩ := h; exact ⟨rest, h.fr hf hS⟩
theorem DB.dr {w : World} {g : Nat} {l : List Int} (h : DB w g l) : DB w.drew g l := h
theorem DB.ext {w w' : World} {g : Nat} {l : List Int} (h : DB w g l) (hf : Ext w w') : DB w' g l := h.fr hf fun hh => hh

variable {hs : List Nat} {H : World → Prop} {full : Array Oper} {K : Env → World → Prop} {rest : List Oper} {env : Env} {w : World} {d : Tmp} {dst : Option Tmp} {ty : TypeId} {pos : String} {af : Array Edge}

theorem xldd {t : TypeId} {x : Operand} {g i : Nat} {l : List Int} (hB : DB w g l) (hx : evo env x = some (.pointer (some ⟨g, i, none⟩))) (ht : one t = true) (hi : i < l.length)
    (h : xs Try.prog isI isS hs H full K rest ((d, .int .i64 (l.getD i 0)) :: env) w) (hm : memb hs (some d) = false := by rfl) : xs Try.prog isI isS hs H full K (⟨some d, .load t x, ty, pos, af, none⟩ :: rest) env w :=
  xld hx ht (hB.cell (z := l.getD i 0) (by rw [List.getD_eq_getElem?_getD, List.getElem?_eq_getElem hi]; rfl)) h hm

theorem xstd {t : TypeId} {x y : Operand} {g i : Nat} {l : List Int} {z : Int} (hB : DB w g l) (hx : evo env x = some (.pointer (some ⟨g, i, none⟩))) (hy : evo env y = some (.int .i64 z)) (ht : one t = true) (hi : i < l.length)
    (h : ∀ w', DB w' g (l.set i z) → Fr (· = g) w w' → xs Try.prog isI isS hs H full K rest env w') (hH : ∀ w', Fr (· = g) w w' → H w' := by intros; trivial) : xs Try.prog isI isS hs H full K (⟨none, .store t x y, ty, pos, af, none⟩ :: rest) env w := by
  obtain ⟨r, hB⟩ := hB
  refine xstb hB hx hy ht rfl (by simp; omega) (fun w' hB' hF => h w' ⟨r, ?_⟩ hF) hH
  rw [List.map_set]
  have : ((l.map (Value.int .i64) ++ r).toArray).setIfInBounds i (.int .i64 z) = ((l.map (Value.int .i64)).set i (.int .i64 z) ++ r).toArray := by
    rw [List.setIfInBounds_toArray, List.set_append_left _ _ (by simpa using hi)]
  rw [this] at hB'
  exact hB'

/-- The exchange as the code makes it. -/
def swp (l : List Int) (i j : Nat) : List Int := (l.set i (l.getD j 0)).set j (l.getD i 0)
@[simp] theorem length_swp (l : List Int) (i j : Nat) : (swp l i j).length = l.length := by simp [swp]

theorem get_mid (A : List Int) (x : Int) (C : List Int) (i : Nat) (h : i = A.length) : (A ++ x :: C).getD i 0 = x := by subst h; simp
theorem set_mid (A : List Int) (x y : Int) (C : List Int) (i : Nat) (h : i = A.length) : (A ++ x :: C).set i y = A ++ y :: C := by subst h; simp

theorem swp_mid (A : List Int) (x : Int) (M : List Int) (y : Int) (C : List Int) (i j : Nat) (hi : i = A.length) (hj : j = A.length + 1 + M.length) : swp (A ++ x :: (M ++ y :: C)) i j = A ++ y :: (M ++ x :: C) := by
  unfold swp
  rw [get_mid A x _ i hi, set_mid A x _ _ i hi]
  have e : ∀ a : Int, A ++ a :: (M ++ y :: C) = (A ++ a :: M) ++ y :: C := fun a => by simp
  rw [e x, get_mid _ y C j (by simp; omega), e, set_mid _ y _ C j (by simp; omega)]
  simp
theorem swp_mid' (A : List Int) (x : Int) (M : List Int) (y : Int) (C : List Int) (i j : Nat) (hi : i = A.length) (hj : j = A.length + 1 + M.length) : swp (A ++ x :: (M ++ y :: C)) j i = A ++ y :: (M ++ x :: C) := by
  rw [← swp_mid A x M y C i j hi hj]
  unfold swp
  rw [List.set_comm _ _ (by omega)]

/-- i exchanges of neighbouring places a.. and b... -/
def swps (l : List Int) (a b : Nat) : Nat → List Int
  | 0 => l
  | i + 1 => swp (swps l a b i) (a + i) (b + i)
@[simp] theorem length_swps (l : List Int) (a b i : Nat) : (swps l a b i).length = l.length := by induction i with
  | zero => rfl
  | succ i ih => simp [swps, ih]

theorem swps_eq (A X M Y C : List Int) (hXY : X.length = Y.length) : ∀ i, i ≤ X.length → swps (A ++ X ++ M ++ Y ++ C) A.length (A.length + X.length + M.length) i = A ++ Y.take i ++ X.drop i ++ M ++ X.take i ++ Y.drop i ++ C
  | 0, _ => by simp [swps]
  | i + 1, h => by
    rw [swps, swps_eq A X M Y C hXY i (by omega)]
    obtain ⟨x, hx⟩ : ∃ x, X[i]? = some x := ⟨_, List.getElem?_eq_getElem (by omega)⟩
    obtain ⟨y, hy⟩ : ∃ y, Y[i]? = some y := ⟨_, List.getElem?_eq_getElem (by omega)⟩
    have hdx : X.drop i = x :: X.drop (i + 1) := by rw [List.drop_eq_getElem_cons (by omega)]; rw [List.getElem?_eq_getElem (by omega)] at hx; injection hx with hx; rw [hx]
    have hdy : Y.drop i = y :: Y.drop (i + 1) := by rw [List.drop_eq_getElem_cons (by omega)]; rw [List.getElem?_eq_getElem (by omega)] at hy; injection hy with hy; rw [hy]
    have htx : X.take (i + 1) = X.take i ++ [x] := by rw [List.take_add_one, hx]; rfl
    have hty : Y.take (i + 1) = Y.take i ++ [y] := by rw [List.take_add_one, hy]; rfl
    have hlY : (Y.take i).length = i := by rw [List.length_take]; omega
    have hlX : (X.take i).length = i := by rw [List.length_take]; omega
    have hlD : (X.drop (i + 1)).length = X.length - (i + 1) := List.length_drop
    rw [hdx, hdy, htx, hty]
    have := swp_mid (A ++ Y.take i) x (X.drop (i + 1) ++ M ++ X.take i) y (Y.drop (i + 1) ++ C) (A.length + i) (A.length + X.length + M.length + i) (by simp [hlY]) (by simp only [List.length_append, hlY, hlD, hlX]; omega)
    simpa using this

structure SwpI (l : List Int) (a b n g : Nat) (w0 : World) (i : Nat) (w : World) : Prop where
  le : i ≤ n
  db : DB w g (swps l a b i)
  fr : Fr (· = g) w0 w

set_option maxRecDepth 20000 in
set_option maxHeartbeats 1000000 in
theorem swapRange_walk (w : World) (g n c a b k : Nat) (fv : Value) (l : List Int) (hB : DB w g l) (hn : n = l.length) (hl : n ≤ 100000) (ha : a + k ≤ n) (hb : b + k ≤ n) :
    Does Try.prog 98 #[.slice (some ⟨g, 0, none⟩) n c, .int .i64 a, .int .i64 b, .int .i64 k, fv] w fun _ w' => DB w' g (swps l a b k) ∧ Fr (· = g) w w' := by
  refine does5 Try.func98 rfl (by kernel_rfl) ?_
  repeat' (first | refine xp rfl ?_ | refine xnil ?_ | refine xai rfl rfl rfl (by omega) (by omega) ?_ | refine xdi rfl rfl rfl (by omega) (by omega) (by omega) ?_ | refine xau rfl rfl rfl (by omega) (by omega) ?_ | refine xct rfl rfl rfl (by omega) ?_ | refine xcf rfl rfl rfl (by omega) ?_ | refine xgy rfl ?_ | refine xgn rfl ?_ | refine tseq ?_ | refine tct rfl ?_ | refine tcf rfl ?_ | refine tskip ?_ | refine treg (by kernel_rfl) ?_ | refine tdraw (by kernel_rfl) (by decide +kernel) ?_ | refine tblock ?_ | refine tblk ?_ | refine texit rfl ?_ | refine xixn rfl rfl rfl (by omega) ?_ | refine xld rfl rfl (by assumption) ?_)
  refine tloop (α := Nat) (fun i => [(0, .slice (some ⟨g, 0, none⟩) n c), (1, .int .i64 (a : Int)), (2, .int .i64 (b : Int)), (3, .int .i64 (k : Int)), (10, .int .i64 (i : Int))]) (SwpI l a b k g w) (fun i => k - i) 0 (sub ⟨rfl, rfl, rfl, rfl, rfl⟩) ⟨by omega, hB, Fr.refl _ _⟩ ?_
  rintro i w1 ⟨hi, hdb, hfr⟩
  have hlen : (swps l a b i).length = n := by rw [length_swps, hn]
  by_cases hlt : i < k
  · repeat' (first | refine xp rfl ?_ | refine xnil ?_ | refine xai rfl rfl rfl (by omega) (by omega) ?_ | refine xdi rfl rfl rfl (by omega) (by omega) (by omega) ?_ | refine xau rfl rfl rfl (by omega) (by omega) ?_ | refine xct rfl rfl rfl (by omega) ?_ | refine xcf rfl rfl rfl (by omega) ?_ | refine xgy rfl ?_ | refine xgn rfl ?_ | refine tseq ?_ | refine tct rfl ?_ | refine tcf rfl ?_ | refine tskip ?_ | refine treg (by kernel_rfl) ?_ | refine tdraw (by kernel_rfl) (by decide +kernel) ?_ | refine tblock ?_ | refine tblk ?_ | refine texit rfl ?_ | refine xixn rfl rfl rfl (by omega) ?_ | refine xld rfl rfl (by assumption) ?_ | refine xisq (b + i) (b + i) rfl rfl rfl (by omega) (by omega) (by omega) ?_ | refine xisq (a + i) (a + i) rfl rfl rfl (by omega) (by omega) (by omega) ?_ | refine xldd (by assumption) rfl rfl (by omega) ?_)
    refine xstd hdb rfl rfl rfl (by omega) (fun w2 hB2 hF2 => ?_)
    repeat' (first | refine xp rfl ?_ | refine xnil ?_ | refine xai rfl rfl rfl (by omega) (by omega) ?_ | refine xdi rfl rfl rfl (by omega) (by omega) (by omega) ?_ | refine xau rfl rfl rfl (by omega) (by omega) ?_ | refine xct rfl rfl rfl (by omega) ?_ | refine xcf rfl rfl rfl (by omega) ?_ | refine xgy rfl ?_ | refine xgn rfl ?_ | refine tseq ?_ | refine tct rfl ?_ | refine tcf rfl ?_ | refine tskip ?_ | refine treg (by kernel_rfl) ?_ | refine tdraw (by kernel_rfl) (by decide +kernel) ?_ | refine tblock ?_ | refine tblk ?_ | refine texit rfl ?_ | refine xixn rfl rfl rfl (by omega) ?_ | refine xld rfl rfl (by assumption) ?_ | refine xisq (b + i) (b + i) rfl rfl rfl (by omega) (by omega) (by omega) ?_ | refine xisq (a + i) (a + i) rfl rfl rfl (by omega) (by omega) (by omega) ?_)
    refine xstd hB2 rfl rfl rfl (by rw [List.length_set]; omega) (fun w3 hB3 hF3 => ?_)
    repeat' (first | refine xp rfl ?_ | refine xnil ?_ | refine xai rfl rfl rfl (by omega) (by omega) ?_ | refine xdi rfl rfl rfl (by omega) (by omega) (by omega) ?_ | refine xau rfl rfl rfl (by omega) (by omega) ?_ | refine xct rfl rfl rfl (by omega) ?_ | refine xcf rfl rfl rfl (by omega) ?_ | refine xgy rfl ?_ | refine xgn rfl ?_ | refine tseq ?_ | refine tct rfl ?_ | refine tcf rfl ?_ | refine tskip ?_ | refine treg (by kernel_rfl) ?_ | refine tdraw (by kernel_rfl) (by decide +kernel) ?_ | refine tblock ?_ | refine tblk ?_ | refine texit rfl ?_ | refine xixn rfl rfl rfl (by omega) ?_ | refine xld rfl rfl (by assumption) ?_)
    exact tfin ⟨i + 1, sub ⟨rfl, rfl, rfl, rfl, rfl⟩, ⟨by omega, by simpa [swps, swp] using hB3, (hfr.d.t hF2).t hF3⟩, by dsimp only; omega⟩
  · obtain rfl : i = k := by omega
    repeat' (first | refine xp rfl ?_ | refine xnil ?_ | refine xai rfl rfl rfl (by omega) (by omega) ?_ | refine xdi rfl rfl rfl (by omega) (by omega) (by omega) ?_ | refine xau rfl rfl rfl (by omega) (by omega) ?_ | refine xct rfl rfl rfl (by omega) ?_ | refine xcf rfl rfl rfl (by omega) ?_ | refine xgy rfl ?_ | refine xgn rfl ?_ | refine tseq ?_ | refine tct rfl ?_ | refine tcf rfl ?_ | refine tskip ?_ | refine treg (by kernel_rfl) ?_ | refine tdraw (by kernel_rfl) (by decide +kernel) ?_ | refine tblock ?_ | refine tblk ?_ | refine texit rfl ?_ | refine xixn rfl rfl rfl (by omega) ?_ | refine xld rfl rfl (by assumption) ?_)
    exact tend0 rfl ⟨hdb, hfr⟩

theorem swapRange_does (w : World) (g n c : Nat) (fv : Value) (A X M Y C : List Int) (hB : DB w g (A ++ X ++ M ++ Y ++ C)) (hXY : X.length = Y.length) (hn : n = (A ++ X ++ M ++ Y ++ C).length) (hl : n ≤ 100000) (a b k : Int) (ha : a = A.length) (hb : b = A.length + X.length + M.length) (hk : k = X.length) :
    Does Try.prog 98 #[.slice (some ⟨g, 0, none⟩) n c, .int .i64 a, .int .i64 b, .int .i64 k, fv] w fun _ w' => DB w' g (A ++ Y ++ M ++ X ++ C) ∧ Fr (· = g) w w' := by
  have hn' := hn
  simp only [List.length_append] at hn'
  have := swapRange_walk w g n c A.length (A.length + X.length + M.length) X.length fv _ hB hn hl (by omega) (by omega)
  rw [swps_eq A X M Y C hXY X.length (Nat.le_refl _)] at this
  have e : (List.drop X.length X) = [] := by simp
  have e2 : Y.drop X.length = [] := by rw [hXY]; simp
  have e3 : Y.take X.length = Y := by rw [hXY]; simp
  rw [e, e2, e3, List.take_length] at this
  subst ha; subst hb; subst hk
  simpa using this

structure RotI (T : List Int) (m g : Nat) (w0 : World) (x : List Int × List Int × List Int × List Int) (w : World) : Prop where
  db : DB w g (x.1 ++ x.2.1 ++ x.2.2.1 ++ x.2.2.2)
  tgt : x.1 ++ x.2.2.1 ++ x.2.1 ++ x.2.2.2 = T
  mid : x.1.length + x.2.1.length = m
  p1 : 0 < x.2.1.length
  p2 : 0 < x.2.2.1.length
  fr : Fr (· = g) w0 w

set_option maxRecDepth 20000 in
set_option maxHeartbeats 1000000 in
theorem rotate_does (w : World) (g n c : Nat) (fv : Value) (A X Y C : List Int) (hB : DB w g (A ++ X ++ Y ++ C)) (hn : n = A.length + X.length + Y.length + C.length) (hl : n ≤ 100000) (a m b : Int) (ha : a = A.length) (hm : m = A.length + X.length) (hb : b = A.length + X.length + Y.length) (h1 : 0 < X.length) (h2 : 0 < Y.length) :
    Does Try.prog 97 #[.slice (some ⟨g, 0, none⟩) n c, .int .i64 a, .int .i64 m, .int .i64 b, fv] w fun _ w' => DB w' g (A ++ Y ++ X ++ C) ∧ Fr (· = g) w w' := by
  subst ha; subst hm; subst hb
  refine does5 Try.func97 rfl (by kernel_rfl) ?_
  repeat' (first | refine xp rfl ?_ | refine xnil ?_ | refine xai rfl rfl rfl (by omega) (by omega) ?_ | refine xdi rfl rfl rfl (by omega) (by omega) (by omega) ?_ | refine xau rfl rfl rfl (by omega) (by omega) ?_ | refine xct rfl rfl rfl (by omega) ?_ | refine xcf rfl rfl rfl (by omega) ?_ | refine xgy rfl ?_ | refine xgn rfl ?_ | refine tseq ?_ | refine tct rfl ?_ | refine tcf rfl ?_ | refine tskip ?_ | refine treg (by kernel_rfl) ?_ | refine tdraw (by kernel_rfl) (by decide +kernel) ?_ | refine tblock ?_ | refine tblk ?_ | refine texit rfl ?_ | refine xixn rfl rfl rfl (by omega) ?_ | refine xld rfl rfl (by assumption) ?_)
  refine tloop (α := List Int × List Int × List Int × List Int) (fun x => [(0, .slice (some ⟨g, 0, none⟩) n c), (2, .int .i64 ((A.length : Int) + X.length)), (4, fv), (10, .int .i64 (x.2.1.length : Int)), (11, .int .i64 (x.2.2.1.length : Int))]) (RotI (A ++ Y ++ X ++ C) (A.length + X.length) g w) (fun x => x.2.1.length + x.2.2.1.length) (A, X, Y, C) (sub ⟨rfl, rfl, rfl, ieq (by dsimp only; omega), ieq (by dsimp only; omega)⟩) ⟨hB, rfl, rfl, h1, h2, Fr.refl _ _⟩ ?_
  rintro ⟨A1, X1, Y1, C1⟩ w1 ⟨hdb, htg, hmid, hp1, hp2, hfr⟩
  dsimp only at *
  have hlt := congrArg List.length htg
  simp only [List.length_append] at hlt
  by_cases he : X1.length = Y1.length
  · repeat' (first | refine xp rfl ?_ | refine xnil ?_ | refine xai rfl rfl rfl (by omega) (by omega) ?_ | refine xdi rfl rfl rfl (by omega) (by omega) (by omega) ?_ | refine xau rfl rfl rfl (by omega) (by omega) ?_ | refine xct rfl rfl rfl (by omega) ?_ | refine xcf rfl rfl rfl (by omega) ?_ | refine xgy rfl ?_ | refine xgn rfl ?_ | refine tseq ?_ | refine tct rfl ?_ | refine tcf rfl ?_ | refine tskip ?_ | refine treg (by kernel_rfl) ?_ | refine tdraw (by kernel_rfl) (by decide +kernel) ?_ | refine tblock ?_ | refine tblk ?_ | refine texit rfl ?_ | refine xixn rfl rfl rfl (by omega) ?_ | refine xld rfl rfl (by assumption) ?_)
    refine xcall (S := fun _ w' => DB w' g (A1 ++ Y1 ++ [] ++ X1 ++ C1) ∧ Fr (· = g) w1 w') rfl rfl (swapRange_does w1 g n c fv A1 X1 [] Y1 C1 (by simpa using hdb) he (by simp; omega) hl _ _ _ (by omega) (by simp; omega) (by omega)) ?_
    rintro v w2 ⟨hd2, hf2⟩
    repeat' (first | refine xp rfl ?_ | refine xnil ?_ | refine xai rfl rfl rfl (by omega) (by omega) ?_ | refine xdi rfl rfl rfl (by omega) (by omega) (by omega) ?_ | refine xau rfl rfl rfl (by omega) (by omega) ?_ | refine xct rfl rfl rfl (by omega) ?_ | refine xcf rfl rfl rfl (by omega) ?_ | refine xgy rfl ?_ | refine xgn rfl ?_ | refine tseq ?_ | refine tct rfl ?_ | refine tcf rfl ?_ | refine tskip ?_ | refine treg (by kernel_rfl) ?_ | refine tdraw (by kernel_rfl) (by decide +kernel) ?_ | refine tblock ?_ | refine tblk ?_ | refine texit rfl ?_ | refine xixn rfl rfl rfl (by omega) ?_ | refine xld rfl rfl (by assumption) ?_)
    refine tend0 rfl ⟨?_, hfr.t hf2⟩
    rw [← htg]; simpa using hd2
  · by_cases hgt : Y1.length < X1.length
    · obtain ⟨P, Q, rfl, hP⟩ : ∃ P Q, X1 = P ++ Q ∧ P.length = Y1.length := ⟨X1.take Y1.length, X1.drop Y1.length, (List.take_append_drop _ _).symm, by rw [List.length_take]; omega⟩
      simp only [List.length_append] at *
      repeat' (first | refine xp rfl ?_ | refine xnil ?_ | refine xai rfl rfl rfl (by omega) (by omega) ?_ | refine xdi rfl rfl rfl (by omega) (by omega) (by omega) ?_ | refine xau rfl rfl rfl (by omega) (by omega) ?_ | refine xct rfl rfl rfl (by omega) ?_ | refine xcf rfl rfl rfl (by omega) ?_ | refine xgy rfl ?_ | refine xgn rfl ?_ | refine tseq ?_ | refine tct rfl ?_ | refine tcf rfl ?_ | refine tskip ?_ | refine treg (by kernel_rfl) ?_ | refine tdraw (by kernel_rfl) (by decide +kernel) ?_ | refine tblock ?_ | refine tblk ?_ | refine texit rfl ?_ | refine xixn rfl rfl rfl (by omega) ?_ | refine xld rfl rfl (by assumption) ?_)
      refine xcall (S := fun _ w' => DB w' g (A1 ++ Y1 ++ Q ++ P ++ C1) ∧ Fr (· = g) w1 w') rfl rfl (swapRange_does w1 g n c fv A1 P Q Y1 C1 (by simpa using hdb) hP (by simp; omega) hl _ _ _ (by omega) (by omega) (by omega)) ?_
      rintro v w2 ⟨hd2, hf2⟩
      repeat' (first | refine xp rfl ?_ | refine xnil ?_ | refine xai rfl rfl rfl (by omega) (by omega) ?_ | refine xdi rfl rfl rfl (by omega) (by omega) (by omega) ?_ | refine xau rfl rfl rfl (by omega) (by omega) ?_ | refine xct rfl rfl rfl (by omega) ?_ | refine xcf rfl rfl rfl (by omega) ?_ | refine xgy rfl ?_ | refine xgn rfl ?_ | refine tseq ?_ | refine tct rfl ?_ | refine tcf rfl ?_ | refine tskip ?_ | refine treg (by kernel_rfl) ?_ | refine tdraw (by kernel_rfl) (by decide +kernel) ?_ | refine tblock ?_ | refine tblk ?_ | refine texit rfl ?_ | refine xixn rfl rfl rfl (by omega) ?_ | refine xld rfl rfl (by assumption) ?_)
      exact tfin ⟨(A1 ++ Y1, Q, P, C1), sub ⟨rfl, rfl, rfl, ieq (by dsimp only; omega), ieq (by dsimp only; omega)⟩, ⟨by simpa using hd2, by rw [← htg]; simp, by simp; omega, by dsimp only; omega, by dsimp only; omega, hfr.t hf2⟩, by dsimp only; (try simp only [List.length_append]); omega⟩
    · obtain ⟨P, Q, rfl, hP⟩ : ∃ P Q, Y1 = P ++ Q ∧ Q.length = X1.length := ⟨Y1.take (Y1.length - X1.length), Y1.drop (Y1.length - X1.length), (List.take_append_drop _ _).symm, by rw [List.length_drop]; omega⟩
      simp only [List.length_append] at *
      repeat' (first | refine xp rfl ?_ | refine xnil ?_ | refine xai rfl rfl rfl (by omega) (by omega) ?_ | refine xdi rfl rfl rfl (by omega) (by omega) (by omega) ?_ | refine xau rfl rfl rfl (by omega) (by omega) ?_ | refine xct rfl rfl rfl (by omega) ?_ | refine xcf rfl rfl rfl (by omega) ?_ | refine xgy rfl ?_ | refine xgn rfl ?_ | refine tseq ?_ | refine tct rfl ?_ | refine tcf rfl ?_ | refine tskip ?_ | refine treg (by kernel_rfl) ?_ | refine tdraw (by kernel_rfl) (by decide +kernel) ?_ | refine tblock ?_ | refine tblk ?_ | refine texit rfl ?_ | refine xixn rfl rfl rfl (by omega) ?_ | refine xld rfl rfl (by assumption) ?_)
      refine xcall (S := fun _ w' => DB w' g (A1 ++ Q ++ P ++ X1 ++ C1) ∧ Fr (· = g) w1 w') rfl rfl (swapRange_does w1 g n c fv A1 X1 P Q C1 (by simpa using hdb) hP.symm (by simp; omega) hl _ _ _ (by omega) (by omega) (by omega)) ?_
      rintro v w2 ⟨hd2, hf2⟩
      repeat' (first | refine xp rfl ?_ | refine xnil ?_ | refine xai rfl rfl rfl (by omega) (by omega) ?_ | refine xdi rfl rfl rfl (by omega) (by omega) (by omega) ?_ | refine xau rfl rfl rfl (by omega) (by omega) ?_ | refine xct rfl rfl rfl (by omega) ?_ | refine xcf rfl rfl rfl (by omega) ?_ | refine xgy rfl ?_ | refine xgn rfl ?_ | refine tseq ?_ | refine tct rfl ?_ | refine tcf rfl ?_ | refine tskip ?_ | refine treg (by kernel_rfl) ?_ | refine tdraw (by kernel_rfl) (by decide +kernel) ?_ | refine tblock ?_ | refine tblk ?_ | refine texit rfl ?_ | refine xixn rfl rfl rfl (by omega) ?_ | refine xld rfl rfl (by assumption) ?_)
      exact tfin ⟨(A1, Q, P, X1 ++ C1), sub ⟨rfl, rfl, rfl, ieq (by dsimp only; omega), ieq (by dsimp only; omega)⟩, ⟨by simpa using hd2, by rw [← htg]; simp, by dsimp only; omega, by dsimp only; omega, by dsimp only; omega, hfr.t hf2⟩, by dsimp only; (try simp only [List.length_append]); omega⟩
end Eng
end Go.Proofs.Ytighkjohpmlemaa
