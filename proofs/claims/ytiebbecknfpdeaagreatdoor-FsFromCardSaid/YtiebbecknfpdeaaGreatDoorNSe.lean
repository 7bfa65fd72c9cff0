/-
  Parts of the proof: Se.
-/
import Derived.Test.YtiebbecknfpdeaaGreatDoorNB0a
import Derived.Test.YtiebbecknfpdeaaGreatDoorNB0b
set_option maxRecDepth 100000
set_option maxHeartbeats 64000000
namespace Go.Proofs.YtiebbecknfpdeaaGreatDoor.Eng
open Go.RowKit
section
abbrev Tg := Nat × En
def tgC (x : Tg) : List Value := enC x.2
theorem tgC_len (x : Tg) : (tgC x).length = 2 := rfl
def DB (zs : Nat) (w : World) (g : Nat) (l : List Tg) : Prop := ∃ rest : List Value, l.length * 2 + rest.length = zs ∧ Blk w g 54 (l.flatMap tgC ++ rest).toArray
variable {zs : Nat}
theorem DB.cell {w : World} {g : Nat} {l : List Tg} (h : DB zs w g l) {i : Nat} {z : Tg} (hz : l[i]? = some z) {j : Nat} {u : Value} (hu : (tgC z)[j]? = some u) : w.cell? ⟨g, i * 2 + j, none⟩ = some u := by
 obtain ⟨rest, _, h⟩ := h
 rw [h.cell, List.getElem?_toArray]
 have := flat_get tgC_len hz hu
 rw [List.getElem?_append_left (List.getElem?_eq_some_iff.1 this).1]
 exact this
theorem DB.lt {w : World} {g : Nat} {l : List Tg} (h : DB zs w g l) : g < w.heap.size := by obtain ⟨rest, hz, h⟩ := h; exact h.lt
theorem DB.fr {S : Nat → Prop} {w w' : World} {g : Nat} {l : List Tg} (h : DB zs w g l) (hf : Fr S w w') (hS : ¬ S g) : DB zs w' g l := by obtain ⟨rest, hz, h⟩ := h; exact ⟨rest, hz, h.fr hf hS⟩
theorem DB.dr {w : World} {g : Nat} {l : List Tg} (h : DB zs w g l) : DB zs w.drew g l := h
theorem DB.ext {w w' : World} {g : Nat} {l : List Tg} (h : DB zs w g l) (hf : Ext w w') : DB zs w' g l := h.fr hf fun hh => hh
variable {hs : List Nat} {H : World → Prop} {full : Array Oper} {K : Env → World → Prop} {rest : List Oper} {env : Env} {w : World} {d : Tmp} {dst : Option Tmp} {ty : TypeId} {pos : String} {af : Array Edge}
theorem xldd {x : Operand} {g i q : Nat} {l : List Tg} (hB : DB zs w g l) (hx : evo env x = some (.pointer (some ⟨g, q, none⟩))) (hq : q = i * 2) (hi : i < l.length)
  (h : xs Tryz.prog isI isS hs H full K rest ((d, .agg (tgC (l.getD i default)).toArray) :: env) w) (hm : memb hs (some d) = false := by rfl) : xs Tryz.prog isI isS hs H full K (⟨some d, .load 54 x, ty, pos, af, none⟩ :: rest) env w := by
 subst hq
 have hz : l[i]? = some (l.getD i default) := by rw [List.getD_eq_getElem?_getD, List.getElem?_eq_getElem hi]; rfl
 exact xldz (cs := tgC (l.getD i default)) hx (by kernel_rfl) (fun j u hu => hB.cell hz hu) h hm
theorem xst2 {t bt : TypeId} {x y : Operand} {g q : Nat} {cs : Array Value} {u v : Value} (hB : Blk w g bt cs) (hx : evo env x = some (.pointer (some ⟨g, q, none⟩))) (hy : evo env y = some (.agg #[u, v])) (ht : get l_agg t = some 2) (hu : u.oneCell' = true) (hv : v.oneCell' = true) (hi : q + 1 < cs.size)
  (h : ∀ w', Blk w' g bt ((cs.setIfInBounds q u).setIfInBounds (q + 1) v) → Fr (· = g) w w' → xs Tryz.prog isI isS hs H full K rest env w') (hH : ∀ w', Fr (· = g) w w' → H w' := by intros; trivial) : xs Tryz.prog isI isS hs H full K (⟨none, .store t x y, ty, pos, af, none⟩ :: rest) env w := by
 obtain ⟨_, i, h4, h5⟩ := agg_spec ht
 refine x_gen rfl (by simp [opsOK, Op.operands, hx, hy]) ?_
 have c0 : w.cell? ⟨g, q, none⟩ = some (cs[q]'(by omega)) := by rw [hB.cell]; simp [show q < cs.size by omega]
 have hB1 := hB.set_ q u
 have c1 : (w.setCell ⟨g, q, none⟩ u).cell? ⟨g, q + 1, none⟩ = some ((cs.setIfInBounds q u)[q + 1]'(by simpa using hi)) := by rw [hB1.cell]; simp [hi]
 have hB2 := hB1.set_ (q + 1) v
 have hF1 : Fr (· = g) w (w.setCell ⟨g, q, none⟩ u) := Fr.setCell _ w ⟨g, q, none⟩ u fun _ => rfl
 have hF2 : Fr (· = g) (w.setCell ⟨g, q, none⟩ u) ((w.setCell ⟨g, q, none⟩ u).setCell ⟨g, q + 1, none⟩ v) := Fr.setCell _ _ ⟨g, q + 1, none⟩ v fun _ => rfl
 have f0 : w.frozen? ⟨g, q, none⟩ = false := hB.frozen q
 have f1 : (w.setCell ⟨g, q, none⟩ u).frozen? ⟨g, q + 1, none⟩ = false := hB1.frozen (q + 1)
 have hrun : (storeVar t ⟨g, q, none⟩ (.agg #[u, v])).run Tryz.prog w = .ok () ((w.setCell ⟨g, q, none⟩ u).setCell ⟨g, q + 1, none⟩ v) := by
  have e1 : Addr.add ⟨g, q, none⟩ 1 = ⟨g, q + 1, none⟩ := Addr.add_lit g q 1
  simp [storeVar, Value.cells, sizeOf, typeInfo, h4, h5, storeCells, Addr.add_zero', e1, run_store _ _ _ _ _ hu, run_store _ _ _ _ _ hv, c0, c1, f0, f1]
 show out Tryz.prog ((execOp (ev env) ⟨none, .store t x y, ty, pos, af, none⟩).run Tryz.prog w) _
 have e : (execOp (ev env) ⟨none, .store t x y, ty, pos, af, none⟩).run Tryz.prog w = .ok .skip ((w.setCell ⟨g, q, none⟩ u).setCell ⟨g, q + 1, none⟩ v) := by
  simp [execOp, ev_of hx, ev_of hy, Instr.storeAt, Instr.sureAddr, hrun]
 rw [e]
 exact ⟨hH _ (hF1.t hF2), h _ hB2 (hF1.t hF2)⟩
theorem flat_set : ∀ (l : List Tg) (i : Nat) (z : Tg) (r : List Value), i < l.length → ((l.flatMap tgC ++ r).set (i * 2) (.string (su z.2.path))).set (i * 2 + 1) (.int .i64 z.2.node) = (l.set i z).flatMap tgC ++ r
 | [], i, _, _, h => by simp at h
 | x :: l, 0, z, r, _ => rfl
 | x :: l, i + 1, z, r, h => by
  have ih := flat_set l i z r (by simpa using h)
  have e : (x :: l).flatMap tgC ++ r = .string (su x.2.path) :: .int .i64 x.2.node :: (l.flatMap tgC ++ r) := rfl
  have e2 : (((x :: l).flatMap tgC ++ r).set ((i + 1) * 2) (.string (su z.2.path))).set ((i + 1) * 2 + 1) (.int .i64 z.2.node) = .string (su x.2.path) :: .int .i64 x.2.node :: (((l.flatMap tgC ++ r).set (i * 2) (.string (su z.2.path))).set (i * 2 + 1) (.int .i64 z.2.node)) := by
   rw [e, show (i + 1) * 2 = i * 2 + 2 from by omega]
   rfl
  rw [e2, ih]
  rfl
theorem xstd {x y : Operand} {g i q : Nat} {l : List Tg} {z : Tg} (hB : DB zs w g l) (hx : evo env x = some (.pointer (some ⟨g, q, none⟩))) (hy : evo env y = some (.agg (tgC z).toArray)) (hq : q = i * 2) (hi : i < l.length)
  (h : ∀ w', DB zs w' g (l.set i z) → Fr (· = g) w w' → xs Tryz.prog isI isS hs H full K rest env w') (hH : ∀ w', Fr (· = g) w w' → H w' := by intros; trivial) : xs Tryz.prog isI isS hs H full K (⟨none, .store 54 x y, ty, pos, af, none⟩ :: rest) env w := by
 subst hq
 obtain ⟨r, hz, hB⟩ := hB
 have hl := flat_len tgC_len l
 refine xst2 (u := .string (su z.2.path)) (v := .int .i64 z.2.node) hB hx hy (by kernel_rfl) rfl rfl (by simp only [List.size_toArray, List.length_append, hl]; omega) (fun w' hB' hF => h w' ⟨r, by rw [List.length_set]; exact hz, ?_⟩ hF) hH
 rw [List.setIfInBounds_toArray, List.setIfInBounds_toArray, flat_set l i z r hi] at hB'
 exact hB'
def swp (l : List Tg) (i j : Nat) : List Tg := (l.set i (l.getD j default)).set j (l.getD i default)
@[simp] theorem length_swp (l : List Tg) (i j : Nat) : (swp l i j).length = l.length := by simp [swp]
theorem get_mid (A : List Tg) (x : Tg) (C : List Tg) (i : Nat) (h : i = A.length) : (A ++ x :: C).getD i default = x := by subst h; simp
theorem set_mid (A : List Tg) (x y : Tg) (C : List Tg) (i : Nat) (h : i = A.length) : (A ++ x :: C).set i y = A ++ y :: C := by subst h; simp
theorem swp_mid (A : List Tg) (x : Tg) (M : List Tg) (y : Tg) (C : List Tg) (i j : Nat) (hi : i = A.length) (hj : j = A.length + 1 + M.length) : swp (A ++ x :: (M ++ y :: C)) i j = A ++ y :: (M ++ x :: C) := by
 unfold swp
 rw [get_mid A x _ i hi, set_mid A x _ _ i hi]
 have e : ∀ a : Tg, A ++ a :: (M ++ y :: C) = (A ++ a :: M) ++ y :: C := fun a => by simp
 rw [e x, get_mid _ y C j (by simp; omega), e, set_mid _ y _ C j (by simp; omega)]
 simp
theorem swp_mid' (A : List Tg) (x : Tg) (M : List Tg) (y : Tg) (C : List Tg) (i j : Nat) (hi : i = A.length) (hj : j = A.length + 1 + M.length) : swp (A ++ x :: (M ++ y :: C)) j i = A ++ y :: (M ++ x :: C) := by
 rw [← swp_mid A x M y C i j hi hj]
 unfold swp
 rw [List.set_comm _ _ (by omega)]
def swps (l : List Tg) (a b : Nat) : Nat → List Tg
 | 0 => l
 | i + 1 => swp (swps l a b i) (a + i) (b + i)
@[simp] theorem length_swps (l : List Tg) (a b i : Nat) : (swps l a b i).length = l.length := by induction i with
 | zero => rfl
 | succ i ih => simp [swps, ih]
theorem swps_eq (A X M Y C : List Tg) (hXY : X.length = Y.length) : ∀ i, i ≤ X.length → swps (A ++ X ++ M ++ Y ++ C) A.length (A.length + X.length + M.length) i = A ++ Y.take i ++ X.drop i ++ M ++ X.take i ++ Y.drop i ++ C
 | 0, _ => by simp [swps]
 | i + 1, h => by
  rw [swps, swps_eq A X M Y C hXY i (by omega)]
  obtain ⟨x, hx⟩ : ∃ x, X[i]? = some x := ⟨_, List.getElem?_eq_getElem (by omega)⟩
  obtain ⟨y, hy⟩ : ∃ y, Y[i]? = some y := ⟨_, List.getElem?_eq_getElem (by omega)⟩
  have hdx : X.drop i = x :: X.drop (i + 1) := by rw [List.drop_eq_getElem_cons (by omega)]; rw [List.getElem?_eq_getElem (by omega)] at hx; injection hx with hx; rw [hx]
  have hdy : Y.drop i = y :: Y.drop (i + 1) := by rw [List.drop_eq_getElem_cons (by omega)]; rw [List.getElem?_eq_getElem (by omega)] at hy; injection hy with hy; rw [hy]
  have htx : X.take (i + 1) = X.take i ++ [x] := by rw [List.take_add_one, hx]; rfl
  have hty : Y.take (i + 1) = Y.take i ++ [y] := by rw [List.take_add_one, hy]; rfl
  have hlY : (Y.take i).length = i := by rw [List.length_take]; omega
  have hlX : (X.take i).length = i := by rw [List.length_take]; omega
  have hlD : (X.drop (i + 1)).length = X.length - (i + 1) := List.length_drop
  rw [hdx, hdy, htx, hty]
  have := swp_mid (A ++ Y.take i) x (X.drop (i + 1) ++ M ++ X.take i) y (Y.drop (i + 1) ++ C) (A.length + i) (A.length + X.length + M.length + i) (by simp [hlY]) (by simp only [List.length_append, hlY, hlD, hlX]; omega)
  simpa using this
structure SwpI (l : List Tg) (a b n g : Nat) (w0 : World) (i : Nat) (w : World) : Prop where
 le : i ≤ n
 db : DB zs w g (swps l a b i)
 fr : Fr (· = g) w0 w
theorem swapRange_walk (w : World) (g n c a b k : Nat) (fv : Value) (l : List Tg) (hB : DB zs w g l) (hn : n = l.length) (hl : n ≤ 100000) (ha : a + k ≤ n) (hb : b + k ≤ n) :
  Does Tryz.prog 245 #[.slice (some ⟨g, 0, none⟩) n c, .int .i64 a, .int .i64 b, .int .i64 k, fv] w fun _ w' => DB zs w' g (swps l a b k) ∧ Fr (· = g) w w' := by
 refine does5 Tryz.func245 rfl (by kernel_rfl) ?_
 refine wk ?_
 refine tloop (α := Nat) (fun i => [(0, .slice (some ⟨g, 0, none⟩) n c), (1, .int .i64 (a : Int)), (2, .int .i64 (b : Int)), (3, .int .i64 (k : Int)), (10, .int .i64 (i : Int))]) (SwpI (zs := zs) l a b k g w) (fun i => k - i) 0 (sub ⟨rfl, rfl, rfl, rfl, rfl⟩) ⟨by omega, hB, Fr.refl _ _⟩ ?_
 rintro i w1 ⟨hi, hdb, hfr⟩
 have hlen : (swps l a b i).length = n := by rw [length_swps, hn]
 by_cases hlt : i < k
 ·repeat' (first | refine wk1 ?_ | refine xizq (b + i) ((b + i) * 2) rfl rfl rfl (by omega) (by omega) (by omega) ?_ | refine xizq (a + i) ((a + i) * 2) rfl rfl rfl (by omega) (by omega) (by omega) ?_ | refine xldd (by assumption) rfl rfl (by omega) ?_ | fail)
  refine xstd hdb rfl rfl rfl (by omega) (fun w2 hB2 hF2 => ?_)
  repeat' (first | refine wk1 ?_ | refine xizq (b + i) ((b + i) * 2) rfl rfl rfl (by omega) (by omega) (by omega) ?_ | refine xizq (a + i) ((a + i) * 2) rfl rfl rfl (by omega) (by omega) (by omega) ?_ | fail)
  refine xstd hB2 rfl rfl rfl (by rw [List.length_set]; omega) (fun w3 hB3 hF3 => ?_)
  refine wk ?_
  exact tfin ⟨i + 1, sub ⟨rfl, rfl, rfl, rfl, rfl⟩, ⟨by omega, by simpa [swps, swp] using hB3, (hfr.d.t hF2).t hF3⟩, by dsimp only; omega⟩
 ·obtain rfl : i = k := by omega
  refine wk ?_
  exact tend0 rfl ⟨hdb, hfr⟩
theorem swapRange_does (w : World) (g n c : Nat) (fv : Value) (A X M Y C : List Tg) (hB : DB zs w g (A ++ X ++ M ++ Y ++ C)) (hXY : X.length = Y.length) (hn : n = (A ++ X ++ M ++ Y ++ C).length) (hl : n ≤ 100000) (a b k : Int) (ha : a = A.length) (hb : b = A.length + X.length + M.length) (hk : k = X.length) :
  Does Tryz.prog 245 #[.slice (some ⟨g, 0, none⟩) n c, .int .i64 a, .int .i64 b, .int .i64 k, fv] w fun _ w' => DB zs w' g (A ++ Y ++ M ++ X ++ C) ∧ Fr (· = g) w w' := by
 have hn' := hn
 simp only [List.length_append] at hn'
 have := swapRange_walk w g n c A.length (A.length + X.length + M.length) X.length fv _ hB hn hl (by omega) (by omega)
 rw [swps_eq A X M Y C hXY X.length (Nat.le_refl _)] at this
 have e : (List.drop X.length X) = [] := by simp
 have e2 : Y.drop X.length = [] := by rw [hXY]; simp
 have e3 : Y.take X.length = Y := by rw [hXY]; simp
 rw [e, e2, e3, List.take_length] at this
 subst ha; subst hb; subst hk
 simpa using this
structure RotI (T : List Tg) (m g : Nat) (w0 : World) (x : List Tg × List Tg × List Tg × List Tg) (w : World) : Prop where
 db : DB zs w g (x.1 ++ x.2.1 ++ x.2.2.1 ++ x.2.2.2)
 tgt : x.1 ++ x.2.2.1 ++ x.2.1 ++ x.2.2.2 = T
 mid : x.1.length + x.2.1.length = m
 p1 : 0 < x.2.1.length
 p2 : 0 < x.2.2.1.length
 fr : Fr (· = g) w0 w
theorem rotate_does (w : World) (g n c : Nat) (fv : Value) (A X Y C : List Tg) (hB : DB zs w g (A ++ X ++ Y ++ C)) (hn : n = A.length + X.length + Y.length + C.length) (hl : n ≤ 100000) (a m b : Int) (ha : a = A.length) (hm : m = A.length + X.length) (hb : b = A.length + X.length + Y.length) (h1 : 0 < X.length) (h2 : 0 < Y.length) :
  Does Tryz.prog 212 #[.slice (some ⟨g, 0, none⟩) n c, .int .i64 a, .int .i64 m, .int .i64 b, fv] w fun _ w' => DB zs w' g (A ++ Y ++ X ++ C) ∧ Fr (· = g) w w' := by
 subst ha; subst hm; subst hb
 refine does5 Tryz.func212 rfl (by kernel_rfl) ?_
 refine wk ?_
 refine tloop (α := List Tg × List Tg × List Tg × List Tg) (fun x => [(0, .slice (some ⟨g, 0, none⟩) n c), (2, .int .i64 ((A.length : Int) + X.length)), (4, fv), (10, .int .i64 (x.2.1.length : Int)), (11, .int .i64 (x.2.2.1.length : Int))]) (RotI (zs := zs) (A ++ Y ++ X ++ C) (A.length + X.length) g w) (fun x => x.2.1.length + x.2.2.1.length) (A, X, Y, C) (sub ⟨rfl, rfl, rfl, ieq (by dsimp only; omega), ieq (by dsimp only; omega)⟩) ⟨hB, rfl, rfl, h1, h2, Fr.refl _ _⟩ ?_
 rintro ⟨A1, X1, Y1, C1⟩ w1 ⟨hdb, htg, hmid, hp1, hp2, hfr⟩
 dsimp only at *
 have hlt := congrArg List.length htg
 simp only [List.length_append] at hlt
 by_cases he : X1.length = Y1.length
 ·refine wk ?_
  refine xcall (S := fun _ w' => DB zs w' g (A1 ++ Y1 ++ [] ++ X1 ++ C1) ∧ Fr (· = g) w1 w') rfl rfl (swapRange_does w1 g n c fv A1 X1 [] Y1 C1 (by simpa using hdb) he (by simp; omega) hl _ _ _ (by omega) (by simp; omega) (by omega)) ?_
  rintro v w2 ⟨hd2, hf2⟩
  refine wk ?_
  refine tend0 rfl ⟨?_, hfr.t hf2⟩
  rw [← htg]; simpa using hd2
 ·by_cases hgt : Y1.length < X1.length
  ·obtain ⟨P, Q, rfl, hP⟩ : ∃ P Q, X1 = P ++ Q ∧ P.length = Y1.length := ⟨X1.take Y1.length, X1.drop Y1.length, (List.take_append_drop _ _).symm, by rw [List.length_take]; omega⟩
   simp only [List.length_append] at *
   refine wk ?_
   refine xcall (S := fun _ w' => DB zs w' g (A1 ++ Y1 ++ Q ++ P ++ C1) ∧ Fr (· = g) w1 w') rfl rfl (swapRange_does w1 g n c fv A1 P Q Y1 C1 (by simpa using hdb) hP (by simp; omega) hl _ _ _ (by omega) (by omega) (by omega)) ?_
   rintro v w2 ⟨hd2, hf2⟩
   refine wk ?_
   exact tfin ⟨(A1 ++ Y1, Q, P, C1), sub ⟨rfl, rfl, rfl, ieq (by dsimp only; omega), ieq (by dsimp only; omega)⟩, ⟨by simpa using hd2, by rw [← htg]; simp, by simp; omega, by dsimp only; omega, by dsimp only; omega, hfr.t hf2⟩, by dsimp only; (try simp only [List.length_append]); omega⟩
  ·obtain ⟨P, Q, rfl, hP⟩ : ∃ P Q, Y1 = P ++ Q ∧ Q.length = X1.length := ⟨Y1.take (Y1.length - X1.length), Y1.drop (Y1.length - X1.length), (List.take_append_drop _ _).symm, by rw [List.length_drop]; omega⟩
   simp only [List.length_append] at *
   refine wk ?_
   refine xcall (S := fun _ w' => DB zs w' g (A1 ++ Q ++ P ++ X1 ++ C1) ∧ Fr (· = g) w1 w') rfl rfl (swapRange_does w1 g n c fv A1 X1 P Q C1 (by simpa using hdb) hP.symm (by simp; omega) hl _ _ _ (by omega) (by omega) (by omega)) ?_
   rintro v w2 ⟨hd2, hf2⟩
   refine wk ?_
   exact tfin ⟨(A1, Q, P, X1 ++ C1), sub ⟨rfl, rfl, rfl, ieq (by dsimp only; omega), ieq (by dsimp only; omega)⟩, ⟨by simpa using hd2, by rw [← htg]; simp, by dsimp only; omega, by dsimp only; omega, by dsimp only; omega, hfr.t hf2⟩, by dsimp only; (try simp only [List.length_append]); omega⟩
end
section
variable {zs : Nat}
variable {hs : List Nat} {H : World → Prop} {full : Array Oper} {K : Env → World → Prop} {rest : List Oper} {env : Env} {w : World} {d : Tmp} {dst : Option Tmp} {ty : TypeId} {pos : String} {af : Array Edge}
def CmpOK (g : Nat) (w : World) (f : FuncId) (cap : Array Value) (D : Tg → Prop) (c : Tg → Int) : Prop :=
 bit m_cal f = true ∧ ∀ w', Fr (· = g) w w' → ∀ x y, D x → D y → Does Tryz.prog f (#[.agg (tgC x).toArray, .agg (tgC y).toArray] ++ cap) w' fun r w'' => Ext w' w'' ∧ ∃ z, r = .int .i64 z ∧ (z < 0 ↔ c x < c y)
theorem CmpOK.fr {g : Nat} {w w' : World} {f : FuncId} {cap : Array Value} {D : Tg → Prop} {c : Tg → Int} (h : CmpOK g w f cap D c) (hf : Fr (· = g) w w') : CmpOK g w' f cap D c := ⟨h.1, fun w2 h2 => h.2 w2 (hf.t h2)⟩
theorem xcmp {f : FuncId} {t : Tmp} {g : Nat} {cap : Array Value} {D : Tg → Prop} {c : Tg → Int} {a b : Operand} {ats : Array TypeId} {x y : Tg} (hC : CmpOK g w f cap D c) (hx : evo env (.tmp t) = some (.func (.func f) #[] cap)) (ha : evs env [a, b] = some [.agg (tgC x).toArray, .agg (tgC y).toArray]) (hDx : D x) (hDy : D y)
  (h : ∀ z w', Ext w w' → (z < 0 ↔ c x < c y) → xs Tryz.prog isI isS hs noH full K rest (put env dst (.int .i64 z)) w') : xs Tryz.prog isI isS hs noH full K (⟨dst, .call { callee := .value (.tmp t), args := #[a, b], argTypes := ats }, ty, pos, af, none⟩ :: rest) env w :=
 xcallv (S := fun r w'' => Ext w w'' ∧ ∃ z, r = .int .i64 z ∧ (z < 0 ↔ c x < c y)) hx ha hC.1 (hC.2 w (Fr.refl _ _) x y hDx hDy) (by rintro v w' ⟨hE, z, rfl, hz⟩; exact h z w' hE hz)
def lt (c : Tg → Int) (x y : Tg) : Prop := c x < c y ∨ c x = c y ∧ x.1 < y.1
def stb (c : Tg → Int) (x y : Tg) : Prop := c x = c y → x.1 < y.1
theorem lt_stb {c : Tg → Int} {x y : Tg} (h : lt c x y) : stb c x y := fun e => by unfold lt at h; omega
theorem lt_trans {c : Tg → Int} {x y z : Tg} (h : lt c x y) (h' : lt c y z) : lt c x z := by unfold lt at *; omega
theorem sorted_last {c : Tg → Int} {P : List Tg} {y x : Tg} (hs : (P ++ [y]).Pairwise (lt c)) (h : lt c y x) : ∀ p ∈ P ++ [y], lt c p x := by
 intro p hp
 rw [List.pairwise_append] at hs
 rcases List.mem_append.1 hp with hp | hp
 ·exact lt_trans (hs.2.2 p hp y (by simp)) h
 ·rw [List.mem_singleton.1 hp]; exact h
structure InsO (c : Tg → Int) (A S C : List Tg) (g : Nat) (w0 : World) (x : List Tg × List Tg) (w : World) : Prop where
 db : DB zs w g (A ++ x.1 ++ x.2 ++ C)
 perm : (x.1 ++ x.2).Perm S
 srt : x.1.Pairwise (lt c)
 st : ∀ y ∈ x.1, ∀ z ∈ x.2, stb c y z
 st2 : x.2.Pairwise (stb c)
 fr : Fr (· = g) w0 w
theorem InsO.dr {c : Tg → Int} {A S C : List Tg} {g : Nat} {w0 : World} {x : List Tg × List Tg} {w : World} (h : InsO (zs := zs) c A S C g w0 x w) : InsO (zs := zs) c A S C g w0 x w.drew := ⟨h.db, h.perm, h.srt, h.st, h.st2, h.fr.d⟩
theorem InsO.ex {c : Tg → Int} {A S C : List Tg} {g : Nat} {w0 : World} {x : List Tg × List Tg} {w w' : World} (h : InsO (zs := zs) c A S C g w0 x w) (he : Ext w w') : InsO (zs := zs) c A S C g w0 x w' := ⟨h.db.ext he, h.perm, h.srt, h.st, h.st2, h.fr.te he⟩
structure InsI (c : Tg → Int) (A S1 : List Tg) (v : Tg) (C : List Tg) (g : Nat) (w0 : World) (x : List Tg × List Tg) (w : World) : Prop where
 db : DB zs w g (A ++ x.1 ++ v :: x.2 ++ C)
 eq : x.1 ++ x.2 = S1
 gt : ∀ q ∈ x.2, c v < c q
 fr : Fr (· = g) w0 w
theorem insertion_does (w : World) (g n cp : Nat) (f : FuncId) (cap : Array Value) (D : Tg → Prop) (c : Tg → Int) (A S C : List Tg) (hB : DB zs w g (A ++ S ++ C)) (hn : n = A.length + S.length + C.length) (hl : n ≤ 100000) (hC : CmpOK g w f cap D c) (hD : ∀ x ∈ S, D x) (hS : S.Pairwise (stb c)) (a b : Int) (ha : a = A.length) (hb : b = A.length + S.length) :
  Does Tryz.prog 192 #[.slice (some ⟨g, 0, none⟩) n cp, .int .i64 a, .int .i64 b, .func (.func f) #[] cap] w fun _ w' => ∃ S', S'.Perm S ∧ S'.Pairwise (lt c) ∧ DB zs w' g (A ++ S' ++ C) ∧ Fr (· = g) w w' := by
 subst ha; subst hb
 refine does4 Tryz.func192 rfl (by kernel_rfl) ?_
 refine wk ?_
 rcases S with _ | ⟨s0, S⟩
 ·refine tloop (α := Unit) (fun _ => [(2, .int .i64 ((A.length : Int) + ([] : List Tg).length)), (8, .int .i64 ((A.length : Int) + 1))]) (fun _ w' => w = w') (fun _ => 0) () (sub ⟨rfl, rfl⟩) rfl ?_
  rintro _ w1 rfl
  simp only [List.length_nil]
  refine wk ?_
  exact tend0 rfl ⟨[], List.Perm.refl _, List.Pairwise.nil, hB, Fr.refl _ _⟩
 rw [List.pairwise_cons] at hS
 refine tloop (α := List Tg × List Tg) (fun x => [(0, .slice (some ⟨g, 0, none⟩) n cp), (1, .int .i64 (A.length : Int)), (2, .int .i64 ((A.length : Int) + (s0 :: S).length)), (3, .func (.func f) #[] cap), (8, .int .i64 ((A.length : Int) + x.1.length))]) (InsO (zs := zs) c A (s0 :: S) C g w) (fun x => x.2.length) ([s0], S) (sub ⟨rfl, rfl, rfl, rfl, ieq (by dsimp only; simp)⟩) ⟨by simpa using hB, by simp, by simp, fun y hy z hz => by rw [List.mem_singleton.1 hy]; exact hS.1 z hz, hS.2, Fr.refl _ _⟩ ?_
 rintro ⟨S1, S2⟩ w1 ⟨hdb, hperm, hsrt, hst, hst2, hfr⟩
 dsimp only at *
 have hlen := hperm.length_eq
 simp only [List.length_append] at hlen
 rcases S2 with _ | ⟨v, S2⟩
 ·simp only [List.length_nil] at hlen
  refine wk ?_
  refine tend0 rfl ⟨S1, by simpa using hperm, hsrt, by simpa using hdb, hfr⟩
 ·simp only [List.length_cons] at hlen hn
  simp only [List.length_cons]
  have hDv : D v := hD v (hperm.subset (by simp))
  have hDS : ∀ y ∈ S1, D y := fun y hy => hD y (hperm.subset (by simp [hy]))
  refine wk ?_
  refine tloop (α := List Tg × List Tg) (fun x => [(0, .slice (some ⟨g, 0, none⟩) n cp), (1, .int .i64 (A.length : Int)), (2, .int .i64 ((A.length : Int) + ((S.length : Int) + 1))), (3, .func (.func f) #[] cap), (8, .int .i64 ((A.length : Int) + S1.length)), (9, .int .i64 ((A.length : Int) + x.1.length))]) (InsI (zs := zs) c A S1 v (S2 ++ C) g w1) (fun x => x.1.length) (S1, []) (sub ⟨rfl, rfl, ieq (by omega), rfl, rfl, rfl⟩) ⟨by simpa using hdb, by simp, by simp, Fr.refl _ _⟩ ?_
  rintro ⟨P, Q⟩ w2 ⟨hdb2, heq, hgt, hfr2⟩
  dsimp only at *
  have hlenPQ := congrArg List.length heq
  simp only [List.length_append] at hlenPQ
  have done : (∀ p ∈ P, lt c p v) → InsO (zs := zs) c A (s0 :: S) C g w (P ++ v :: Q, S2) w2 := fun hp => by
   subst heq
   rw [List.pairwise_append] at hsrt
   rw [List.pairwise_cons] at hst2
   refine ⟨by simpa using hdb2, ?_, ?_, ?_, hst2.2, hfr.t hfr2⟩
   ·refine List.Perm.trans ?_ hperm
    dsimp only
    simp only [List.append_assoc, List.cons_append]
    refine List.Perm.append_left P ?_
    exact (List.perm_middle (a := v) (l₁ := Q) (l₂ := S2)).symm
   ·dsimp only
    rw [List.pairwise_append, List.pairwise_cons]
    refine ⟨hsrt.1, ⟨fun q hq => .inl (hgt q hq), hsrt.2.1⟩, fun p hp' q hq => ?_⟩
    rcases List.mem_cons.1 hq with rfl | hq
    ·exact hp p hp'
    ·exact hsrt.2.2 p hp' q hq
   ·dsimp only
    intro y hy z hz
    rcases List.mem_append.1 hy with hy | hy
    ·exact hst y (by simp [hy]) z (by simp [hz])
    ·rcases List.mem_cons.1 hy with rfl | hy
     ·exact hst2.1 z hz
     ·exact hst y (by simp [hy]) z (by simp [hz])
  rcases List.eq_nil_or_concat P with rfl | ⟨P, y, rfl⟩
  ·simp only [List.length_nil] at *
   refine wk ?_
   exact tfin ⟨([] ++ v :: Q, S2), sub ⟨rfl, rfl, ieq (by omega), rfl, ieq (by dsimp only; simp; omega)⟩, (done (by simp)).dr, by dsimp only; omega⟩
  ·rw [List.concat_eq_append] at *
   simp only [List.length_append, List.length_cons, List.length_nil] at *
   have hdb3 : DB zs w2 g ((A ++ P) ++ y :: ([] ++ v :: (Q ++ (S2 ++ C)))) := by simpa using hdb2
   have hl3 : ((A ++ P) ++ y :: ([] ++ v :: (Q ++ (S2 ++ C)))).length = n := by simp; omega
   have gv : ((A ++ P) ++ y :: ([] ++ v :: (Q ++ (S2 ++ C)))).getD (A.length + P.length + 1) default = v := by
    have := get_mid (A ++ P ++ [y]) v (Q ++ (S2 ++ C)) (A.length + P.length + 1) (by simp; omega)
    simpa using this
   have gy : ((A ++ P) ++ y :: ([] ++ v :: (Q ++ (S2 ++ C)))).getD (A.length + P.length) default = y := get_mid (A ++ P) y _ _ (by simp)
   have hDy : D y := hDS y (by rw [← heq]; simp)
   refine gz12 ?_
   rw [gv, gy]
   refine xcmp ((hC.fr (hfr.t hfr2)).fr (Fr.drew _ _)) rfl rfl hDv hDy (fun z w5 hx5 hz => ?_)
   have hdb5 := hdb3.dr.ext hx5
   by_cases hlt : c v < c y
   ·have hz' := hz.2 hlt
    repeat' (first | refine xp rfl ?_ | refine xnil ?_ | refine xizq (A.length + P.length + 1) ((A.length + P.length + 1) * 2) rfl rfl rfl (by omega) (by omega) (by omega) ?_ | refine xizq (A.length + P.length) ((A.length + P.length) * 2) rfl rfl rfl (by omega) (by omega) (by omega) ?_ | refine xldd hdb5 rfl rfl (by omega) ?_ | refine wk1 ?_ | fail)
    refine xstd hdb5.dr rfl rfl rfl (by omega) (fun w3 hB3 hF3 => ?_)
    repeat' (first | refine xp rfl ?_ | refine xnil ?_ | refine xizq (A.length + P.length) ((A.length + P.length) * 2) rfl rfl rfl (by omega) (by omega) (by omega) ?_ | refine wk1 ?_ | fail)
    refine xstd hB3 rfl rfl rfl (by rw [List.length_set]; omega) (fun w4 hB4 hF4 => ?_)
    refine wk ?_
    have e := swp_mid' (A ++ P) y [] v (Q ++ (S2 ++ C)) (A.length + P.length) (A.length + P.length + 1) (by simp) (by simp)
    refine tfin ⟨(P, y :: Q), sub ⟨rfl, rfl, rfl, rfl, rfl, ieq (by dsimp only; omega)⟩, ⟨?_, by rw [← heq]; simp, fun q hq => ?_, (((hfr2.d.te hx5).d.t hF3).t hF4)⟩, by dsimp only; omega⟩
    ·unfold swp at e
     rw [gv] at *
     rw [e] at hB4
     simpa using hB4
    ·rcases List.mem_cons.1 hq with rfl | hq
     ·exact hlt
     ·exact hgt q hq
   ·have hz' : ¬ z < 0 := fun h => hlt (hz.1 h)
    refine wk ?_
    refine tfin ⟨((P ++ [y]) ++ v :: Q, S2), sub ⟨rfl, rfl, ieq (by omega), rfl, ieq (by dsimp only; simp; omega)⟩, (done ?_).dr.ex hx5, by dsimp only; omega⟩
    have hyv : lt c y v := by
     have := hst y (by rw [← heq]; simp) v (by simp)
     by_cases he : c y = c v
     ·exact .inr ⟨he, this he⟩
     ·exact .inl (by omega)
    rw [← heq, List.pairwise_append] at hsrt
    exact sorted_last hsrt.1 hyv
end
section
variable {zs : Nat}
variable {hs : List Nat} {H : World → Prop} {full : Array Oper} {K : Env → World → Prop} {rest : List Oper} {env : Env} {w : World} {d : Tmp} {dst : Option Tmp} {ty : TypeId} {pos : String} {af : Array Edge}
theorem xhalf {t yt : TypeId} {x y : Operand} {k yk : IntKind} {a : Int} (hx : evo env x = some (.int k a)) (hy : evo env y = some (.int yk 1)) (hk : decide ((1 : Int) ≤ k.bits) = true)
  (h : xs Tryz.prog isI isS hs H full K rest ((d, .int k (a / 2)) :: env) w) : xs Tryz.prog isI isS hs H full K (⟨some d, .binOp .shr t x y yt, ty, pos, af, none⟩ :: rest) env w :=
 xshr hx hy (by omega) (of_decide_eq_true hk) h
theorem srt_get {c : Tg → Int} (A S C : List Tg) (h : S.Pairwise (lt c)) (q q' : Nat) (h1 : A.length ≤ q) (h2 : q < q') (h3 : q' < A.length + S.length) : lt c ((A ++ S ++ C).getD q default) ((A ++ S ++ C).getD q' default) := by
 rw [List.pairwise_iff_getElem] at h
 have := h (q - A.length) (q' - A.length) (by omega) (by omega) (by omega)
 have e : ∀ r, A.length ≤ r → (hr : r - A.length < S.length) → (A ++ S ++ C).getD r default = S[r - A.length] := fun r h1 hr => by
  rw [List.getD_eq_getElem?_getD, List.append_assoc, List.getElem?_append_right h1, List.getElem?_append_left hr, List.getElem?_eq_getElem hr]; rfl
 rw [e q h1 (by omega), e q' (by omega) (by omega)]
 exact this
theorem get_seg (A S C : List Tg) (q : Nat) (hq : q < S.length) (r : Nat) (hr : r = A.length + q) : (A ++ S ++ C).getD r default = S[q] := by
 subst hr
 rw [List.getD_eq_getElem?_getD, List.append_assoc, List.getElem?_append_right (by omega), List.getElem?_append_left (by omega), Nat.add_sub_cancel_left, List.getElem?_eq_getElem hq]; rfl
theorem mem_get (A S C : List Tg) (q : Nat) (h1 : A.length ≤ q) (h3 : q < A.length + S.length) : (A ++ S ++ C).getD q default ∈ S := by
 rw [List.getD_eq_getElem?_getD, List.append_assoc, List.getElem?_append_right h1, List.getElem?_append_left (by omega), List.getElem?_eq_getElem (by omega)]
 exact List.getElem_mem _
theorem all_lt {c : Tg → Int} {Y : List Tg} {y x : Tg} {X : List Tg} (hY : (Y ++ [y]).Pairwise (lt c)) (hX : (x :: X).Pairwise (lt c)) (h : lt c y x) : ∀ p ∈ Y ++ [y], ∀ q ∈ x :: X, lt c p q := by
 intro p hp q hq
 have := sorted_last hY h p hp
 rcases List.mem_cons.1 hq with rfl | hq
 ·exact this
 ·exact lt_trans this ((List.pairwise_cons.1 hX).1 q hq)
structure Bs (p : Nat → Prop) (lo hi : Nat) (l : List Tg) (g : Nat) (w0 : World) (x : Nat × Nat) (w : World) : Prop where
 db : DB zs w g l
 fr : Fr (· = g) w0 w
 l1 : lo ≤ x.1
 l2 : x.1 ≤ x.2
 l3 : x.2 ≤ hi
 yes : ∀ q, lo ≤ q → q < x.1 → p q
 no : ∀ q, x.2 ≤ q → q < hi → ¬ p q
structure ShR (A : List Tg) (x : Tg) (Y C : List Tg) (g : Nat) (w0 : World) (s : List Tg × List Tg) (w : World) : Prop where
 db : DB zs w g (A ++ s.1 ++ x :: s.2 ++ C)
 eq : s.1 ++ s.2 = Y
 fr : Fr (· = g) w0 w
theorem smA (f : FuncId) (cap : Array Value) (D : Tg → Prop) (c : Tg → Int) (g n cp : Nat) (hl : n ≤ 100000) (w : World) (A X Y C : List Tg) (hB : DB zs w g (A ++ X ++ Y ++ C)) (hn : n = A.length + X.length + Y.length + C.length) (hC : CmpOK g w f cap D c) (hD : ∀ x ∈ X ++ Y, D x)
  (hsX : X.Pairwise (lt c)) (hsY : Y.Pairwise (lt c)) (hst : ∀ x ∈ X, ∀ y ∈ Y, stb c x y) (hX0 : 0 < X.length) (hY0 : 0 < Y.length) (hX1 : X.length = 1) :
  Does Tryz.prog 193 #[.slice (some ⟨g, 0, none⟩) n cp, .int .i64 A.length, .int .i64 (A.length + X.length), .int .i64 (A.length + X.length + Y.length), .func (.func f) #[] cap] w fun _ w' => ∃ Z, Z.Perm (X ++ Y) ∧ Z.Pairwise (lt c) ∧ DB zs w' g (A ++ Z ++ C) ∧ Fr (· = g) w w' := by
 have gX := srt_get A X (Y ++ C) hsX
 have gY := srt_get (A ++ X) Y C hsY
 have mX := mem_get A X (Y ++ C)
 have mY := mem_get (A ++ X) Y C
 rw [← List.append_assoc] at gX mX
 simp only [List.length_append] at gY mY
 have hlen : (A ++ X ++ Y ++ C).length = n := by simp; omega
 refine does5 Tryz.func193 rfl (by kernel_rfl) ?_
 obtain ⟨x, rfl⟩ : ∃ x, X = [x] := List.length_eq_one_iff.1 hX1
 simp only [List.length_cons, List.length_nil] at *
 refine wk ?_
 refine tloop (α := Nat × Nat) (fun x => [(0, .slice (some ⟨g, 0, none⟩) n cp), (1, .int .i64 (A.length : Int)), (2, .int .i64 ((A.length : Int) + 1)), (3, .int .i64 ((A.length : Int) + 1 + Y.length)), (4, .func (.func f) #[] cap), (10, .int .i64 (x.1 : Int)), (11, .int .i64 (x.2 : Int))]) (Bs (zs := zs) (fun q => c ((A ++ [x] ++ Y ++ C).getD q default) < c x) (A.length + 1) (A.length + 1 + Y.length) (A ++ [x] ++ Y ++ C) g w) (fun x => x.2 - x.1) (A.length + 1, A.length + 1 + Y.length) (sub ⟨rfl, rfl, ieq (by omega), ieq (by omega), rfl, ieq (by dsimp only; omega), ieq (by dsimp only; omega)⟩) ⟨hB, Fr.refl _ _, by dsimp only; omega, by dsimp only; omega, by dsimp only; omega, fun q _ _ => by dsimp only at *; omega, fun q _ _ => by dsimp only at *; omega⟩ ?_
 rintro ⟨i, j⟩ w1 ⟨hdb, hfr, hl1, hl2, hl3, hy, hno⟩
 dsimp only at *
 have gx : (A ++ [x] ++ Y ++ C).getD A.length default = x := by simp
 by_cases hij : i < j
 ·repeat' (first | refine xp rfl ?_ | refine xnil ?_ | refine xcvu rfl rfl rfl (by omega) (by omega) ?_ | refine xhalf rfl rfl (by kernel_rfl) ?_ | refine xcvi rfl rfl rfl (by omega) (by omega) ?_ | refine xizq ((i + j) / 2) (((i + j) / 2) * 2) rfl rfl rfl (by omega) (by omega) (by omega) ?_ | refine xizq A.length (A.length * 2) rfl rfl rfl (by omega) (by omega) (by omega) ?_ | refine xldd hdb rfl rfl (by omega) ?_ | refine wk1 ?_ | fail)
  rw [gx]
  have hm2 := mY ((i + j) / 2) (by omega) (by omega)
  refine xcmp ((hC.fr hfr).fr (Fr.drew _ _)) rfl rfl (hD _ (List.mem_append_right _ hm2)) (hD _ (by simp)) (fun z w5 hx5 hz => ?_)
  by_cases hlt : c ((A ++ [x] ++ Y ++ C).getD ((i + j) / 2) default) < c x
  ·have hz' := hz.2 hlt
   refine wk ?_
   refine tfin ⟨((i + j) / 2 + 1, j), sub ⟨rfl, rfl, rfl, rfl, rfl, ieq (by dsimp only; omega), rfl⟩, ⟨hdb.dr.ext hx5, hfr.d.te hx5, by dsimp only; omega, by dsimp only; omega, hl3, fun q h1 h2 => ?_, hno⟩, by dsimp only; omega⟩
   dsimp only at *
   by_cases e : q = (i + j) / 2
   ·rw [e]; exact hlt
   ·have := gY q ((i + j) / 2) (by omega) (by omega) (by omega)
    unfold lt at this; omega
  ·have hz' : ¬ z < 0 := fun h => hlt (hz.1 h)
   refine wk ?_
   refine tfin ⟨(i, (i + j) / 2), sub ⟨rfl, rfl, rfl, rfl, rfl, rfl, ieq (by dsimp only; omega)⟩, ⟨hdb.dr.ext hx5, hfr.d.te hx5, hl1, by dsimp only; omega, by dsimp only; omega, hy, fun q h1 h2 => ?_⟩, by dsimp only; omega⟩
   dsimp only at *
   by_cases e : q = (i + j) / 2
   ·rw [e]; exact hlt
   ·have := gY ((i + j) / 2) q (by omega) (by omega) (by omega)
    unfold lt at this; omega
 ·obtain rfl : i = j := by omega
  obtain ⟨Y1, Y2, rfl, hY1⟩ : ∃ P Q, Y = P ++ Q ∧ P.length = i - (A.length + 1) := ⟨Y.take (i - (A.length + 1)), Y.drop (i - (A.length + 1)), (List.take_append_drop _ _).symm, by rw [List.length_take]; omega⟩
  simp only [List.length_append] at *
  have hi : (i : Int) = A.length + 1 + Y1.length := by omega
  have p1 : ∀ y ∈ Y1, c y < c x := fun y hy1 => by
   obtain ⟨q, hq, rfl⟩ := List.getElem_of_mem hy1
   have := hy (A.length + 1 + q) (by omega) (by omega)
   have e := get_seg (A ++ [x]) Y1 (Y2 ++ C) q hq _ (by simp : A.length + 1 + q = (A ++ [x]).length + q)
   rw [show A ++ [x] ++ (Y1 ++ Y2) ++ C = (A ++ [x]) ++ Y1 ++ (Y2 ++ C) by simp, e] at this
   exact this
  have p2 : ∀ y ∈ Y2, ¬ c y < c x := fun y hy1 => by
   obtain ⟨q, hq, rfl⟩ := List.getElem_of_mem hy1
   have := hno (A.length + 1 + Y1.length + q) (by omega) (by omega)
   have e := get_seg (A ++ [x] ++ Y1) Y2 C q hq (A.length + 1 + Y1.length + q) (by simp; omega)
   rw [show A ++ [x] ++ (Y1 ++ Y2) ++ C = (A ++ [x] ++ Y1) ++ Y2 ++ C by simp, e] at this
   exact this
  refine wk ?_
  refine tloop (α := List Tg × List Tg) (fun s => [(0, .slice (some ⟨g, 0, none⟩) n cp), (10, .int .i64 ((A.length : Int) + 1 + Y1.length)), (13, .int .i64 ((A.length : Int) + s.1.length))]) (ShR (zs := zs) A x Y1 (Y2 ++ C) g w1) (fun s => s.2.length) ([], Y1) (sub ⟨rfl, ieq (by omega), ieq (by dsimp only; simp)⟩) ⟨by simpa using hdb, rfl, Fr.refl _ _⟩ ?_
  rintro ⟨P, Q⟩ w2 ⟨hdb2, heq, hfr2⟩
  dsimp only at *
  have hle := congrArg List.length heq
  simp only [List.length_append] at hle
  rcases Q with _ | ⟨q, Q⟩
  ·simp only [List.length_nil] at hle
   obtain rfl : P = Y1 := by simpa using heq
   refine wk ?_
   refine tret0 rfl ⟨P ++ x :: Y2, ?_, ?_, by simpa using hdb2, hfr.t hfr2⟩
   ·exact (List.perm_middle).trans (by simp)
   ·rw [List.pairwise_append] at hsY
    rw [List.pairwise_append, List.pairwise_cons]
    refine ⟨hsY.1, ⟨fun y hy1 => ?_, hsY.2.1⟩, fun p hp q hq => ?_⟩
    ·have h1 := p2 y hy1
     have h2 := hst x (by simp) y (by simp [hy1])
     unfold stb at h2; unfold lt; omega
    ·rcases List.mem_cons.1 hq with rfl | hq
     ·exact .inl (p1 p hp)
     ·exact hsY.2.2 p hp q hq
  ·simp only [List.length_cons] at *
   have hdb3 : DB zs w2 g ((A ++ P) ++ x :: ([] ++ q :: (Q ++ (Y2 ++ C)))) := by simpa using hdb2
   have hl3 : ((A ++ P) ++ x :: ([] ++ q :: (Q ++ (Y2 ++ C)))).length = n := by simp; omega
   refine gz12 ?_
   refine xstd hdb3.dr rfl rfl rfl (by omega) (fun w3 hB3 hF3 => ?_)
   repeat' (first | refine xp rfl ?_ | refine xnil ?_ | refine xizq (A.length + P.length + 1) ((A.length + P.length + 1) * 2) rfl rfl rfl (by omega) (by omega) (by omega) ?_ | refine wk1 ?_ | fail)
   refine xstd hB3 rfl rfl rfl (by rw [List.length_set]; omega) (fun w4 hB4 hF4 => ?_)
   refine wk ?_
   have e := swp_mid (A ++ P) x [] q (Q ++ (Y2 ++ C)) (A.length + P.length) (A.length + P.length + 1) (by simp) (by simp)
   refine tfin ⟨(P ++ [q], Q), sub ⟨rfl, rfl, ieq (by dsimp only; simp; omega)⟩, ⟨?_, by rw [← heq]; simp, ((hfr2.d.t hF3).t hF4)⟩, by dsimp only; omega⟩
   unfold swp at e
   rw [e] at hB4
   simpa using hB4
end
section
variable {zs : Nat}
theorem smB (f : FuncId) (cap : Array Value) (D : Tg → Prop) (c : Tg → Int) (g n cp : Nat) (hl : n ≤ 100000) (w : World) (A X Y C : List Tg) (hB : DB zs w g (A ++ X ++ Y ++ C)) (hn : n = A.length + X.length + Y.length + C.length) (hC : CmpOK g w f cap D c) (hD : ∀ x ∈ X ++ Y, D x)
  (hsX : X.Pairwise (lt c)) (hsY : Y.Pairwise (lt c)) (hst : ∀ x ∈ X, ∀ y ∈ Y, stb c x y) (hX0 : 0 < X.length) (hY0 : 0 < Y.length) (hX1 : ¬ X.length = 1) (hY1 : Y.length = 1) :
  Does Tryz.prog 193 #[.slice (some ⟨g, 0, none⟩) n cp, .int .i64 A.length, .int .i64 (A.length + X.length), .int .i64 (A.length + X.length + Y.length), .func (.func f) #[] cap] w fun _ w' => ∃ Z, Z.Perm (X ++ Y) ∧ Z.Pairwise (lt c) ∧ DB zs w' g (A ++ Z ++ C) ∧ Fr (· = g) w w' := by
 have gX := srt_get A X (Y ++ C) hsX
 have gY := srt_get (A ++ X) Y C hsY
 have mX := mem_get A X (Y ++ C)
 have mY := mem_get (A ++ X) Y C
 rw [← List.append_assoc] at gX mX
 simp only [List.length_append] at gY mY
 have hlen : (A ++ X ++ Y ++ C).length = n := by simp; omega
 refine does5 Tryz.func193 rfl (by kernel_rfl) ?_
 obtain ⟨y, rfl⟩ : ∃ x, Y = [x] := List.length_eq_one_iff.1 hY1
 simp only [List.length_cons, List.length_nil] at *
 have gy : (A ++ X ++ [y] ++ C).getD (A.length + X.length) default = y := by simp
 refine wk ?_
 refine tloop (α := Nat × Nat) (fun x => [(0, .slice (some ⟨g, 0, none⟩) n cp), (1, .int .i64 (A.length : Int)), (2, .int .i64 ((A.length : Int) + X.length)), (4, .func (.func f) #[] cap), (14, .int .i64 (x.1 : Int)), (15, .int .i64 (x.2 : Int))]) (Bs (zs := zs) (fun q => ¬ c y < c ((A ++ X ++ [y] ++ C).getD q default)) A.length (A.length + X.length) (A ++ X ++ [y] ++ C) g w) (fun x => x.2 - x.1) (A.length, A.length + X.length) (sub ⟨rfl, rfl, rfl, rfl, rfl, ieq (by dsimp only; omega)⟩) ⟨hB, Fr.refl _ _, by dsimp only; omega, by dsimp only; omega, by dsimp only; omega, fun q _ _ => by dsimp only at *; omega, fun q _ _ => by dsimp only at *; omega⟩ ?_
 rintro ⟨i, j⟩ w1 ⟨hdb, hfr, hl1, hl2, hl3, hy, hno⟩
 dsimp only at *
 by_cases hij : i < j
 ·repeat' (first | refine xp rfl ?_ | refine xnil ?_ | refine xcvu rfl rfl rfl (by omega) (by omega) ?_ | refine xhalf rfl rfl (by kernel_rfl) ?_ | refine xcvi rfl rfl rfl (by omega) (by omega) ?_ | refine xizq ((i + j) / 2) (((i + j) / 2) * 2) rfl rfl rfl (by omega) (by omega) (by omega) ?_ | refine xizq (A.length + X.length) ((A.length + X.length) * 2) rfl rfl rfl (by omega) (by omega) (by omega) ?_ | refine xldd hdb rfl rfl (by omega) ?_ | refine wk1 ?_ | fail)
  rw [gy]
  have hm2 := mX ((i + j) / 2) (by omega) (by omega)
  refine xcmp ((hC.fr hfr).fr (Fr.drew _ _)) rfl rfl (hD _ (by simp)) (hD _ (List.mem_append_left _ hm2)) (fun z w5 hx5 hz => ?_)
  by_cases hlt : c y < c ((A ++ X ++ [y] ++ C).getD ((i + j) / 2) default)
  ·have hz' := hz.2 hlt
   refine wk ?_
   refine tfin ⟨(i, (i + j) / 2), sub ⟨rfl, rfl, rfl, rfl, rfl, ieq (by dsimp only; omega)⟩, ⟨hdb.dr.ext hx5, hfr.d.te hx5, hl1, by dsimp only; omega, by dsimp only; omega, hy, fun q h1 h2 => ?_⟩, by dsimp only; omega⟩
   dsimp only at *
   by_cases e : q = (i + j) / 2
   ·rw [e]; omega
   ·have := gX ((i + j) / 2) q (by omega) (by omega) (by omega)
    unfold lt at this; omega
  ·have hz' : ¬ z < 0 := fun h => hlt (hz.1 h)
   refine wk ?_
   refine tfin ⟨((i + j) / 2 + 1, j), sub ⟨rfl, rfl, rfl, rfl, ieq (by dsimp only; omega), rfl⟩, ⟨hdb.dr.ext hx5, hfr.d.te hx5, by dsimp only; omega, by dsimp only; omega, hl3, fun q h1 h2 => ?_, hno⟩, by dsimp only; omega⟩
   dsimp only at *
   by_cases e : q = (i + j) / 2
   ·rw [e]; exact hlt
   ·have := gX q ((i + j) / 2) (by omega) (by omega) (by omega)
    unfold lt at this; omega
 ·obtain rfl : i = j := by omega
  obtain ⟨X1, X2, rfl, hX1⟩ : ∃ P Q, X = P ++ Q ∧ P.length = i - A.length := ⟨X.take (i - A.length), X.drop (i - A.length), (List.take_append_drop _ _).symm, by rw [List.length_take]; omega⟩
  simp only [List.length_append] at *
  have hi : (i : Int) = A.length + X1.length := by omega
  have p1 : ∀ x ∈ X1, ¬ c y < c x := fun x hx1 => by
   obtain ⟨q, hq, rfl⟩ := List.getElem_of_mem hx1
   have := hy (A.length + q) (by omega) (by omega)
   have e := get_seg A X1 (X2 ++ [y] ++ C) q hq _ rfl
   rw [show A ++ (X1 ++ X2) ++ [y] ++ C = A ++ X1 ++ (X2 ++ [y] ++ C) by simp, e] at this
   exact this
  have p2 : ∀ x ∈ X2, c y < c x := fun x hx1 => by
   obtain ⟨q, hq, rfl⟩ := List.getElem_of_mem hx1
   have := hno (A.length + X1.length + q) (by omega) (by omega)
   have e := get_seg (A ++ X1) X2 ([y] ++ C) q hq (A.length + X1.length + q) (by simp)
   rw [show A ++ (X1 ++ X2) ++ [y] ++ C = (A ++ X1) ++ X2 ++ ([y] ++ C) by simp, e] at this
   omega
  refine wk ?_
  refine tloop (α := List Tg × List Tg) (fun s => [(0, .slice (some ⟨g, 0, none⟩) n cp), (14, .int .i64 ((A.length : Int) + X1.length)), (17, .int .i64 ((A.length : Int) + X1.length + s.1.length))]) (ShR (zs := zs) (A ++ X1) y X2 C g w1) (fun s => s.1.length) (X2, []) (sub ⟨rfl, ieq (by omega), ieq (by dsimp only; omega)⟩) ⟨by simpa using hdb, by simp, Fr.refl _ _⟩ ?_
  rintro ⟨P, Q⟩ w2 ⟨hdb2, heq, hfr2⟩
  dsimp only at *
  have hle := congrArg List.length heq
  simp only [List.length_append] at hle
  rcases List.eq_nil_or_concat P with rfl | ⟨P, p, rfl⟩
  ·simp only [List.length_nil] at *
   obtain rfl : Q = X2 := by simpa using heq
   refine wk ?_
   refine tret0 rfl ⟨X1 ++ y :: Q, ?_, ?_, by simpa using hdb2, hfr.t hfr2⟩
   ·have : (X1 ++ y :: Q).Perm (y :: (X1 ++ Q)) := List.perm_middle
    exact this.trans (List.perm_append_singleton _ _).symm
   ·rw [List.pairwise_append] at hsX
    rw [List.pairwise_append, List.pairwise_cons]
    refine ⟨hsX.1, ⟨fun x hx1 => .inl (p2 x hx1), hsX.2.1⟩, fun p hp q hq => ?_⟩
    rcases List.mem_cons.1 hq with rfl | hq
    ·have h1 := p1 p hp
     have h2 := hst p (by simp [hp]) q (by simp)
     unfold stb at h2; unfold lt; omega
    ·exact hsX.2.2 p hp q hq
  ·rw [List.concat_eq_append] at *
   simp only [List.length_append, List.length_cons, List.length_nil] at *
   have hdb3 : DB zs w2 g ((A ++ X1 ++ P) ++ p :: ([] ++ y :: (Q ++ C))) := by simpa using hdb2
   have hl3 : ((A ++ X1 ++ P) ++ p :: ([] ++ y :: (Q ++ C))).length = n := by simp; omega
   repeat' (first | refine xp rfl ?_ | refine xnil ?_ | refine xizq (A.length + X1.length + P.length + 1) ((A.length + X1.length + P.length + 1) * 2) rfl rfl rfl (by omega) (by omega) (by omega) ?_ | refine xizq (A.length + X1.length + P.length) ((A.length + X1.length + P.length) * 2) rfl rfl rfl (by omega) (by omega) (by omega) ?_ | refine xldd hdb3 rfl rfl (by omega) ?_ | refine wk1 ?_ | fail)
   refine xstd hdb3.dr rfl rfl rfl (by omega) (fun w3 hB3 hF3 => ?_)
   repeat' (first | refine xp rfl ?_ | refine xnil ?_ | refine xizq (A.length + X1.length + P.length) ((A.length + X1.length + P.length) * 2) rfl rfl rfl (by omega) (by omega) (by omega) ?_ | refine wk1 ?_ | fail)
   refine xstd hB3 rfl rfl rfl (by rw [List.length_set]; omega) (fun w4 hB4 hF4 => ?_)
   refine wk ?_
   have e := swp_mid' (A ++ X1 ++ P) p [] y (Q ++ C) (A.length + X1.length + P.length) (A.length + X1.length + P.length + 1) (by simp; omega) (by simp; omega)
   refine tfin ⟨(P, p :: Q), sub ⟨rfl, rfl, ieq (by dsimp only; omega)⟩, ⟨?_, by rw [← heq]; simp, ((hfr2.d.t hF3).t hF4)⟩, by dsimp only; omega⟩
   unfold swp at e
   rw [e] at hB4
   simpa using hB4
end
section
variable {zs : Nat}
structure SymJ (A X Y mid : Nat) (w0 : World) (x : Nat × Nat) (w : World) : Prop where
 a : A ≤ x.1
 b : mid + (A + X) ≤ x.1 + (A + X + Y)
 c : x.1 ≤ x.2
 d : x.2 ≤ mid ∧ x.2 ≤ A + X ∧ (x.2 = mid ∨ x.2 = A + X)
 e : x.1 = A ∨ x.1 + (A + X + Y) = mid + (A + X)
 w : w0 = w
theorem smC (f : FuncId) (cap : Array Value) (D : Tg → Prop) (c : Tg → Int) (g n cp : Nat) (hl : n ≤ 100000) (w : World) (A X Y C : List Tg) (hB : DB zs w g (A ++ X ++ Y ++ C)) (hn : n = A.length + X.length + Y.length + C.length) (hC : CmpOK g w f cap D c) (hD : ∀ x ∈ X ++ Y, D x)
  (hsX : X.Pairwise (lt c)) (hsY : Y.Pairwise (lt c)) (hst : ∀ x ∈ X, ∀ y ∈ Y, stb c x y) (hX0 : 0 < X.length) (hY0 : 0 < Y.length) (hX1 : ¬ X.length = 1) (hY1 : ¬ Y.length = 1) (IH : ∀ (w : World) (A X' Y' C : List Tg), X'.length + Y'.length < X.length + Y.length → DB zs w g (A ++ X' ++ Y' ++ C) → n = A.length + X'.length + Y'.length + C.length → CmpOK g w f cap D c → (∀ x ∈ X' ++ Y', D x) →
  X'.Pairwise (lt c) → Y'.Pairwise (lt c) → (∀ x ∈ X', ∀ y ∈ Y', stb c x y) → 0 < X'.length → 0 < Y'.length → ∀ a m b : Int, a = A.length → m = A.length + X'.length → b = A.length + X'.length + Y'.length →
  Does Tryz.prog 193 #[.slice (some ⟨g, 0, none⟩) n cp, .int .i64 a, .int .i64 m, .int .i64 b, .func (.func f) #[] cap] w fun _ w' => ∃ Z, Z.Perm (X' ++ Y') ∧ Z.Pairwise (lt c) ∧ DB zs w' g (A ++ Z ++ C) ∧ Fr (· = g) w w') :
  Does Tryz.prog 193 #[.slice (some ⟨g, 0, none⟩) n cp, .int .i64 A.length, .int .i64 (A.length + X.length), .int .i64 (A.length + X.length + Y.length), .func (.func f) #[] cap] w fun _ w' => ∃ Z, Z.Perm (X ++ Y) ∧ Z.Pairwise (lt c) ∧ DB zs w' g (A ++ Z ++ C) ∧ Fr (· = g) w w' := by
 have gX := srt_get A X (Y ++ C) hsX
 have gY := srt_get (A ++ X) Y C hsY
 have mX := mem_get A X (Y ++ C)
 have mY := mem_get (A ++ X) Y C
 rw [← List.append_assoc] at gX mX
 simp only [List.length_append] at gY mY
 have hlen : (A ++ X ++ Y ++ C).length = n := by simp; omega
 refine does5 Tryz.func193 rfl (by kernel_rfl) ?_
 obtain ⟨mid, hmid⟩ : ∃ mid, mid = (2 * A.length + X.length + Y.length) / 2 := ⟨_, rfl⟩
 repeat' (refine tseq ?_)
 refine wkN ?_
 repeat' (refine tseq ?_)
 refine wkN ?_
 repeat' (refine tseq ?_)
 repeat' (first | refine xp rfl ?_ | refine xnil ?_ | refine xcvu rfl rfl rfl (by omega) (by omega) ?_ | refine xhalf rfl rfl (by kernel_rfl) ?_ | refine xcvi rfl rfl rfl (by omega) (by omega) ?_ | refine wk1N ?_ | fail)
 repeat' (refine tseq ?_)
 refine wkN ?_
 repeat' (refine tseq ?_)
 refine wkN ?_
 refine tseq ?_
 refine tcut (α := Nat × Nat) (fun x => [(0, .slice (some ⟨g, 0, none⟩) n cp), (1, .int .i64 (A.length : Int)), (2, .int .i64 ((A.length : Int) + X.length)), (3, .int .i64 ((A.length : Int) + X.length + Y.length)), (4, .func (.func f) #[] cap), (18, .int .i64 (mid : Int)), (19, .int .i64 ((mid : Int) + A.length + X.length)), (20, .int .i64 (x.1 : Int)), (21, .int .i64 (x.2 : Int))]) (SymJ A.length X.length Y.length mid w) ?_ ?_
 ·by_cases hmm : mid < A.length + X.length
  ·refine wk ?_
   exact tfin ⟨(mid + (A.length + X.length) - (A.length + X.length + Y.length), mid), sub ⟨rfl, rfl, rfl, rfl, rfl, ieq (by omega), ieq (by omega), ieq (by dsimp only; omega), ieq (by dsimp only; omega)⟩, by dsimp only; omega, by dsimp only; omega, by dsimp only; omega, by dsimp only; omega, by dsimp only; omega, rfl⟩
  ·refine wk ?_
   exact tfin ⟨(A.length, A.length + X.length), sub ⟨rfl, rfl, rfl, rfl, rfl, ieq (by omega), ieq (by omega), ieq (by dsimp only), ieq (by dsimp only; omega)⟩, by dsimp only; omega, by dsimp only; omega, by dsimp only; omega, by dsimp only; omega, by dsimp only; omega, rfl⟩
 rintro ⟨s0, r0⟩ w0 ⟨h0a, h0b, h0c, h0d, h0e, rfl⟩
 dsimp only at h0a h0b h0c h0d h0e
 refine wk ?_
 refine tloop (α := Nat × Nat) (fun x => [(0, .slice (some ⟨g, 0, none⟩) n cp), (1, .int .i64 (A.length : Int)), (2, .int .i64 ((A.length : Int) + X.length)), (3, .int .i64 ((A.length : Int) + X.length + Y.length)), (4, .func (.func f) #[] cap), (18, .int .i64 (mid : Int)), (19, .int .i64 ((mid : Int) + A.length + X.length)), (20, .int .i64 (x.1 : Int)), (21, .int .i64 (x.2 : Int)), (22, .int .i64 ((mid : Int) + A.length + X.length - 1))]) (Bs (zs := zs) (fun q => ¬ c ((A ++ X ++ Y ++ C).getD (mid + (A.length + X.length) - 1 - q) default) < c ((A ++ X ++ Y ++ C).getD q default)) s0 r0 (A ++ X ++ Y ++ C) g w) (fun x => x.2 - x.1) (s0, r0) (sub ⟨rfl, rfl, rfl, rfl, rfl, rfl, rfl, rfl, rfl, rfl⟩) ⟨hB, Fr.refl _ _, by dsimp only; omega, by dsimp only; omega, by dsimp only; omega, fun q _ _ => by dsimp only at *; omega, fun q _ _ => by dsimp only at *; omega⟩ ?_
 rintro ⟨i, j⟩ w1 ⟨hdb, hfr, hl1, hl2, hl3, hy, hno⟩
 dsimp only at *
 by_cases hij : i < j
 ·repeat' (first | refine xp rfl ?_ | refine xnil ?_ | refine xcvu rfl rfl rfl (by omega) (by omega) ?_ | refine xhalf rfl rfl (by kernel_rfl) ?_ | refine xcvi rfl rfl rfl (by omega) (by omega) ?_ | refine wk1 ?_ | fail)
  refine xizq (mid + (A.length + X.length) - 1 - (i + j) / 2) ((mid + (A.length + X.length) - 1 - (i + j) / 2) * 2) rfl rfl rfl (by omega) (by omega) (by omega) ?_
  refine xldd hdb rfl rfl (by omega) ?_
  refine wk ?_
  refine xizq ((i + j) / 2) (((i + j) / 2) * 2) rfl rfl rfl (by omega) (by omega) (by omega) ?_
  refine xldd hdb rfl rfl (by omega) ?_
  have hm2 := mX ((i + j) / 2) (by omega) (by omega)
  have hm3 := mY (mid + (A.length + X.length) - 1 - (i + j) / 2) (by omega) (by omega)
  refine xcmp ((hC.fr hfr).fr (Fr.drew _ _)) rfl rfl (hD _ (List.mem_append_right _ hm3)) (hD _ (List.mem_append_left _ hm2)) (fun z w5 hx5 hz => ?_)
  by_cases hlt : c ((A ++ X ++ Y ++ C).getD (mid + (A.length + X.length) - 1 - (i + j) / 2) default) < c ((A ++ X ++ Y ++ C).getD ((i + j) / 2) default)
  ·have hz' := hz.2 hlt
   refine wk ?_
   refine tfin ⟨(i, (i + j) / 2), sub ⟨rfl, rfl, rfl, rfl, rfl, rfl, rfl, rfl, ieq (by dsimp only; omega), rfl⟩, ⟨hdb.dr.ext hx5, hfr.d.te hx5, hl1, by dsimp only; omega, by dsimp only; omega, hy, fun q h1 h2 => ?_⟩, by dsimp only; omega⟩
   dsimp only at *
   by_cases e : q = (i + j) / 2
   ·rw [e]; omega
   ·have k1 := gX ((i + j) / 2) q (by omega) (by omega) (by omega)
    have k2 := gY (mid + (A.length + X.length) - 1 - q) (mid + (A.length + X.length) - 1 - (i + j) / 2) (by omega) (by omega) (by omega)
    unfold lt at k1 k2; omega
  ·have hz' : ¬ z < 0 := fun h => hlt (hz.1 h)
   refine wk ?_
   refine tfin ⟨((i + j) / 2 + 1, j), sub ⟨rfl, rfl, rfl, rfl, rfl, rfl, rfl, ieq (by dsimp only; omega), rfl, rfl⟩, ⟨hdb.dr.ext hx5, hfr.d.te hx5, by dsimp only; omega, by dsimp only; omega, hl3, fun q h1 h2 => ?_, hno⟩, by dsimp only; omega⟩
   dsimp only at *
   by_cases e : q = (i + j) / 2
   ·rw [e]; exact hlt
   ·have k1 := gX q ((i + j) / 2) (by omega) (by omega) (by omega)
    have k2 := gY (mid + (A.length + X.length) - 1 - (i + j) / 2) (mid + (A.length + X.length) - 1 - q) (by omega) (by omega) (by omega)
    unfold lt at k1 k2; omega
 ·obtain rfl : i = j := by omega
  obtain ⟨X1, X2, rfl, hX1⟩ : ∃ P Q, X = P ++ Q ∧ P.length = i - A.length := ⟨X.take (i - A.length), X.drop (i - A.length), (List.take_append_drop _ _).symm, by rw [List.length_take]; omega⟩
  obtain ⟨Y1, Y2, rfl, hY1⟩ : ∃ P Q, Y = P ++ Q ∧ P.length = mid - i := ⟨Y.take (mid - i), Y.drop (mid - i), (List.take_append_drop _ _).symm, by rw [List.length_take]; omega⟩
  simp only [List.length_append] at *
  rw [List.pairwise_append] at hsX hsY
  have c1 : ∀ x ∈ X1, ∀ y ∈ Y2, lt c x y := by
   rcases List.eq_nil_or_concat X1 with rfl | ⟨X1, x, rfl⟩
   ·simp
   rcases Y2 with _ | ⟨y, Y2⟩
   ·simp
   rw [List.concat_eq_append] at *
   simp only [List.length_append, List.length_cons, List.length_nil] at *
   have k := hy (i - 1) (by omega) (by omega)
   have e1 := get_mid (A ++ X1) x (X2 ++ Y1 ++ (y :: Y2) ++ C) (i - 1) (by simp; omega)
   have e2 := get_mid (A ++ X1 ++ [x] ++ X2 ++ Y1) y (Y2 ++ C) (mid + (A.length + (X1.length + (0 + 1) + X2.length)) - 1 - (i - 1)) (by simp; omega)
   rw [show A ++ (X1 ++ [x] ++ X2) ++ (Y1 ++ y :: Y2) ++ C = (A ++ X1 ++ [x] ++ X2 ++ Y1) ++ y :: (Y2 ++ C) by simp, e2, show (A ++ X1 ++ [x] ++ X2 ++ Y1) ++ y :: (Y2 ++ C) = (A ++ X1) ++ x :: (X2 ++ Y1 ++ (y :: Y2) ++ C) by simp, e1] at k
   have := hst x (by simp) y (by simp)
   exact all_lt hsX.1 hsY.2.1 (by unfold stb at this; unfold lt; omega)
  have c2 : ∀ y ∈ Y1, ∀ x ∈ X2, lt c y x := by
   rcases List.eq_nil_or_concat Y1 with rfl | ⟨Y1, y, rfl⟩
   ·simp
   rcases X2 with _ | ⟨x, X2⟩
   ·simp
   rw [List.concat_eq_append] at *
   simp only [List.length_append, List.length_cons, List.length_nil] at *
   have k := hno i (by omega) (by omega)
   have e1 := get_mid (A ++ X1) x (X2 ++ (Y1 ++ [y] ++ Y2) ++ C) i (by simp; omega)
   have e2 := get_mid (A ++ X1 ++ [x] ++ X2 ++ Y1) y (Y2 ++ C) (mid + (A.length + (X1.length + (X2.length + 1))) - 1 - i) (by simp; omega)
   rw [show A ++ (X1 ++ x :: X2) ++ (Y1 ++ [y] ++ Y2) ++ C = (A ++ X1 ++ [x] ++ X2 ++ Y1) ++ y :: (Y2 ++ C) by simp, e2, show (A ++ X1 ++ [x] ++ X2 ++ Y1) ++ y :: (Y2 ++ C) = (A ++ X1) ++ x :: (X2 ++ (Y1 ++ [y] ++ Y2) ++ C) by simp, e1] at k
   exact all_lt hsY.1 hsX.2.1 (.inl (by omega))
  have hi : i = A.length + X1.length := by omega
  have hmd : mid = A.length + X1.length + Y1.length := by omega
  have hd1 : 0 < X1.length + Y1.length := by omega
  have hd2 : 0 < X2.length + Y2.length := by omega
  clear gX gY mX mY hy hno h0a h0b h0c h0d h0e hl1 hl2 hl3 hij hmid hlen
  subst hi; subst hmd
  repeat' (refine tseq ?_)
  refine wkN ?_
  refine tseq ?_
  refine wkN ?_
  refine tseq ?_
  refine tcut (α := Unit) (fun _ => [(0, .slice (some ⟨g, 0, none⟩) n cp), (1, .int .i64 (A.length : Int)), (3, .int .i64 ((A.length : Int) + (X1.length + X2.length) + (Y1.length + Y2.length))), (4, .func (.func f) #[] cap), (18, .int .i64 ((A.length : Int) + X1.length + Y1.length)), (20, .int .i64 ((A.length : Int) + X1.length)), (24, .int .i64 ((A.length : Int) + X1.length + Y1.length + X2.length))]) (fun _ w' => DB zs w' g (A ++ X1 ++ Y1 ++ X2 ++ Y2 ++ C) ∧ Fr (· = g) w w') ?_ ?_
  ·by_cases hr : 0 < X2.length ∧ 0 < Y1.length
   ·refine wk ?_
    refine xcall (S := fun _ w' => DB zs w' g ((A ++ X1) ++ Y1 ++ X2 ++ (Y2 ++ C)) ∧ Fr (· = g) w1 w') rfl rfl (rotate_does w1 g n cp _ (A ++ X1) X2 Y1 (Y2 ++ C) (by simpa using hdb) (by simp only [List.length_append]; omega) hl _ _ _ (by simp) (by simp only [List.length_append]; omega) (by simp only [List.length_append]; omega) hr.1 hr.2) ?_
    rintro v w2 ⟨hd2, hf2⟩
    refine wk ?_
    exact tfin ⟨(), sub ⟨rfl, rfl, ieq (by omega), rfl, ieq (by omega), ieq (by omega), ieq (by omega)⟩, by simpa using hd2, hfr.t hf2⟩
   ·have hd2 : DB zs w1 g (A ++ X1 ++ Y1 ++ X2 ++ Y2 ++ C) := by
     have : X2 = [] ∨ Y1 = [] := by
      rcases X2 with _ | ⟨_, _⟩
      ·exact .inl rfl
      ·rcases Y1 with _ | ⟨_, _⟩
       ·exact .inr rfl
       ·exact absurd ⟨by simp, by simp⟩ hr
     rcases this with rfl | rfl <;> simpa using hdb
    by_cases hr2 : 0 < X2.length
    ·exact y94
    ·exact y94
  rintro _ w2 ⟨hd2, hfr2⟩
  refine tseq ?_
  refine tcut (α := List Tg) (fun _ => [(0, .slice (some ⟨g, 0, none⟩) n cp), (3, .int .i64 ((A.length : Int) + (X1.length + X2.length) + (Y1.length + Y2.length))), (4, .func (.func f) #[] cap), (18, .int .i64 ((A.length : Int) + X1.length + Y1.length)), (24, .int .i64 ((A.length : Int) + X1.length + Y1.length + X2.length))]) (fun Z w' => Z.Perm (X1 ++ Y1) ∧ Z.Pairwise (lt c) ∧ DB zs w' g (A ++ Z ++ X2 ++ Y2 ++ C) ∧ Fr (· = g) w w') ?_ ?_
  ·by_cases hr : 0 < X1.length ∧ 0 < Y1.length
   ·refine wk ?_
    refine xcall (S := fun _ w' => ∃ Z, Z.Perm (X1 ++ Y1) ∧ Z.Pairwise (lt c) ∧ DB zs w' g (A ++ Z ++ (X2 ++ Y2 ++ C)) ∧ Fr (· = g) w2 w') rfl rfl (IH w2 A X1 Y1 (X2 ++ Y2 ++ C) (by omega) (by simpa using hd2) (by simp; omega) (hC.fr hfr2) (fun x hx => hD x (by rcases List.mem_append.1 hx with h | h <;> simp [h])) hsX.1 hsY.1 (fun x hx y hy => hst x (by simp [hx]) y (by simp [hy])) hr.1 hr.2 _ _ _ rfl rfl rfl) ?_
    rintro v w3 ⟨Z, hZ1, hZ2, hd3, hf3⟩
    refine wk ?_
    exact tfin ⟨Z, sub ⟨rfl, rfl, rfl, rfl, rfl⟩, hZ1, hZ2, by simpa using hd3, hfr2.t hf3⟩
   ·have hs1 : (X1 ++ Y1).Pairwise (lt c) := by
     have : X1 = [] ∨ Y1 = [] := by
      rcases X1 with _ | ⟨_, _⟩
      ·exact .inl rfl
      ·rcases Y1 with _ | ⟨_, _⟩
       ·exact .inr rfl
       ·exact absurd ⟨by simp, by simp⟩ hr
     rcases this with rfl | rfl
     ·simpa using hsY.1
     ·simpa using hsX.1
    by_cases hr2 : 0 < X1.length
    ·refine wk ?_
     exact tfin ⟨X1 ++ Y1, sub ⟨rfl, rfl, rfl, rfl, rfl⟩, List.Perm.refl _, hs1, by simpa using hd2, hfr2⟩
    ·refine wk ?_
     exact tfin ⟨X1 ++ Y1, sub ⟨rfl, rfl, rfl, rfl, rfl⟩, List.Perm.refl _, hs1, by simpa using hd2, hfr2⟩
  rintro Z w3 ⟨hZ1, hZ2, hd3, hfr3⟩
  have hlZ := hZ1.length_eq
  simp only [List.length_append] at hlZ
  have fin : ∀ Z', Z'.Perm (X2 ++ Y2) → Z'.Pairwise (lt c) → (Z ++ Z').Perm (X1 ++ X2 ++ (Y1 ++ Y2)) ∧ (Z ++ Z').Pairwise (lt c) := fun Z' h1 h2 => by
   refine ⟨(List.Perm.append hZ1 h1).trans ?_, List.pairwise_append.2 ⟨hZ2, h2, fun p hp q hq => ?_⟩⟩
   ·simp only [List.append_assoc]
    refine List.Perm.append_left X1 ?_
    rw [← List.append_assoc, ← List.append_assoc]
    exact List.Perm.append_right Y2 List.perm_append_comm
   ·rcases List.mem_append.1 (hZ1.subset hp) with hp | hp <;> rcases List.mem_append.1 (h1.subset hq) with hq | hq
    ·exact hsX.2.2 p hp q hq
    ·exact c1 p hp q hq
    ·exact c2 p hp q hq
    ·exact hsY.2.2 p hp q hq
  by_cases hr : 0 < X2.length ∧ 0 < Y2.length
  ·refine wk ?_
   refine xcall (S := fun _ w' => ∃ Z', Z'.Perm (X2 ++ Y2) ∧ Z'.Pairwise (lt c) ∧ DB zs w' g ((A ++ Z) ++ Z' ++ C) ∧ Fr (· = g) w3 w') rfl rfl (IH w3 (A ++ Z) X2 Y2 C (by omega) (by simpa using hd3) (by simp; omega) (hC.fr hfr3) (fun x hx => hD x (by rcases List.mem_append.1 hx with h | h <;> simp [h])) hsX.2.1 hsY.2.1 (fun x hx y hy => hst x (by simp [hx]) y (by simp [hy])) hr.1 hr.2 _ _ _ (by simp; omega) (by simp; omega) (by simp; omega)) ?_
   rintro v w4 ⟨Z', hZ3, hZ4, hd4, hf4⟩
   refine wk ?_
   exact tend0 rfl ⟨Z ++ Z', (fin Z' hZ3 hZ4).1, (fin Z' hZ3 hZ4).2, by simpa using hd4, hfr3.t hf4⟩
  ·have hs1 : (X2 ++ Y2).Pairwise (lt c) := by
    have : X2 = [] ∨ Y2 = [] := by
     rcases X2 with _ | ⟨_, _⟩
     ·exact .inl rfl
     ·rcases Y2 with _ | ⟨_, _⟩
      ·exact .inr rfl
      ·exact absurd ⟨by simp, by simp⟩ hr
    rcases this with rfl | rfl
    ·simpa using hsY.2.1
    ·simpa using hsX.2.1
   have hf := fin (X2 ++ Y2) (List.Perm.refl _) hs1
   by_cases hr2 : 0 < X2.length
   ·refine wk ?_
    exact tend0 rfl ⟨Z ++ (X2 ++ Y2), hf.1, hf.2, by simpa using hd3, hfr3⟩
   ·refine wk ?_
    exact tend0 rfl ⟨Z ++ (X2 ++ Y2), hf.1, hf.2, by simpa using hd3, hfr3⟩
theorem symMerge_does (f : FuncId) (cap : Array Value) (D : Tg → Prop) (c : Tg → Int) (g n cp : Nat) (hl : n ≤ 100000) : ∀ (N : Nat) (w : World) (A X Y C : List Tg), X.length + Y.length ≤ N → DB zs w g (A ++ X ++ Y ++ C) → n = A.length + X.length + Y.length + C.length → CmpOK g w f cap D c → (∀ x ∈ X ++ Y, D x) →
  X.Pairwise (lt c) → Y.Pairwise (lt c) → (∀ x ∈ X, ∀ y ∈ Y, stb c x y) → 0 < X.length → 0 < Y.length → ∀ a m b : Int, a = A.length → m = A.length + X.length → b = A.length + X.length + Y.length →
  Does Tryz.prog 193 #[.slice (some ⟨g, 0, none⟩) n cp, .int .i64 a, .int .i64 m, .int .i64 b, .func (.func f) #[] cap] w fun _ w' => ∃ Z, Z.Perm (X ++ Y) ∧ Z.Pairwise (lt c) ∧ DB zs w' g (A ++ Z ++ C) ∧ Fr (· = g) w w'
 | 0, w, A, X, Y, C, hN, _, _, _, _, _, _, _, hX0, _, _, _, _, _, _, _ => by omega
 | N + 1, w, A, X, Y, C, hN, hB, hn, hC, hD, hsX, hsY, hst, hX0, hY0, a, m, b, ha, hm, hb => by
  subst ha; subst hm; subst hb
  by_cases hX1 : X.length = 1
  ·exact smA f cap D c g n cp hl w A X Y C hB hn hC hD hsX hsY hst hX0 hY0 hX1
  by_cases hY1 : Y.length = 1
  ·exact smB f cap D c g n cp hl w A X Y C hB hn hC hD hsX hsY hst hX0 hY0 hX1 hY1
  exact smC f cap D c g n cp hl w A X Y C hB hn hC hD hsX hsY hst hX0 hY0 hX1 hY1 fun w A X' Y' C h1 => symMerge_does f cap D c g n cp hl N w A X' Y' C (by omega)
end
section
variable {zs : Nat}
end
end Go.Proofs.YtiebbecknfpdeaaGreatDoor.Eng
