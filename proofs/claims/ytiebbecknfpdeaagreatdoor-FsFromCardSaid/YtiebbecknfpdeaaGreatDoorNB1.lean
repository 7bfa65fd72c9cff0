/-
  Parts of the proof: Sf.
-/
import Derived.Test.YtiebbecknfpdeaaGreatDoorNSe
set_option maxRecDepth 100000
set_option maxHeartbeats 64000000
namespace Go.Proofs.YtiebbecknfpdeaaGreatDoor.Eng
open Go.RowKit
section
variable {zs : Nat}
def Dw (w : World) (B : Nat) (v : Value) (l : List Tg) : Prop := ∃ A c, v = .slice A l.length c ∧ l.length ≤ c ∧ c ≤ 9223372036854775807 ∧ (l = [] ∨ ∃ g, A = some ⟨g, 0, none⟩ ∧ B ≤ g ∧ DB (c * 2) w g l)
theorem flat_tg (l : List Tg) : l.flatMap tgC = (l.map Prod.snd).flatMap enC := by
 induction l with
 | nil => rfl
 | cons x l ih => rw [List.flatMap_cons, ih]; rfl
theorem Dw.of {w : World} {B : Nat} {v : Value} {l : List Tg} (h : Ow enC 2 w B 54 v (l.map Prod.snd)) : Dw w B v l := by
 have hh := h
 obtain ⟨A, c, rfl, h1, h2⟩ := h.form
 obtain ⟨_, h4⟩ := hh
 rw [List.length_map] at *
 refine ⟨A, c, rfl, h1, h2, ?_⟩
 rcases h4 with ⟨_, e1⟩ | ⟨g, cap, cur, e1, hg, hb, h5, _, h7, h6⟩
 ·exact .inl (List.eq_nil_of_length_eq_zero e1)
 ·injection e1 with e1 _ e2
  refine .inr ⟨g, e1, hg, cur.toList.drop (l.length * 2), ?_, ?_⟩
  ·have h8 : c = cap := e2
   have h9 : cur.size = cap * 2 := h7
   have h10 : l.length ≤ cap := by simpa using h5
   have h11 : cur.toList.length = cur.size := Array.length_toList
   rw [List.length_drop, h11, h8]; omega
  rw [flat_tg, ← h6, List.take_append_drop]
  exact hb
theorem DB.rw {w : World} {g c : Nat} {l : List Tg} (h : DB zs w g l) (h1 : l.length ≤ c) (h2 : c ≤ 9223372036854775807) : Rw enC w (.slice (some ⟨g, 0, none⟩) l.length c) (l.map Prod.snd) := by
 unfold Rw
 rw [List.length_map]
 refine ⟨_, _, rfl, h1, h2, fun _ => ⟨g, 0, rfl, h.lt, fun j u hu => ?_⟩⟩
 obtain ⟨r, _, h⟩ := h
 rw [Nat.zero_add, h.cell, List.getElem?_toArray, flat_tg, List.getElem?_append_left (List.getElem?_eq_some_iff.1 hu).1]
 exact hu
theorem Dw.rw {w : World} {B : Nat} {v : Value} {l : List Tg} (h : Dw w B v l) : Rw enC w v (l.map Prod.snd) := by
 obtain ⟨A, c, rfl, h1, h2, rfl | ⟨g, rfl, _, hd⟩⟩ := h
 ·exact ⟨A, c, rfl, h1, h2, fun h0 => absurd h0 (by simp)⟩
 ·exact hd.rw h1 h2
theorem Dw.fr {S : Nat → Prop} {w w' : World} {B : Nat} {v : Value} {l : List Tg} (h : Dw w B v l) (hf : Fr S w w') (hS : ∀ b, v.ownBlock = some b → ¬ S b) : Dw w' B v l := by
 obtain ⟨A, c, rfl, h1, h2, rfl | ⟨g, rfl, hg, hd⟩⟩ := h
 ·exact ⟨A, c, rfl, h1, h2, .inl rfl⟩
 ·exact ⟨_, c, rfl, h1, h2, .inr ⟨g, rfl, hg, hd.fr hf (hS g rfl)⟩⟩
theorem Dw.blk {w : World} {B : Nat} {v : Value} {l : List Tg} (h : Dw w B v l) (h0 : l ≠ []) {b : Nat} (hb : v.ownBlock = some b) : B ≤ b ∧ b < w.heap.size := by
 obtain ⟨A, c, rfl, h1, h2, rfl | ⟨g, rfl, hg, hd⟩⟩ := h
 ·exact absurd rfl h0
 ·injection hb with hb; subst hb; exact ⟨hg, hd.lt⟩
theorem Dw.ow {w : World} {B : Nat} {v : Value} {l : List Tg} (h : Dw w B v l) (h0 : l ≠ []) : Ow enC 2 w B 54 v (l.map Prod.snd) := by
 obtain ⟨A, c, rfl, h1, h2, rfl | ⟨g, rfl, hg, r, hz, hd⟩⟩ := h
 ·exact absurd rfl h0
 ·have hl := flat_len enC_len (l.map Prod.snd)
  rw [List.length_map] at hl
  refine ⟨by rw [List.length_map]; exact hl, .inr ⟨g, c, _, by rw [List.length_map], hg, hd, by rw [List.length_map]; exact h1, h2, ?_, ?_⟩⟩
  ·rw [List.size_toArray, List.length_append, flat_tg, hl]; exact hz
  ·rw [List.length_map, flat_tg, ← hl, List.take_left]
def Srt (c : Tg → Int) (s : Nat) (l : List Tg) : Prop := ∀ k, ((l.drop (k * s)).take s).Pairwise (lt c)
theorem Srt.app {c : Tg → Int} {s m : Nat} {P S : List Tg} (hP : Srt c s P) (hl : P.length = m * s) (hS : S.Pairwise (lt c)) (hs : S.length ≤ s) : Srt c s (P ++ S) := by
 intro k
 by_cases hk : k < m
 ·have h1 : (k + 1) * s ≤ m * s := Nat.mul_le_mul_right s hk
  rw [Nat.add_mul, Nat.one_mul] at h1
  rw [List.drop_append_of_le_length (by omega), List.take_append_of_le_length (by rw [List.length_drop]; omega)]
  exact hP k
 ·have h1 : m * s ≤ k * s := Nat.mul_le_mul_right s (by omega)
  rw [List.drop_append, List.drop_eq_nil_of_le (by omega), List.nil_append]
  refine List.Pairwise.sublist ?_ hS
  exact (List.take_sublist _ _).trans (List.drop_sublist _ _)
theorem Srt.nil (c : Tg → Int) (s : Nat) : Srt c s [] := fun k => by simp
theorem Srt.drop {c : Tg → Int} {s : Nat} {X R : List Tg} (h : Srt c s (X ++ R)) (m : Nat) (hl : X.length = m * s) : Srt c s R := by
 intro k
 have := h (m + k)
 rw [Nat.add_mul, ← hl, List.drop_append, List.drop_eq_nil_of_le (by omega), List.nil_append, Nat.add_sub_cancel_left] at this
 exact this
theorem Srt.one {c : Tg → Int} {s : Nat} {l : List Tg} (h : Srt c s l) (hl : l.length ≤ s) : l.Pairwise (lt c) := by
 have := h 0
 rwa [Nat.zero_mul, List.drop_zero, List.take_of_length_le hl] at this
theorem Srt.first {c : Tg → Int} {s : Nat} {X R : List Tg} (h : Srt c s (X ++ R)) (hl : X.length = s) : X.Pairwise (lt c) := by
 have := h 0
 rwa [Nat.zero_mul, List.drop_zero, List.take_append_of_le_length (by omega), List.take_of_length_le (by omega)] at this
theorem stb_swap {c : Tg → Int} {A S S' C : List Tg} (h : (A ++ S ++ C).Pairwise (stb c)) (hp : S'.Perm S) (hs : S'.Pairwise (lt c)) : (A ++ S' ++ C).Pairwise (stb c) := by
 rw [List.append_assoc, List.pairwise_append, List.pairwise_append] at *
 obtain ⟨h1, ⟨h2, h3, h4⟩, h5⟩ := h
 refine ⟨h1, ⟨hs.imp lt_stb, h3, fun x hx y hy => h4 x (hp.subset hx) y hy⟩, fun x hx y hy => h5 x hx y ?_⟩
 rcases List.mem_append.1 hy with hy | hy
 ·exact List.mem_append_left _ (hp.subset hy)
 ·exact List.mem_append_right _ hy
theorem perm_swap {A S S' C O : List Tg} (h : (A ++ S ++ C).Perm O) (hp : S'.Perm S) : (A ++ S' ++ C).Perm O :=
 (List.Perm.append_right C (List.Perm.append_left A hp)).trans h
structure StI (c : Tg → Int) (O : List Tg) (s t g : Nat) (w0 : World) (x : List Tg × List Tg) (w : World) : Prop where
 db : DB zs w g (x.1 ++ x.2)
 perm : (x.1 ++ x.2).Perm O
 st : (x.1 ++ x.2).Pairwise (stb c)
 m : ∃ m, x.1.length = m * t
 s1 : Srt c t x.1
 s2 : Srt c s x.2
 fr : Fr (· = g) w0 w
theorem srt1 (c : Tg → Int) (l : List Tg) : Srt c 1 l := fun k => by
 generalize (l.drop (k * 1)) = r
 rcases r with _ | ⟨a, r⟩ <;> simp
theorem stable_does (w : World) (g n cp : Nat) (f : FuncId) (cap : Array Value) (D : Tg → Prop) (c : Tg → Int) (O : List Tg) (hB : DB zs w g O) (hn : n = O.length) (hl : n ≤ 10000) (hC : CmpOK g w f cap D c) (hD : ∀ x ∈ O, D x) (hS : O.Pairwise (stb c)) :
  Does Tryz.prog 157 #[.slice (some ⟨g, 0, none⟩) n cp, .int .i64 n, .func (.func f) #[] cap] w fun _ w' => ∃ S, S.Perm O ∧ S.Pairwise (lt c) ∧ DB zs w' g S ∧ Fr (· = g) w w' := by
 refine does3 Tryz.func157 rfl (by kernel_rfl) ?_
 refine wk ?_
 refine tloop (α := List Tg × List Tg) (fun x => [(0, .slice (some ⟨g, 0, none⟩) n cp), (1, .int .i64 (n : Int)), (2, .func (.func f) #[] cap), (6, .int .i64 20), (7, .int .i64 (x.1.length : Int)), (8, .int .i64 ((x.1.length : Int) + 20))]) (StI (zs := zs) c O 1 20 g w) (fun x => n - x.1.length) ([], O) (sub ⟨rfl, rfl, rfl, rfl, rfl, rfl⟩) ⟨hB, List.Perm.refl _, hS, ⟨0, rfl⟩, Srt.nil c 20, srt1 c O, Fr.refl _ _⟩ ?_
 rintro ⟨P, R⟩ w1 ⟨hdb, hperm, hst, ⟨m, hm⟩, hs1, hs2e, hfr⟩
 dsimp only at *
 have hlen := hperm.length_eq
 rw [List.length_append] at hlen
 by_cases hb : P.length + 20 ≤ n
 ·obtain ⟨S, R, rfl, hSl⟩ : ∃ S R', R = S ++ R' ∧ S.length = 20 := ⟨R.take 20, R.drop 20, (List.take_append_drop _ _).symm, by rw [List.length_take]; omega⟩
  rw [List.length_append] at hlen
  rw [← List.append_assoc] at hdb hperm hst
  refine wk ?_
  refine xcall (S := fun _ w' => ∃ S', S'.Perm S ∧ S'.Pairwise (lt c) ∧ DB zs w' g (P ++ S' ++ R) ∧ Fr (· = g) w1 w') rfl rfl (insertion_does w1 g n cp f cap D c P S R hdb (by omega) (by omega) (hC.fr hfr) (fun x hx => hD x (hperm.subset (by simp [hx]))) (by rw [List.append_assoc, List.pairwise_append, List.pairwise_append] at hst; exact hst.2.1.1) _ _ rfl (by omega)) ?_
  rintro v w2 ⟨S', hp, hs, hd2, hf2⟩
  have hpl := hp.length_eq
  refine wk ?_
  exact tfin ⟨(P ++ S', R), sub ⟨rfl, rfl, rfl, rfl, ieq (by dsimp only; rw [List.length_append]; omega), ieq (by dsimp only; rw [List.length_append]; omega)⟩, ⟨hd2, perm_swap hperm hp, stb_swap hst hp hs, ⟨m + 1, by dsimp only; rw [List.length_append]; omega⟩, hs1.app hm hs (by omega), srt1 _ _, hfr.t hf2⟩, by dsimp only; rw [List.length_append]; omega⟩
 ·refine wk ?_
  refine xcall (S := fun _ w' => ∃ S', S'.Perm R ∧ S'.Pairwise (lt c) ∧ DB zs w' g (P ++ S' ++ []) ∧ Fr (· = g) w1 w') rfl rfl (insertion_does w1 g n cp f cap D c P R [] (by simpa using hdb) (by simp; omega) (by omega) (hC.fr hfr) (fun x hx => hD x (hperm.subset (by simp [hx]))) (by rw [List.pairwise_append] at hst; exact hst.2.1) _ _ rfl (by omega)) ?_
  rintro v w2 ⟨S', hp, hs, hd2, hf2⟩
  have hpl := hp.length_eq
  have hsA : Srt c 20 (P ++ S') := hs1.app hm hs (by omega)
  have hpA : (P ++ S').Perm O := by have := perm_swap (C := []) (by simpa using hperm) hp; simpa using this
  have hstA : (P ++ S').Pairwise (stb c) := by have := stb_swap (C := []) (by simpa using hst) hp hs; simpa using this
  refine wk ?_
  refine tloop (α := Nat × List Tg) (fun x => [(0, .slice (some ⟨g, 0, none⟩) n cp), (1, .int .i64 (n : Int)), (2, .func (.func f) #[] cap), (6, .int .i64 (x.1 : Int))]) (fun x w' => 0 < x.1 ∧ StI (zs := zs) c O x.1 x.1 g w ([], x.2) w') (fun x => n + 1 - x.1) (20, P ++ S') (sub ⟨rfl, rfl, rfl, rfl⟩) ⟨by show 0 < 20; decide, by simpa using hd2, by simpa using hpA, by simpa using hstA, ⟨0, by simp⟩, Srt.nil _ _, hsA, hfr.t hf2⟩ ?_
  clear hdb hperm hst hm hs1 hfr hlen hb hp hs hd2 hf2 hpl hsA hpA hstA hs2e
  rintro ⟨s, L⟩ w3 ⟨hs0, hdb, hperm, hst, _, _, hs2, hfr⟩
  dsimp only [List.nil_append] at *
  have hlen := hperm.length_eq
  by_cases hsn : s < n
  ·refine wk ?_
   refine tloop (α := List Tg × List Tg) (fun x => [(0, .slice (some ⟨g, 0, none⟩) n cp), (1, .int .i64 (n : Int)), (2, .func (.func f) #[] cap), (6, .int .i64 (s : Int)), (7, .int .i64 (x.1.length : Int)), (8, .int .i64 ((x.1.length : Int) + 2 * s))]) (StI (zs := zs) c O s (2 * s) g w) (fun x => n - x.1.length) ([], L) (sub ⟨rfl, rfl, rfl, rfl, rfl, ieq (by simp)⟩) ⟨hdb, hperm, hst, ⟨0, by simp⟩, Srt.nil _ _, hs2, hfr⟩ ?_
   clear hdb hperm hst hs2 hfr hlen L w3
   rintro ⟨P, R⟩ w3 ⟨hdb, hperm, hst, ⟨m, hm⟩, hs1, hs2, hfr⟩
   dsimp only at *
   have hlen := hperm.length_eq
   rw [List.length_append] at hlen
   by_cases hb : P.length + 2 * s ≤ n
   ·obtain ⟨X, R, rfl, hX⟩ : ∃ S R', R = S ++ R' ∧ S.length = s := ⟨R.take s, R.drop s, (List.take_append_drop _ _).symm, by rw [List.length_take]; omega⟩
    rw [List.length_append] at hlen
    obtain ⟨Y, R, rfl, hY⟩ : ∃ S R', R = S ++ R' ∧ S.length = s := ⟨R.take s, R.drop s, (List.take_append_drop _ _).symm, by rw [List.length_take]; omega⟩
    rw [List.length_append] at hlen
    have hst' : (P ++ (X ++ Y) ++ R).Pairwise (stb c) := by simpa using hst
    have hperm' : (P ++ (X ++ Y) ++ R).Perm O := by simpa using hperm
    have hst3 : (X ++ Y).Pairwise (stb c) := by rw [List.append_assoc, List.pairwise_append, List.pairwise_append] at hst'; exact hst'.2.1.1
    refine wk ?_
    refine xcall (S := fun _ w' => ∃ Z, Z.Perm (X ++ Y) ∧ Z.Pairwise (lt c) ∧ DB zs w' g (P ++ Z ++ R) ∧ Fr (· = g) w3 w') rfl rfl (symMerge_does f cap D c g n cp (by omega) _ w3 P X Y R (Nat.le_refl _) (by simpa using hdb) (by omega) (hC.fr hfr) (fun x hx => hD x (hperm'.subset (List.mem_append_left _ (List.mem_append_right _ hx)))) (hs2.first hX) ((hs2.drop 1 (by omega)).first hY) (fun x hx y hy => (List.pairwise_append.1 hst3).2.2 x hx y hy) (by omega) (by omega) _ _ _ rfl (by omega) (by omega)) ?_
    rintro v w4 ⟨Z, hp, hs, hd2, hf2⟩
    have hpl := hp.length_eq
    rw [List.length_append] at hpl
    refine wk ?_
    exact tfin ⟨(P ++ Z, R), sub ⟨rfl, rfl, rfl, rfl, ieq (by dsimp only; rw [List.length_append]; omega), ieq (by dsimp only; rw [List.length_append]; omega)⟩, ⟨hd2, perm_swap hperm' hp, stb_swap hst' hp hs, ⟨m + 1, by dsimp only; rw [List.length_append, hm, Nat.add_mul]; omega⟩, hs1.app hm hs (by omega), (hs2.drop 1 (by omega)).drop 1 (by omega), hfr.t hf2⟩, by dsimp only; rw [List.length_append]; omega⟩
   ·by_cases hb2 : P.length + s < n
    ·obtain ⟨X, Y, rfl, hX⟩ : ∃ S R', R = S ++ R' ∧ S.length = s := ⟨R.take s, R.drop s, (List.take_append_drop _ _).symm, by rw [List.length_take]; omega⟩
     rw [List.length_append] at hlen
     have hst' : (P ++ (X ++ Y) ++ []).Pairwise (stb c) := by simpa using hst
     have hperm' : (P ++ (X ++ Y) ++ []).Perm O := by simpa using hperm
     have hst3 : (X ++ Y).Pairwise (stb c) := by rw [List.append_assoc, List.pairwise_append, List.pairwise_append] at hst'; exact hst'.2.1.1
     refine wk ?_
     refine xcall (S := fun _ w' => ∃ Z, Z.Perm (X ++ Y) ∧ Z.Pairwise (lt c) ∧ DB zs w' g (P ++ Z ++ []) ∧ Fr (· = g) w3 w') rfl rfl (symMerge_does f cap D c g n cp (by omega) _ w3 P X Y [] (Nat.le_refl _) (by simpa using hdb) (by simp; omega) (hC.fr hfr) (fun x hx => hD x (hperm'.subset (List.mem_append_left _ (List.mem_append_right _ hx)))) (hs2.first hX) ((hs2.drop 1 (by omega)).one (by omega)) (fun x hx y hy => (List.pairwise_append.1 hst3).2.2 x hx y hy) (by omega) (by omega) _ _ _ rfl (by omega) (by omega)) ?_
     rintro v w4 ⟨Z, hp, hs, hd2, hf2⟩
     have hpl := hp.length_eq
     rw [List.length_append] at hpl
     refine wk ?_
     exact tfin ⟨(2 * s, P ++ Z), sub ⟨rfl, rfl, rfl, ieq (by dsimp only; omega)⟩, ⟨by dsimp only; omega, by simpa using hd2, by have := perm_swap hperm' hp; simpa using this, by have := stb_swap hst' hp hs; simpa using this, ⟨0, by simp⟩, Srt.nil _ _, hs1.app hm hs (by omega), hfr.t hf2⟩, by dsimp only; omega⟩
    ·refine wk ?_
     exact tfin ⟨(2 * s, P ++ R), sub ⟨rfl, rfl, rfl, ieq (by dsimp only; omega)⟩, ⟨by dsimp only; omega, by simpa using hdb, by simpa using hperm, by simpa using hst, ⟨0, by simp⟩, Srt.nil _ _, hs1.app hm (hs2.one (by omega)) (by omega), hfr⟩, by dsimp only; omega⟩
  ·refine wk ?_
   exact tend0 rfl ⟨L, hperm, hs2.one (by omega), hdb, hfr⟩
theorem stable_nil (w : World) (fv v : Value) : Does Tryz.prog 157 #[v, .int .i64 0, fv] w fun _ w' => w = w' := by
 refine does3 Tryz.func157 rfl (by kernel_rfl) ?_
 refine wk ?_
 refine tloop (α := Unit) (fun _ => [(0, v), (1, .int .i64 0), (2, fv), (6, .int .i64 20), (7, .int .i64 0), (8, .int .i64 20)]) (fun _ w' => w = w') (fun _ => 0) () (sub ⟨rfl, rfl, rfl, rfl, rfl, rfl⟩) rfl ?_
 rintro _ w1 rfl
 refine wk ?_
 refine xcall (S := fun _ w' => w = w') rfl rfl ?_ ?_
 ·refine does4 Tryz.func192 rfl (by kernel_rfl) ?_
  refine wk ?_
  refine tloop (α := Unit) (fun _ => [(2, .int .i64 0), (8, .int .i64 1)]) (fun _ w' => w = w') (fun _ => 0) () (sub ⟨rfl, rfl⟩) rfl ?_
  rintro _ w1 rfl
  refine wk ?_
  exact tend0 rfl rfl
 rintro _ w1 rfl
 refine wk ?_
 refine tloop (α := Unit) (fun _ => [(1, .int .i64 0), (6, .int .i64 20)]) (fun _ w' => w = w') (fun _ => 0) () (sub ⟨rfl, rfl⟩) rfl ?_
 rintro _ w1 rfl
 refine wk ?_
 exact tend0 rfl rfl
theorem sortStable_does (w : World) (B : Nat) (v : Value) (f : FuncId) (cap : Array Value) (D : Tg → Prop) (c : Tg → Int) (O : List Tg) (hO : Dw w B v O) (hl : O.length ≤ 10000) (hC : ∀ g, v.ownBlock = some g → CmpOK g w f cap D c) (hD : ∀ x ∈ O, D x) (hS : O.Pairwise (stb c)) :
  Does Tryz.prog 115 #[v, .func (.func f) #[] cap] w fun _ w' => ∃ S, S.Perm O ∧ S.Pairwise (lt c) ∧ Dw w' B v S ∧ Fr (fun b => O ≠ [] ∧ v.ownBlock = some b) w w' := by
 refine does2 Tryz.func115 rfl (by kernel_rfl) ?_
 obtain ⟨A, cp, rfl, hc1, hc2, h⟩ := hO
 by_cases h0 : O = []
 ·subst h0
  refine wk ?_
  refine xcall (S := fun _ w' => w = w') rfl rfl (stable_nil w _ _) ?_
  rintro _ w1 rfl
  refine wk ?_
  exact tend0 rfl ⟨[], List.Perm.refl _, List.Pairwise.nil, ⟨A, cp, rfl, hc1, hc2, .inl rfl⟩, Fr.refl _ _⟩
 ·obtain ⟨g, rfl, hg, hd⟩ := h.resolve_left h0
  refine wk ?_
  refine xcall (S := fun _ w' => ∃ S, S.Perm O ∧ S.Pairwise (lt c) ∧ DB (cp * 2) w' g S ∧ Fr (· = g) w w') rfl rfl (stable_does w g O.length cp f cap D c O hd rfl hl (hC g rfl) hD hS) ?_
  rintro _ w1 ⟨S, hp, hs, hd, hf⟩
  refine wk ?_
  exact tend0 rfl ⟨S, hp, hs, ⟨_, cp, by rw [hp.length_eq], by rw [hp.length_eq]; exact hc1, hc2, .inr ⟨g, rfl, hg, hd⟩⟩, hf.mono fun k _ hk => by subst hk; exact ⟨h0, rfl⟩⟩
end
end Go.Proofs.YtiebbecknfpdeaaGreatDoor.Eng
