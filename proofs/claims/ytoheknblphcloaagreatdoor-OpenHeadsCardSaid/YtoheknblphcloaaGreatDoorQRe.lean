/-
  Parts of the proof: Re.
-/
import Derived.Test.YtoheknblphcloaaGreatDoorQB1
set_option maxRecDepth 100000
set_option maxHeartbeats 64000000
namespace Go.Proofs.YtoheknblphcloaaGreatDoor.Eng
open Go.RowKit
section
attribute [local irreducible] xs T
theorem ones_mg : ∀ zs : List Int, Lens zs → npos zs = 1 → ((zs.map mg).sum = 2048 ↔ zs.count 1 = 1) := by
 intro zs hL h1
 have key : ∀ zs : List Int, Lens zs → npos zs = 0 → (zs.map mg).sum = 0 ∧ zs.count 1 = 0 := by
  intro zs
  induction zs with
  | nil => intro _ _; exact ⟨rfl, rfl⟩
  | cons z r ih =>
   intro hL h0
   have hz := hL z (List.mem_cons_self ..)
   unfold npos at h0
   rw [List.countP_cons] at h0
   by_cases hp : 0 < z
   ·simp [hp] at h0
   ·have h1 := ih (fun y hy => hL y (List.mem_cons_of_mem _ hy)) (by unfold npos; simp [hp] at h0; exact List.countP_eq_zero.2 (by simpa using h0))
    have hm : mg z = 0 := by unfold mg; rw [if_neg hp]
    rw [List.map_cons, List.sum_cons, hm, List.count_cons_of_ne (by omega)]
    omega
 induction zs with
 | nil => simp [npos] at h1
 | cons z r ih =>
  have hz := hL z (List.mem_cons_self ..)
  have hLr : Lens r := fun y hy => hL y (List.mem_cons_of_mem _ hy)
  unfold npos at h1
  rw [List.countP_cons] at h1
  rw [List.map_cons, List.sum_cons]
  by_cases hp : 0 < z
  ·have h2 : npos r = 0 := by unfold npos; simp [hp] at h1; exact List.countP_eq_zero.2 (by simpa using h1)
   obtain ⟨k1, k2⟩ := key r hLr h2
   rw [k1]
   by_cases e : z = 1
   ·subst e
    rw [List.count_cons_self, k2]
    simp [mg]
   ·rw [List.count_cons_of_ne (by omega), k2]
    have : mg z ≤ 1024 := by
     unfold mg
     rw [if_pos hp]
     exact Nat.le_trans (Nat.pow_le_pow_right (by decide) (show 12 - z.toNat ≤ 10 by omega)) (by decide)
    omega
  ·have hm : mg z = 0 := by unfold mg; rw [if_neg hp]
   rw [hm, Nat.zero_add, List.count_cons_of_ne (by omega)]
   exact ih hLr (by unfold npos; simp [hp] at h1; exact h1)
theorem npos_take {zs : List Int} {i : Nat} {z : Int} (h : zs[i]? = some z) : npos (zs.take (i + 1)) = npos (zs.take i) + if 0 < z then 1 else 0 := by
 unfold npos
 rw [List.take_add_one, h, List.countP_append]
 simp [List.countP_cons]
theorem ones_take {zs : List Int} {i : Nat} {z : Int} (h : zs[i]? = some z) : (zs.take (i + 1)).count 1 = (zs.take i).count 1 + if z = 1 then 1 else 0 := by
 rw [List.take_add_one, h, List.count_append]
 by_cases e : z = 1
 ·subst e; simp
 ·simp [e]
theorem npos_le (zs : List Int) : npos zs ≤ zs.length := List.countP_le_length
theorem mayLens_does (w : World) (v : Value) (zs : List Int) (hv : IRow w v zs) (hl : zs.length ≤ 1000) :
  Does Tryz.prog 82 #[v] w fun r w' => r = .bool (mayB zs) ∧ w = w' := by
 refine does1 Tryz.func82 rfl (by kernel_rfl) ?_
 obtain ⟨A, c, rfl, hcc, hcm, hA⟩ := hv.op
 refine go ?_
 refine tloop (α := Nat) (fun i => [(0, .slice A zs.length c), (3, .int .i64 (((zs.take i).map mg).sum : Int)), (4, .int .i64 (npos (zs.take i) : Int)), (5, .int .i64 ((zs.take i).count 1 : Int)), (6, .int .i64 (i : Int))]) (fun i w' => i ≤ zs.length ∧ w = w' ∧ Lens (zs.take i)) (fun i => zs.length - i) 0 (sub ⟨rfl, rfl, rfl, rfl, rfl⟩) ⟨Nat.zero_le _, rfl, fun z hz => by simp at hz⟩ ?_
 rintro i _ ⟨hi, rfl, hL⟩
 have hms := mg_sum_le (zs.take i)
 have hnp := npos_le (zs.take i)
 have hco := List.count_le_length (a := (1 : Int)) (l := zs.take i)
 rw [List.length_take] at hms hnp hco
 by_cases hlt : i < zs.length
 ·obtain ⟨b, o, z, rfl, _, hz, hcell, _⟩ := hA.at_ hlt
  by_cases hbad : z < 0 ∨ 12 < z
  ·have hno : mayB zs = false := by
    cases hm : mayB zs with
    | false => rfl
    | true => have := may_lens hm z (List.mem_of_getElem? hz); omega
   by_cases hneg : z < 0
   ·refine go ?_
    exact tret1 rfl rfl ⟨by rw [hno], rfl⟩
   ·refine go ?_
    exact tret1 rfl rfl ⟨by rw [hno], rfl⟩
  ·have hL' : Lens (zs.take (i + 1)) := fun y hy => by
    rw [List.take_add_one, hz] at hy
    rcases List.mem_append.1 hy with hy | hy
    ·exact hL y hy
    ·have : y = z := by simpa using hy
     omega
   have t1 := mg_take hz
   have t2 := npos_take hz
   have t3 := ones_take hz
   have fin : ∀ env, Sub [(0, .slice (some ⟨b, o, none⟩) zs.length c), (3, .int .i64 (((zs.take (i + 1)).map mg).sum : Int)), (4, .int .i64 (npos (zs.take (i + 1)) : Int)), (5, .int .i64 ((zs.take (i + 1)).count 1 : Int)), (6, .int .i64 ((i : Int) + 1))] env → Again (fun i : Nat => [(0, .slice (some ⟨b, o, none⟩) zs.length c), (3, .int .i64 (((zs.take i).map mg).sum : Int)), (4, .int .i64 (npos (zs.take i) : Int)), (5, .int .i64 ((zs.take i).count 1 : Int)), (6, .int .i64 (i : Int))]) (fun i w' => i ≤ zs.length ∧ w = w' ∧ Lens (zs.take i)) (fun i => zs.length - i) (zs.length - i) env w :=
    fun env hs => ⟨i + 1, hs, ⟨by omega, rfl, hL'⟩, (by show zs.length - (i + 1) < zs.length - i; omega)⟩
   by_cases hp : 0 < z
   ·rw [if_pos hp] at t2
    obtain ⟨q, rfl⟩ := Int.eq_ofNat_of_zero_le (show 0 ≤ z by omega)
    have hmq := mg_cast (show 0 < q by omega) (by omega)
    have hmle := mg_le (q : Int)
    by_cases h1 : (q : Int) = 1
    ·rw [if_pos h1] at t3
     refine gz1 ?_
     refine xshl (r := (mg (q : Int) : Int)) rfl rfl (by omega) (by simp [IntKind.bits]; omega) (by
      rw [Int.one_mul]
      have h9 : p2 (12 - (q : Int)) = 2 ^ (12 - (q : Int)).toNat := rfl
      rw [← h9, ← hmq]
      exact IntWalk.i64_in _ (by omega)) ?_
     refine go ?_
     exact tfin (fin _ (sub ⟨rfl, hieq (by rw [t1]; omega), hieq (by rw [t2]; omega), hieq (by rw [t3]; omega), rfl⟩))
    ·rw [if_neg h1] at t3
     refine gz1 ?_
     refine xshl (r := (mg (q : Int) : Int)) rfl rfl (by omega) (by simp [IntKind.bits]; omega) (by
      rw [Int.one_mul]
      have h9 : p2 (12 - (q : Int)) = 2 ^ (12 - (q : Int)).toNat := rfl
      rw [← h9, ← hmq]
      exact IntWalk.i64_in _ (by omega)) ?_
     refine go ?_
     exact tfin (fin _ (sub ⟨rfl, hieq (by rw [t1]; omega), hieq (by rw [t2]; omega), hieq (by rw [t3]; omega), rfl⟩))
   ·have hz0 : mg z = 0 := by unfold mg; rw [if_neg hp]
    rw [if_neg hp] at t2
    rw [if_neg (by omega)] at t3
    rw [hz0] at t1
    refine go ?_
    exact tfin (fin _ (sub ⟨rfl, hieq (by rw [t1]; omega), hieq (by rw [t2]; omega), hieq (by rw [t3]; omega), rfl⟩))
 ·obtain rfl : i = zs.length := by omega
  rw [List.take_length] at hL hms hnp hco ⊢
  by_cases h4 : 400 < zs.length
  ·refine go ?_
   refine tret1 rfl rfl ⟨?_, rfl⟩
   congr 1
   unfold mayB
   simp; omega
  ·have hm : mayB zs = hmayGo [] (npos zs) ((zs.map mg).sum) := by
    unfold mayB
    rw [mayGo_eq zs 0 0 hL]
    simp; omega
   rw [hmayGo_nil] at hm
   obtain ⟨n, hn⟩ : ∃ n, n = npos zs := ⟨_, rfl⟩
   obtain ⟨sm, hsm⟩ : ∃ s, s = (zs.map mg).sum := ⟨_, rfl⟩
   obtain ⟨co, hco'⟩ : ∃ s, s = zs.count 1 := ⟨_, rfl⟩
   have hone := ones_mg zs hL
   rw [← hn, ← hsm, ← hco'] at hone
   rw [← hn, ← hsm] at hm
   rw [← hn] at hnp
   rw [← hsm] at hms
   rw [← hco'] at hco
   rw [← hn, ← hsm, ← hco']
   by_cases n0 : n = 0
   ·subst n0
    refine go ?_
    exact tret1 rfl rfl ⟨by rw [hm]; simp, rfl⟩
   by_cases n1 : n = 1
   ·subst n1
    have hone := hone rfl
    by_cases c1 : co = 1
    ·have : sm = 2048 := hone.2 c1
     refine go ?_
     exact tret1 rfl rfl ⟨by rw [hm]; simp [this], rfl⟩
    ·have : sm ≠ 2048 := fun e => c1 (hone.1 e)
     refine go ?_
     refine tret1 rfl rfl ⟨?_, rfl⟩
     rw [hm]
     simp; omega
   ·by_cases s1 : sm = 4096
    ·refine go ?_
     exact tret1 rfl rfl ⟨by rw [hm, if_neg (by omega)]; simp [s1], rfl⟩
    ·refine go ?_
     refine tret1 rfl rfl ⟨?_, rfl⟩
     rw [hm, if_neg (by omega)]
     simp; omega
end
end Go.Proofs.YtoheknblphcloaaGreatDoor.Eng
