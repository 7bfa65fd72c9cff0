/-
  Parts of the proof: Reh.
-/
import Derived.Test.YtpfelapckcojjaaGreatDoorQB1
set_option maxRecDepth 100000
set_option maxHeartbeats 64000000
namespace Go.Proofs.YtpfelapckcojjaaGreatDoor
open Go.RowKit
namespace Eng
attribute [local irreducible] xs T
def Cl (k : IntKind) (w : World) (A : Option Addr) (zs : List Int) : Prop := 0 < zs.length → ∃ b o, A = some ⟨b, o, none⟩ ∧ b < w.heap.size ∧ ∀ j u, (zs.map (Value.int k))[j]? = some u → w.cell? ⟨b, o + j, none⟩ = some u
theorem Cl.at_ {k : IntKind} {w : World} {A : Option Addr} {zs : List Int} (h : Cl k w A zs) {i : Nat} (hi : i < zs.length) : ∃ b o z, A = some ⟨b, o, none⟩ ∧ b < w.heap.size ∧ zs[i]? = some z ∧ w.cell? ⟨b, o + i, none⟩ = some (.int k z) ∧ zs.drop i = z :: zs.drop (i + 1) := at_row h hi
theorem IRow.op {w : World} {v : Value} {zs : List Int} (h : IRow w v zs) : ∃ A c, v = .slice A zs.length c ∧ zs.length ≤ c ∧ c ≤ 9223372036854775807 ∧ Cl .i64 w A zs := by
 obtain ⟨A, c, h1, h2, h3, h4⟩ := h
 exact ⟨A, c, h1, h2, h3, h4⟩
theorem getD_mem {l : List Int} {j : Nat} (h : j < l.length) : l.getD j 0 ∈ l := by
 rw [List.getD_eq_getElem?_getD, List.getElem?_eq_getElem h]; exact List.getElem_mem h
def mg (z : Int) : Nat := if 0 < z then 2 ^ (12 - z.toNat) else 0
def npos (zs : List Int) : Nat := zs.countP fun z => decide (0 < z)
theorem mayGo_eq : ∀ (zs : List Int) (c s : Int), Lens zs → hmayGo zs c s = hmayGo [] (c + npos zs) (s + (zs.map mg).sum)
 | [], c, s, _ => by simp [npos]
 | z :: r, c, s, h => by
  have hz := h z (List.mem_cons_self ..)
  have hr : Lens r := fun y hy => h y (List.mem_cons_of_mem _ hy)
  rw [hmayGo_cons, if_neg (by omega)]
  by_cases h0 : 0 < z
  ·rw [if_pos h0, mayGo_eq r _ _ hr]
   have e1 : npos (z :: r) = npos r + 1 := by unfold npos; rw [List.countP_cons_of_pos (by simpa using h0)]
   have e2 : (mg z : Int) = p2 (12 - z) := by
    unfold mg p2
    rw [if_pos h0, show (12 - z).toNat = 12 - z.toNat from by omega]
    simp
   rw [e1, List.map_cons, List.sum_cons]
   congr 1
   ·omega
   ·rw [← e2]; omega
  ·rw [if_neg h0, mayGo_eq r _ _ hr]
   have e1 : npos (z :: r) = npos r := by unfold npos; rw [List.countP_cons_of_neg (by simpa using h0)]
   have e2 : mg z = 0 := by unfold mg; rw [if_neg h0]
   rw [e1, List.map_cons, List.sum_cons, e2, Nat.zero_add]
theorem mg_cast {q : Nat} (h0 : 0 < q) (h : q ≤ 12) : (mg (q : Int) : Int) = p2 (12 - (q : Int)) := by
 unfold mg p2
 rw [if_pos (by omega), Int.toNat_natCast, show (12 - (q : Int)).toNat = 12 - q from by omega]
 simp
theorem mg_le (z : Int) : mg z ≤ 4096 := by
 unfold mg
 split
 ·exact Nat.le_trans (Nat.pow_le_pow_right (by decide) (Nat.sub_le _ _)) (by decide)
 ·omega
theorem mg_sum_le : ∀ l : List Int, (l.map mg).sum ≤ 4096 * l.length
 | [] => by simp
 | z :: r => by
  have := mg_sum_le r
  have := mg_le z
  rw [List.map_cons, List.sum_cons, List.length_cons]; omega
theorem mg_take {zs : List Int} {i : Nat} {z : Int} (h : zs[i]? = some z) : ((zs.take (i + 1)).map mg).sum = ((zs.take i).map mg).sum + mg z := by
 rw [List.take_add_one, h]; simp
theorem ones_mg : ∀ zs : List Int, Lens zs → npos zs = 1 → ((zs.map mg).sum = 2048 ↔ zs.count 1 = 1) := by
 intro zs hL h1
 have key : ∀ zs : List Int, Lens zs → npos zs = 0 → (zs.map mg).sum = 0 ∧ zs.count 1 = 0 := by
  intro zs
  induction zs with
  | nil => intro _ _; exact ⟨rfl, rfl⟩
  | cons z r ih =>
   intro hL h0
   have hz := hL z (List.mem_cons_self ..)
   unfold npos at h0
   rw [List.countP_cons] at h0
   by_cases hp : 0 < z
   ·simp [hp] at h0
   ·have h1 := ih (fun y hy => hL y (List.mem_cons_of_mem _ hy)) (by unfold npos; simp [hp] at h0; exact List.countP_eq_zero.2 (by simpa using h0))
    have hm : mg z = 0 := by unfold mg; rw [if_neg hp]
    rw [List.map_cons, List.sum_cons, hm, List.count_cons_of_ne (by omega)]
    omega
 induction zs with
 | nil => simp [npos] at h1
 | cons z r ih =>
  have hz := hL z (List.mem_cons_self ..)
  have hLr : Lens r := fun y hy => hL y (List.mem_cons_of_mem _ hy)
  unfold npos at h1
  rw [List.countP_cons] at h1
  rw [List.map_cons, List.sum_cons]
  by_cases hp : 0 < z
  ·have h2 : npos r = 0 := by unfold npos; simp [hp] at h1; exact List.countP_eq_zero.2 (by simpa using h1)
   obtain ⟨k1, k2⟩ := key r hLr h2
   rw [k1]
   by_cases e : z = 1
   ·subst e
    rw [List.count_cons_self, k2]
    simp [mg]
   ·rw [List.count_cons_of_ne (by omega), k2]
    have : mg z ≤ 1024 := by
     unfold mg
     rw [if_pos hp]
     exact Nat.le_trans (Nat.pow_le_pow_right (by decide) (show 12 - z.toNat ≤ 10 by omega)) (by decide)
    omega
  ·have hm : mg z = 0 := by unfold mg; rw [if_neg hp]
   rw [hm, Nat.zero_add, List.count_cons_of_ne (by omega)]
   exact ih hLr (by unfold npos; simp [hp] at h1; exact h1)
theorem npos_take {zs : List Int} {i : Nat} {z : Int} (h : zs[i]? = some z) : npos (zs.take (i + 1)) = npos (zs.take i) + if 0 < z then 1 else 0 := by
 unfold npos
 rw [List.take_add_one, h, List.countP_append]
 simp [List.countP_cons]
theorem ones_take {zs : List Int} {i : Nat} {z : Int} (h : zs[i]? = some z) : (zs.take (i + 1)).count 1 = (zs.take i).count 1 + if z = 1 then 1 else 0 := by
 rw [List.take_add_one, h, List.count_append]
 by_cases e : z = 1
 ·subst e; simp
 ·simp [e]
theorem npos_le (zs : List Int) : npos zs ≤ zs.length := List.countP_le_length
theorem mayLens_does (w : World) (v : Value) (zs : List Int) (hv : IRow w v zs) (hl : zs.length ≤ 1000) :
  Does Tryz.prog 178 #[v] w fun r w' => r = .bool (mayB zs) ∧ w = w' := by
 refine does1 Tryz.func178 rfl (by kernel_rfl) ?_
 obtain ⟨A, c, rfl, hcc, hcm, hA⟩ := hv.op
 refine go ?_
 refine tloop (α := Nat) (fun i => [(0, .slice A zs.length c), (3, .int .i64 (((zs.take i).map mg).sum : Int)), (4, .int .i64 (npos (zs.take i) : Int)), (5, .int .i64 ((zs.take i).count 1 : Int)), (6, .int .i64 (i : Int))]) (fun i w' => i ≤ zs.length ∧ w = w' ∧ Lens (zs.take i)) (fun i => zs.length - i) 0 (sub ⟨rfl, rfl, rfl, rfl, rfl⟩) ⟨Nat.zero_le _, rfl, fun z hz => by simp at hz⟩ ?_
 rintro i _ ⟨hi, rfl, hL⟩
 have hms := mg_sum_le (zs.take i)
 have hnp := npos_le (zs.take i)
 have hco := List.count_le_length (a := (1 : Int)) (l := zs.take i)
 rw [List.length_take] at hms hnp hco
 by_cases hlt : i < zs.length
 ·obtain ⟨b, o, z, rfl, _, hz, hcell, _⟩ := hA.at_ hlt
  by_cases hbad : z < 0 ∨ 12 < z
  ·have hno : mayB zs = false := by
    cases hm : mayB zs with
    | false => rfl
    | true => have := may_lens hm z (List.mem_of_getElem? hz); omega
   by_cases hneg : z < 0
   ·refine go ?_
    exact tret1 rfl rfl ⟨by rw [hno], rfl⟩
   ·refine go ?_
    exact tret1 rfl rfl ⟨by rw [hno], rfl⟩
  ·have hL' : Lens (zs.take (i + 1)) := fun y hy => by
    rw [List.take_add_one, hz] at hy
    rcases List.mem_append.1 hy with hy | hy
    ·exact hL y hy
    ·have : y = z := by simpa using hy
     omega
   have t1 := mg_take hz
   have t2 := npos_take hz
   have t3 := ones_take hz
   have fin : ∀ env, Sub [(0, .slice (some ⟨b, o, none⟩) zs.length c), (3, .int .i64 (((zs.take (i + 1)).map mg).sum : Int)), (4, .int .i64 (npos (zs.take (i + 1)) : Int)), (5, .int .i64 ((zs.take (i + 1)).count 1 : Int)), (6, .int .i64 ((i : Int) + 1))] env → Again (fun i : Nat => [(0, .slice (some ⟨b, o, none⟩) zs.length c), (3, .int .i64 (((zs.take i).map mg).sum : Int)), (4, .int .i64 (npos (zs.take i) : Int)), (5, .int .i64 ((zs.take i).count 1 : Int)), (6, .int .i64 (i : Int))]) (fun i w' => i ≤ zs.length ∧ w = w' ∧ Lens (zs.take i)) (fun i => zs.length - i) (zs.length - i) env w :=
    fun env hs => ⟨i + 1, hs, ⟨by omega, rfl, hL'⟩, (by show zs.length - (i + 1) < zs.length - i; omega)⟩
   by_cases hp : 0 < z
   ·rw [if_pos hp] at t2
    obtain ⟨q, rfl⟩ := Int.eq_ofNat_of_zero_le (show 0 ≤ z by omega)
    have hmq := mg_cast (show 0 < q by omega) (by omega)
    have hmle := mg_le (q : Int)
    by_cases h1 : (q : Int) = 1
    ·rw [if_pos h1] at t3
     repeat' (first | refine xcvu rfl rfl rfl (by omega) (by omega) ?_ | refine go1 ?_ | fail)
     refine xshl (r := (mg (q : Int) : Int)) rfl rfl (by omega) (by simp [IntKind.bits]; omega) (by
      rw [Int.one_mul]
      have h9 : p2 (12 - (q : Int)) = 2 ^ (12 - (q : Int)).toNat := rfl
      rw [← h9, ← hmq]
      exact IntWalk.i64_in _ (by omega)) ?_
     refine go ?_
     exact tfin (fin _ (sub ⟨rfl, hieq (by rw [t1]; omega), hieq (by rw [t2]; omega), hieq (by rw [t3]; omega), rfl⟩))
    ·rw [if_neg h1] at t3
     repeat' (first | refine xcvu rfl rfl rfl (by omega) (by omega) ?_ | refine go1 ?_ | fail)
     refine xshl (r := (mg (q : Int) : Int)) rfl rfl (by omega) (by simp [IntKind.bits]; omega) (by
      rw [Int.one_mul]
      have h9 : p2 (12 - (q : Int)) = 2 ^ (12 - (q : Int)).toNat := rfl
      rw [← h9, ← hmq]
      exact IntWalk.i64_in _ (by omega)) ?_
     refine go ?_
     exact tfin (fin _ (sub ⟨rfl, hieq (by rw [t1]; omega), hieq (by rw [t2]; omega), hieq (by rw [t3]; omega), rfl⟩))
   ·have hz0 : mg z = 0 := by unfold mg; rw [if_neg hp]
    rw [if_neg hp] at t2
    rw [if_neg (by omega)] at t3
    rw [hz0] at t1
    refine go ?_
    exact tfin (fin _ (sub ⟨rfl, hieq (by rw [t1]; omega), hieq (by rw [t2]; omega), hieq (by rw [t3]; omega), rfl⟩))
 ·obtain rfl : i = zs.length := by omega
  rw [List.take_length] at hL hms hnp hco ⊢
  by_cases h4 : 400 < zs.length
  ·refine go ?_
   refine tret1 rfl rfl ⟨?_, rfl⟩
   congr 1
   unfold mayB
   simp; omega
  ·have hm : mayB zs = hmayGo [] (npos zs) ((zs.map mg).sum) := by
    unfold mayB
    rw [mayGo_eq zs 0 0 hL]
    simp; omega
   rw [hmayGo_nil] at hm
   obtain ⟨n, hn⟩ : ∃ n, n = npos zs := ⟨_, rfl⟩
   obtain ⟨sm, hsm⟩ : ∃ s, s = (zs.map mg).sum := ⟨_, rfl⟩
   obtain ⟨co, hco'⟩ : ∃ s, s = zs.count 1 := ⟨_, rfl⟩
   have hone := ones_mg zs hL
   rw [← hn, ← hsm, ← hco'] at hone
   rw [← hn, ← hsm] at hm
   rw [← hn] at hnp
   rw [← hsm] at hms
   rw [← hco'] at hco
   rw [← hn, ← hsm, ← hco']
   by_cases n0 : n = 0
   ·subst n0
    refine go ?_
    exact tret1 rfl rfl ⟨by rw [hm]; simp, rfl⟩
   by_cases n1 : n = 1
   ·subst n1
    have hone := hone rfl
    by_cases c1 : co = 1
    ·have : sm = 2048 := hone.2 c1
     refine go ?_
     exact tret1 rfl rfl ⟨by rw [hm]; simp [this], rfl⟩
    ·have : sm ≠ 2048 := fun e => c1 (hone.1 e)
     refine go ?_
     refine tret1 rfl rfl ⟨?_, rfl⟩
     rw [hm]
     simp; omega
   ·by_cases s1 : sm = 4096
    ·refine go ?_
     exact tret1 rfl rfl ⟨by rw [hm, if_neg (by omega)]; simp [s1], rfl⟩
    ·refine go ?_
     refine tret1 rfl rfl ⟨?_, rfl⟩
     rw [hm, if_neg (by omega)]
     simp; omega
theorem code_eq {zs : List Int} {s q : Nat} (hs : zs[s]? = some (q : Int)) (hq : 0 < q) : codeB zs s = firstB zs q + (zs.take s).count (q : Int) := by
 unfold codeB
 rw [hs]
 dsimp only
 rw [if_pos (by omega), Int.toNat_natCast]
def cpart (zs : List Int) (l i : Nat) : List Int := (List.range zs.length).map fun s => if 0 < zs.getD s 0 ∧ (zs.getD s 0 < l ∨ (zs.getD s 0 = l ∧ s < i)) then (codeB zs s : Int) else 0
@[simp] theorem cpart_len (zs : List Int) (l i : Nat) : (cpart zs l i).length = zs.length := by simp [cpart]
theorem cpart_next (zs : List Int) (l : Nat) : cpart zs l zs.length = cpart zs (l + 1) 0 := by
 unfold cpart
 refine List.map_congr_left fun s hs => ?_
 have := List.mem_range.1 hs
 by_cases h : 0 < zs.getD s 0 ∧ (zs.getD s 0 < l ∨ (zs.getD s 0 = l ∧ s < zs.length))
 ·rw [if_pos h, if_pos (by omega)]
 ·rw [if_neg h, if_neg (by omega)]
theorem cpart_skip {zs : List Int} {l i : Nat} {z : Int} (hz : zs[i]? = some z) (h : z ≠ l) : cpart zs l (i + 1) = cpart zs l i := by
 have hg : zs.getD i 0 = z := by rw [List.getD_eq_getElem?_getD, hz]; rfl
 unfold cpart
 refine List.map_congr_left fun s _ => ?_
 by_cases e : s = i
 ·subst e
  rw [hg]
  by_cases h1 : 0 < z ∧ z < l
  ·rw [if_pos (by omega), if_pos (by omega)]
  ·rw [if_neg (by omega), if_neg (by omega)]
 ·by_cases h1 : 0 < zs.getD s 0 ∧ (zs.getD s 0 < l ∨ (zs.getD s 0 = l ∧ s < i))
  ·rw [if_pos h1, if_pos (by omega)]
  ·rw [if_neg h1, if_neg (by omega)]
theorem cpart_set {zs : List Int} {l i : Nat} (hz : zs[i]? = some (l : Int)) (hl : 0 < l) : (cpart zs l i).set i (codeB zs i : Int) = cpart zs l (i + 1) := by
 have hg : zs.getD i 0 = l := by rw [List.getD_eq_getElem?_getD, hz]; rfl
 have hi : i < zs.length := (List.getElem?_eq_some_iff.1 hz).1
 apply List.ext_getElem
 ·simp
 ·intro s h1 h2
  rw [List.getElem_set]
  simp only [cpart, List.getElem_map, List.getElem_range]
  by_cases e : i = s
  ·subst e
   rw [if_pos rfl, if_pos (by omega)]
  ·rw [if_neg e]
   by_cases h1 : 0 < zs.getD s 0 ∧ (zs.getD s 0 < l ∨ (zs.getD s 0 = l ∧ s < i))
   ·rw [if_pos h1, if_pos (by omega)]
   ·rw [if_neg h1, if_neg (by omega)]
theorem cpart_all {zs : List Int} (hL : Lens zs) : cpart zs 13 0 = codesB zs := by
 unfold cpart codesB
 refine List.map_congr_left fun s hs => ?_
 have hb := hL _ (getD_mem (List.mem_range.1 hs))
 by_cases h : 0 < zs.getD s 0
 ·rw [if_pos (by omega)]
 ·rw [if_neg (by omega)]
  unfold codeB
  rw [List.getElem?_eq_getElem (List.mem_range.1 hs)]
  have : zs.getD s 0 = zs[s]'(List.mem_range.1 hs) := by rw [List.getD_eq_getElem?_getD, List.getElem?_eq_getElem (List.mem_range.1 hs)]; rfl
  rw [this] at h
  dsimp only
  rw [if_neg h]; rfl
theorem cpart_zero (zs : List Int) : cpart zs 1 0 = List.replicate zs.length 0 := by
 apply List.ext_getElem
 ·simp
 ·intro s h1 h2
  simp only [cpart, List.getElem_map, List.getElem_range, List.getElem_replicate]
  rw [if_neg (by omega)]
theorem UB.new {w : World} {b n : Nat} (h : Blk w b 23 (Array.replicate n (.int .u64 0))) : UB w b (List.replicate n 0) := by
 unfold UB
 rw [List.map_replicate, List.toArray_replicate]; exact h
section
variable {hs : List Nat} {H : World → Prop} {full : Array Oper} {K : Env → World → Prop} {rest : List Oper} {env : Env} {w : World} {ty : TypeId} {pos : String} {af : Array Edge}
theorem xstu {t : TypeId} {x y : Operand} {g i : Nat} {l : List Int} {z : Int} (hB : UB w g l) (hx : evo env x = some (.pointer (some ⟨g, i, none⟩))) (hy : evo env y = some (.int .u64 z)) (ht : one t = true) (hi : i < l.length)
  (h : ∀ w', UB w' g (l.set i z) → Fr (· = g) w w' → xs Tryz.prog isI isS hs H full K rest env w') (hH : ∀ w', Fr (· = g) w w' → H w' := by intros; trivial) : xs Tryz.prog isI isS hs H full K (⟨none, .store t x y, ty, pos, af, none⟩ :: rest) env w := by
 refine xstb hB hx hy ht rfl (by simp; omega) (fun w' hB' hF => h w' ?_ hF) hH
 unfold UB
 rw [List.map_set, ← List.setIfInBounds_toArray]
 exact hB'
end
theorem count_take {zs : List Int} {i : Nat} {z : Int} (l : Int) (h : zs[i]? = some z) : (zs.take (i + 1)).count l = (zs.take i).count l + if z = l then 1 else 0 := by
 rw [List.take_add_one, h, List.count_append]
 by_cases e : z = l
 ·subst e; simp
 ·simp [e]
theorem rcodes_does (w : World) (v : Value) (zs : List Int) (hv : IRow w v zs) (hm : mayB zs = true) :
  Does Tryz.prog 179 #[v] w fun r w' => ∃ b, r = .slice (some ⟨b, 0, none⟩) zs.length zs.length ∧ w.heap.size ≤ b ∧ UB w' b (codesB zs) ∧ Ext w w' := by
 refine does1 Tryz.func179 rfl (by kernel_rfl) ?_
 have hl := may_len hm
 have hrow := hv
 obtain ⟨A, c, rfl, hcc, hcm, hA⟩ := hv.op
 refine go ?_
 refine xcall rfl rfl (mayLens_does w _ zs hrow (by omega)) (fun r w1 h1 => ?_)
 obtain ⟨rfl, rfl⟩ := h1
 rw [hm]
 refine go ?_
 refine xmk sl_uints rfl rfl rfl (by omega) (by rw [Int.toNat_natCast]; omega) (by omega) (fun w1 hB1 hE1 hs1 => ?_)
 rw [Int.toNat_natCast] at hB1 ⊢
 obtain ⟨g, hg⟩ : ∃ g, g = w.heap.size := ⟨_, rfl⟩
 rw [← hg] at hB1 hs1 ⊢
 refine go ?_
 refine tloop (α := Nat) (fun x => [(0, .slice A zs.length c), (3, .slice (some ⟨g, 0, none⟩) zs.length zs.length), (4, .int .u64 ((firstB zs x + manyB zs x : Nat) : Int)), (5, .int .i64 ((x + 1 : Nat) : Int))]) (fun x w' => x ≤ 12 ∧ UB w' g (cpart zs (x + 1) 0) ∧ Ext w w') (fun x => 12 - x) 0 (sub ⟨rfl, rfl, rfl, rfl⟩) ⟨by omega, by rw [cpart_zero]; exact UB.new hB1, hE1⟩ ?_
 rintro x w2 ⟨hx, hU, hE2⟩
 by_cases hx12 : x < 12
 ·have hf1 := firstB_lt zs hl x (by omega)
  have hf2 := firstB_lt zs hl (x + 1) (by omega)
  have hfe : firstB zs (x + 1) = (firstB zs x + manyB zs x) * 2 := rfl
  have hme : manyB zs (x + 1) = zs.count ((x + 1 : Nat) : Int) := by unfold manyB; rw [if_neg (by omega)]
  refine go ?_
  refine xshl (r := (firstB zs (x + 1) : Int)) rfl rfl (by decide) (by decide) (by
   rw [hfe]
   have e : ((firstB zs x + manyB zs x : Nat) : Int) * 2 ^ (1 : Int).toNat = (((firstB zs x + manyB zs x) * 2 : Nat) : Int) := by show ((firstB zs x + manyB zs x : Nat) : Int) * 2 = _; omega
   rw [e]; exact u64_in _ (by omega) (by omega)) ?_
  refine go ?_
  refine tloop (α := Nat) (fun i => [(0, .slice A zs.length c), (3, .slice (some ⟨g, 0, none⟩) zs.length zs.length), (4, .int .u64 ((firstB zs (x + 1) + (zs.take i).count ((x + 1 : Nat) : Int) : Nat) : Int)), (5, .int .i64 ((x + 1 : Nat) : Int)), (6, .int .i64 (i : Int))]) (fun i w' => i ≤ zs.length ∧ UB w' g (cpart zs (x + 1) i) ∧ Ext w w') (fun i => zs.length - i) 0 (sub ⟨rfl, rfl, hieq (by simp), rfl, rfl⟩) ⟨Nat.zero_le _, hU, hE2⟩ ?_
  rintro i w3 ⟨hi, hU3, hE3⟩
  have hcb : (zs.take i).count ((x + 1 : Nat) : Int) ≤ zs.length := Nat.le_trans List.count_le_length (by rw [List.length_take]; omega)
  by_cases hlt : i < zs.length
  ·obtain ⟨b, o, z, rfl, hb, hz, hcell, _⟩ := hA.at_ hlt
   have hc3 := hE3.cell hcell
   have hct := count_take ((x + 1 : Nat) : Int) hz
   by_cases he : z = ((x + 1 : Nat) : Int)
   ·rw [if_pos he] at hct
    rw [he] at hz
    have hcode : codeB zs i = firstB zs (x + 1) + (zs.take i).count ((x + 1 : Nat) : Int) := code_eq hz (by omega)
    obtain ⟨nx, hnx⟩ : ∃ n, n = firstB zs (x + 1) + (zs.take i).count ((x + 1 : Nat) : Int) := ⟨_, rfl⟩
    rw [← hnx]
    rw [← hnx] at hcode
    have hcs := cpart_set hz (by omega)
    rw [hcode] at hcs
    have hcb2 : nx ≤ 4000400 := by rw [hnx]; omega
    refine go ?_
    refine xstu hU3 rfl rfl rfl (by rw [cpart_len, Nat.zero_add]; exact hlt) (fun w4 hU4 hF4 => ?_)
    rw [Nat.zero_add, hcs] at hU4
    refine go ?_
    exact tfin ⟨i + 1, sub ⟨rfl, rfl, hieq (by rw [hct]; omega), rfl, rfl⟩, ⟨by omega, hU4, Ext.te hE3 hF4 fun j hj e => by omega⟩, (by show zs.length - (i + 1) < zs.length - i; omega)⟩
   ·rw [if_neg he] at hct
    refine go ?_
    exact tfin ⟨i + 1, sub ⟨rfl, rfl, hieq (by rw [hct]; rfl), rfl, rfl⟩, ⟨by omega, by rw [cpart_skip hz he]; exact hU3, hE3⟩, (by show zs.length - (i + 1) < zs.length - i; omega)⟩
  ·obtain rfl : i = zs.length := by omega
   rw [List.take_length] at hcb ⊢
   rw [cpart_next] at hU3
   refine go ?_
   exact tfin ⟨x + 1, sub ⟨rfl, rfl, hieq (by rw [hme]), hieq (by omega)⟩, ⟨by omega, hU3, hE3⟩, (by show 12 - (x + 1) < 12 - x; omega)⟩
 ·obtain rfl : x = 12 := by omega
  rw [cpart_all (may_lens hm)] at hU
  refine go ?_
  exact tret1 rfl rfl ⟨g, rfl, by omega, hU, hE2⟩
namespace Rn
noncomputable def rmayO (al : List AV) (σ : Mem) : Rs := on1 al fun x => inK σ x fun l => okK (Nat.ble (lnN l) 1000) (bR σ (mayN l))
theorem rmay_orc : OrcS 178 rmayO := orc_row (g := fun l σ => okK (Nat.ble (lnN l) 1000) (bR σ (mayN l))) (fun _ _ => rfl) fun r v σ w a e σ' hv h => by
 obtain ⟨h1, h⟩ := okK_inv h val_ne
 have h1 := Nat.le_of_ble_eq_true h1
 rw [lnN_eq] at h1
 obtain ⟨rfl, rfl⟩ := bR_inv h
 refine ⟨rfl, Does.mono (mayLens_does w v _ hv (by rw [List.length_map]; exact h1)) fun val w' hh => ?_⟩
 obtain ⟨rfl, rfl⟩ := hh
 exact ⟨fun ρ => by rw [mayN_eq]; rfl, Fr.refl _ _⟩
theorem rcodes_orc : OrcS 179 codesO := codes_sound rcodes_does
end Rn
end Eng
end Go.Proofs.YtpfelapckcojjaaGreatDoor
