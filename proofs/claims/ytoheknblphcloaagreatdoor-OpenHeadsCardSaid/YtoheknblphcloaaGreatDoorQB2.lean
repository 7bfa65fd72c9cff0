/-
  Parts of the proof: Rf, Rg, Pf, Rei, Tlda.
-/
import Derived.Lib.Bytealg
import Derived.Shelf.Strconv.Atoi
import Derived.Shelf.Strings.Repeat
import Derived.Test.YtoheknblphcloaaGreatDoorProg
import Derived.Test.YtoheknblphcloaaGreatDoorQB0c
import Derived.Test.YtoheknblphcloaaGreatDoorQB1
import Derived.Test.YtoheknblphcloaaGreatDoorQRe
set_option maxRecDepth 100000
set_option maxHeartbeats 64000000
namespace Go.Proofs.YtoheknblphcloaaGreatDoor.Eng
open Go.RowKit
section
attribute [local irreducible] xs T
def cpart (zs : List Int) (l i : Nat) : List Int := (List.range zs.length).map fun s => if 0 < zs.getD s 0 ∧ (zs.getD s 0 < l ∨ (zs.getD s 0 = l ∧ s < i)) then (codeB zs s : Int) else 0
@[simp] theorem cpart_len (zs : List Int) (l i : Nat) : (cpart zs l i).length = zs.length := by simp [cpart]
theorem cpart_next (zs : List Int) (l : Nat) : cpart zs l zs.length = cpart zs (l + 1) 0 := by
 unfold cpart
 refine List.map_congr_left fun s hs => ?_
 have := List.mem_range.1 hs
 by_cases h : 0 < zs.getD s 0 ∧ (zs.getD s 0 < l ∨ (zs.getD s 0 = l ∧ s < zs.length))
 ·rw [if_pos h, if_pos (by omega)]
 ·rw [if_neg h, if_neg (by omega)]
theorem cpart_skip {zs : List Int} {l i : Nat} {z : Int} (hz : zs[i]? = some z) (h : z ≠ l) : cpart zs l (i + 1) = cpart zs l i := by
 have hg : zs.getD i 0 = z := by rw [List.getD_eq_getElem?_getD, hz]; rfl
 unfold cpart
 refine List.map_congr_left fun s _ => ?_
 by_cases e : s = i
 ·subst e
  rw [hg]
  by_cases h1 : 0 < z ∧ z < l
  ·rw [if_pos (by omega), if_pos (by omega)]
  ·rw [if_neg (by omega), if_neg (by omega)]
 ·by_cases h1 : 0 < zs.getD s 0 ∧ (zs.getD s 0 < l ∨ (zs.getD s 0 = l ∧ s < i))
  ·rw [if_pos h1, if_pos (by omega)]
  ·rw [if_neg h1, if_neg (by omega)]
theorem cpart_set {zs : List Int} {l i : Nat} (hz : zs[i]? = some (l : Int)) (hl : 0 < l) : (cpart zs l i).set i (codeB zs i : Int) = cpart zs l (i + 1) := by
 have hg : zs.getD i 0 = l := by rw [List.getD_eq_getElem?_getD, hz]; rfl
 have hi : i < zs.length := (List.getElem?_eq_some_iff.1 hz).1
 apply List.ext_getElem
 ·simp
 ·intro s h1 h2
  rw [List.getElem_set]
  simp only [cpart, List.getElem_map, List.getElem_range]
  by_cases e : i = s
  ·subst e
   rw [if_pos rfl, if_pos (by omega)]
  ·rw [if_neg e]
   by_cases h1 : 0 < zs.getD s 0 ∧ (zs.getD s 0 < l ∨ (zs.getD s 0 = l ∧ s < i))
   ·rw [if_pos h1, if_pos (by omega)]
   ·rw [if_neg h1, if_neg (by omega)]
theorem cpart_all {zs : List Int} (hL : Lens zs) : cpart zs 13 0 = codesB zs := by
 unfold cpart codesB
 refine List.map_congr_left fun s hs => ?_
 have hb := hL _ (getD_mem (List.mem_range.1 hs))
 by_cases h : 0 < zs.getD s 0
 ·rw [if_pos (by omega)]
 ·rw [if_neg (by omega)]
  unfold codeB
  rw [List.getElem?_eq_getElem (List.mem_range.1 hs)]
  have : zs.getD s 0 = zs[s]'(List.mem_range.1 hs) := by rw [List.getD_eq_getElem?_getD, List.getElem?_eq_getElem (List.mem_range.1 hs)]; rfl
  rw [this] at h
  dsimp only
  rw [if_neg h]; rfl
theorem cpart_zero (zs : List Int) : cpart zs 1 0 = List.replicate zs.length 0 := by
 apply List.ext_getElem
 ·simp
 ·intro s h1 h2
  simp only [cpart, List.getElem_map, List.getElem_range, List.getElem_replicate]
  rw [if_neg (by omega)]
theorem UB.new {w : World} {b n : Nat} (h : Blk w b 23 (Array.replicate n (.int .u64 0))) : UB w b (List.replicate n 0) := by
 unfold UB
 rw [List.map_replicate, List.toArray_replicate]; exact h
section
variable {hs : List Nat} {H : World → Prop} {full : Array Oper} {K : Env → World → Prop} {rest : List Oper} {env : Env} {w : World} {ty : TypeId} {pos : String} {af : Array Edge}
theorem xstu {t : TypeId} {x y : Operand} {g i : Nat} {l : List Int} {z : Int} (hB : UB w g l) (hx : evo env x = some (.pointer (some ⟨g, i, none⟩))) (hy : evo env y = some (.int .u64 z)) (ht : one t = true) (hi : i < l.length)
  (h : ∀ w', UB w' g (l.set i z) → Fr (· = g) w w' → xs Tryz.prog isI isS hs H full K rest env w') (hH : ∀ w', Fr (· = g) w w' → H w' := by intros; trivial) : xs Tryz.prog isI isS hs H full K (⟨none, .store t x y, ty, pos, af, none⟩ :: rest) env w := by
 refine xstb hB hx hy ht rfl (by simp; omega) (fun w' hB' hF => h w' ?_ hF) hH
 unfold UB
 rw [List.map_set, ← List.setIfInBounds_toArray]
 exact hB'
end
theorem count_take {zs : List Int} {i : Nat} {z : Int} (l : Int) (h : zs[i]? = some z) : (zs.take (i + 1)).count l = (zs.take i).count l + if z = l then 1 else 0 := by
 rw [List.take_add_one, h, List.count_append]
 by_cases e : z = l
 ·subst e; simp
 ·simp [e]
theorem rcodes_does (w : World) (v : Value) (zs : List Int) (hv : IRow w v zs) (hm : mayB zs = true) :
  Does Tryz.prog 83 #[v] w fun r w' => ∃ b, r = .slice (some ⟨b, 0, none⟩) zs.length zs.length ∧ w.heap.size ≤ b ∧ UB w' b (codesB zs) ∧ Ext w w' := by
 refine does1 Tryz.func83 rfl (by kernel_rfl) ?_
 have hl := may_len hm
 have hrow := hv
 obtain ⟨A, c, rfl, hcc, hcm, hA⟩ := hv.op
 refine go ?_
 refine xcall rfl rfl (mayLens_does w _ zs hrow (by omega)) (fun r w1 h1 => ?_)
 obtain ⟨rfl, rfl⟩ := h1
 rw [hm]
 refine go ?_
 refine xmk sl_uints rfl rfl rfl (by omega) (by rw [Int.toNat_natCast]; omega) (by omega) (fun w1 hB1 hE1 hs1 => ?_)
 rw [Int.toNat_natCast] at hB1 ⊢
 obtain ⟨g, hg⟩ : ∃ g, g = w.heap.size := ⟨_, rfl⟩
 rw [← hg] at hB1 hs1 ⊢
 refine go ?_
 refine tloop (α := Nat) (fun x => [(0, .slice A zs.length c), (3, .slice (some ⟨g, 0, none⟩) zs.length zs.length), (4, .int .u64 ((firstB zs x + manyB zs x : Nat) : Int)), (5, .int .i64 ((x + 1 : Nat) : Int))]) (fun x w' => x ≤ 12 ∧ UB w' g (cpart zs (x + 1) 0) ∧ Ext w w') (fun x => 12 - x) 0 (sub ⟨rfl, rfl, rfl, rfl⟩) ⟨by omega, by rw [cpart_zero]; exact UB.new hB1, hE1⟩ ?_
 rintro x w2 ⟨hx, hU, hE2⟩
 by_cases hx12 : x < 12
 ·have hf1 := firstB_lt zs hl x (by omega)
  have hf2 := firstB_lt zs hl (x + 1) (by omega)
  have hfe : firstB zs (x + 1) = (firstB zs x + manyB zs x) * 2 := rfl
  have hme : manyB zs (x + 1) = zs.count ((x + 1 : Nat) : Int) := by unfold manyB; rw [if_neg (by omega)]
  refine go ?_
  refine xshl (r := (firstB zs (x + 1) : Int)) rfl rfl (by decide) (by decide) (by
   rw [hfe]
   have e : ((firstB zs x + manyB zs x : Nat) : Int) * 2 ^ (1 : Int).toNat = (((firstB zs x + manyB zs x) * 2 : Nat) : Int) := by show ((firstB zs x + manyB zs x : Nat) : Int) * 2 = _; omega
   rw [e]; exact u64_in _ (by omega) (by omega)) ?_
  refine go ?_
  refine tloop (α := Nat) (fun i => [(0, .slice A zs.length c), (3, .slice (some ⟨g, 0, none⟩) zs.length zs.length), (4, .int .u64 ((firstB zs (x + 1) + (zs.take i).count ((x + 1 : Nat) : Int) : Nat) : Int)), (5, .int .i64 ((x + 1 : Nat) : Int)), (6, .int .i64 (i : Int))]) (fun i w' => i ≤ zs.length ∧ UB w' g (cpart zs (x + 1) i) ∧ Ext w w') (fun i => zs.length - i) 0 (sub ⟨rfl, rfl, hieq (by simp), rfl, rfl⟩) ⟨Nat.zero_le _, hU, hE2⟩ ?_
  rintro i w3 ⟨hi, hU3, hE3⟩
  have hcb : (zs.take i).count ((x + 1 : Nat) : Int) ≤ zs.length := Nat.le_trans List.count_le_length (by rw [List.length_take]; omega)
  by_cases hlt : i < zs.length
  ·obtain ⟨b, o, z, rfl, hb, hz, hcell, _⟩ := hA.at_ hlt
   have hc3 := hE3.cell hcell
   have hct := count_take ((x + 1 : Nat) : Int) hz
   by_cases he : z = ((x + 1 : Nat) : Int)
   ·rw [if_pos he] at hct
    rw [he] at hz
    have hcode : codeB zs i = firstB zs (x + 1) + (zs.take i).count ((x + 1 : Nat) : Int) := code_eq hz (by omega)
    obtain ⟨nx, hnx⟩ : ∃ n, n = firstB zs (x + 1) + (zs.take i).count ((x + 1 : Nat) : Int) := ⟨_, rfl⟩
    rw [← hnx]
    rw [← hnx] at hcode
    have hcs := cpart_set hz (by omega)
    rw [hcode] at hcs
    have hcb2 : nx ≤ 4000400 := by rw [hnx]; omega
    refine go ?_
    refine xstu hU3 rfl rfl rfl (by rw [cpart_len, Nat.zero_add]; exact hlt) (fun w4 hU4 hF4 => ?_)
    rw [Nat.zero_add, hcs] at hU4
    refine go ?_
    exact tfin ⟨i + 1, sub ⟨rfl, rfl, hieq (by rw [hct]; omega), rfl, rfl⟩, ⟨by omega, hU4, Ext.te hE3 hF4 fun j hj e => by omega⟩, (by show zs.length - (i + 1) < zs.length - i; omega)⟩
   ·rw [if_neg he] at hct
    refine go ?_
    exact tfin ⟨i + 1, sub ⟨rfl, rfl, hieq (by rw [hct]; rfl), rfl, rfl⟩, ⟨by omega, by rw [cpart_skip hz he]; exact hU3, hE3⟩, (by show zs.length - (i + 1) < zs.length - i; omega)⟩
  ·obtain rfl : i = zs.length := by omega
   rw [List.take_length] at hcb ⊢
   rw [cpart_next] at hU3
   refine go ?_
   exact tfin ⟨x + 1, sub ⟨rfl, rfl, hieq (by rw [hme]), hieq (by omega)⟩, ⟨by omega, hU3, hE3⟩, (by show 12 - (x + 1) < 12 - x; omega)⟩
 ·obtain rfl : x = 12 := by omega
  rw [cpart_all (may_lens hm)] at hU
  refine go ?_
  exact tret1 rfl rfl ⟨g, rfl, by omega, hU, hE2⟩
end
section
attribute [local irreducible] xs T
structure ROut (w : World) (g : Nat) (bs : List Nat) : Prop where
 ex : ∃ v, Blk w g 122 #[v] ∧ Own w (g + 1) 5 v (bs.map fun (b : Nat) => Value.int .u8 (b : Int))
 bits : Bits bs
theorem ROut.lt {w : World} {g : Nat} {bs : List Nat} (h : ROut w g bs) : g < w.heap.size := by
 obtain ⟨v, hB, _⟩ := h.ex
 exact hB.lt
theorem ROut.ext {w w' : World} {g : Nat} {bs : List Nat} (h : ROut w g bs) (hf : Ext w w') : ROut w' g bs := by
 obtain ⟨v, hB, hO⟩ := h.ex
 exact ⟨⟨v, hB.ext hf, hO.ext hf⟩, h.bits⟩
end
section
def pkTo (bs : List Nat) (i : Nat) : List Int := (List.range ((bs.length + 7) / 8)).map fun k => (byte8 ((bs.take i).drop (8 * k)) : Int)
@[simp] theorem pkTo_len (bs : List Nat) (i : Nat) : (pkTo bs i).length = (bs.length + 7) / 8 := by simp [pkTo]
end
section
attribute [local irreducible] xs T
section
variable {hs : List Nat} {H : World → Prop} {full : Array Oper} {K : Env → World → Prop} {rest : List Oper} {env : Env} {w : World} {ty : TypeId} {pos : String} {af : Array Edge}
end
theorem BB.cell {w : World} {b : Nat} {l : List Int} (h : BB w b l) {i : Nat} (hi : i < l.length) : w.cell? ⟨b, i, none⟩ = some (.int .u8 (l.getD i 0)) := by
 rw [Blk.cell h, List.getD_eq_getElem?_getD, List.getElem?_eq_getElem hi]
 simp [hi]
theorem BB.new {w : World} {b n : Nat} (h : Blk w b 5 (Array.replicate n (.int .u8 0))) : BB w b (List.replicate n 0) := by
 unfold BB
 rw [List.map_replicate, List.toArray_replicate]; exact h
end
section
attribute [local irreducible] xs T
end
section
section
variable {hs : List Nat} {H : World → Prop} {full : Array Oper} {K : Env → World → Prop} {rest : List Oper} {env : Env} {w : World} {d : Tmp} {ty : TypeId} {pos : String} {af : Array Edge}
end
end
section
attribute [local irreducible] xs T
end
section
attribute [local irreducible] xs T
end
section
theorem ksum_flat (zs : List Int) (l : Nat) : ∀ k, (∀ j, l < j → j ≤ l + k → manyB zs j = 0) → ksum zs (l + k) = ksum zs l
 | 0, _ => rfl
 | k + 1, h => by
  show ksum zs (l + k) + manyB zs (l + k + 1) * _ = _
  rw [h (l + k + 1) (by omega) (by omega), Nat.zero_mul, Nat.add_zero, ksum_flat zs l k fun j h1 h2 => h j h1 (by omega)]
theorem whole {zs : List Int} (hm : mayB zs = true) (hn : 2 ≤ npos zs) : firstB zs (maxL zs).toNat + manyB zs (maxL zs).toNat = 2 ^ (maxL zs).toNat := by
 have hne : zs ≠ [] := fun e => by rw [e] at hn; simp [npos] at hn
 have hb := may_lens hm _ (maxL_mem hne)
 obtain ⟨L, hL⟩ : ∃ L, L = (maxL zs).toNat := ⟨_, rfl⟩
 rw [← hL]
 have h1 := ksum_eq zs L (by omega)
 have h2 := ksum_flat zs L (12 - L) fun j h1 h2 => by
  unfold manyB
  rw [if_neg (by omega), List.count_eq_zero]
  intro hmem
  have := maxL_le hmem
  omega
 rw [show L + (12 - L) = 12 from by omega, ksum_all zs (may_lens hm)] at h2
 have h3 : (zs.map mg).sum = 4096 := by
  rcases may_cases hm with ⟨h, _⟩ | ⟨h, _⟩ | ⟨_, h⟩
  ·omega
  ·omega
  ·exact h
 have h4 : 2 ^ (12 - L) * 2 ^ L = 4096 := by rw [← Nat.pow_add, show 12 - L + L = 12 from by omega]
 have h5 : 0 < 2 ^ (12 - L) := Nat.pow_pos (by decide)
 exact Nat.eq_of_mul_eq_mul_left h5 (by omega)
end
section
def digB (bs : List Int) (i : Nat) : Option (Nat × Nat) :=
 if i < bs.length ∧ bs.getD i 0 < 250 then some ((bs.getD i 0).toNat, i + 1)
 else if i + 1 < bs.length ∧ bs.getD i 0 = 250 ∧ bs.getD (i + 1) 0 < 250 then some ((bs.getD (i + 1) 0).toNat, i + 2) else none
def ngGo (bs : List Int) (at_ : Nat) : Nat → Nat → Nat → Nat → Option (Nat × Nat)
 | 0, _, _, _ => none
 | f + 1, n, u, i => match digB bs i with
  | none => none
  | some (d, j) => if u = 0 ∨ 18446744073709551616 ≤ d * u ∨ 18446744073709551616 ≤ n + d * u ∨ (j = i + 1 ∧ d = 0 ∧ at_ < i) then none
   else if j = i + 1 then some (n + d * u, j) else ngGo bs at_ f (n + d * u) (if 18446744073709551616 ≤ u * 250 then 0 else u * 250) j
def ngB (bs : List Int) (at_ : Nat) : Option (Nat × Nat) := ngGo bs at_ (bs.length + 1 - at_) 0 1 at_
end
end Go.Proofs.YtoheknblphcloaaGreatDoor.Eng
namespace Go.Proofs.YtoheknblphcloaaGreatDoor
open Go.RowKit
namespace Eng
namespace Rn
noncomputable def rmayO (al : List AV) (σ : Mem) : Rs := on1 al fun x => inK σ x fun l => okK (Nat.ble (lnN l) 1000) (bR σ (mayN l))
theorem rmay_orc : OrcS 82 rmayO := orc_row (g := fun l σ => okK (Nat.ble (lnN l) 1000) (bR σ (mayN l))) (fun _ _ => rfl) fun r v σ w a e σ' hv h => by
 obtain ⟨h1, h⟩ := okK_inv h val_ne
 have h1 := Nat.le_of_ble_eq_true h1
 rw [lnN_eq] at h1
 obtain ⟨rfl, rfl⟩ := bR_inv h
 refine ⟨rfl, Does.mono (mayLens_does w v _ hv (by rw [List.length_map]; exact h1)) fun val w' hh => ?_⟩
 obtain ⟨rfl, rfl⟩ := hh
 exact ⟨fun ρ => by rw [mayN_eq]; rfl, Fr.refl _ _⟩
theorem rcodes_orc : OrcS 83 codesO := codes_sound rcodes_does
end Rn
end Eng
end Go.Proofs.YtoheknblphcloaaGreatDoor
namespace Go.Proofs.YtoheknblphcloaaGreatDoor
open Go.RowKit
namespace Eng
namespace Rn
set_option maxRecDepth 100000
noncomputable def tabG (x0 x1 x2 x3 x4 x5 x6 x7 x8 x9 x10 x11 x12 x13 x14 x15 x16 : Fe) : List (Nat × Fe) := [
 (83, .orc (codesO)),
 (231, .orc (mayO)),
 (82, .orc (rmayO)),
 (265, .orc (countO)),
 (232, .orc (codesO)),
 (194, .code Tryz.f194 199),
 (50, x3),
 (48, .code Tryz.f48 199),
 (87, .code Tryz.f87 281474976710719),
 (142, .code Tryz.f142 51),
 (113, .code Tryz.f113 3855),
 (228, .orc (mxO true)),
 (79, .code Tryz.f79 1011),
 (267, .code Tryz.f267 783),
 (47, x2),
 (226, .code Tryz.f226 4083),
 (230, .code Tryz.f230 1219572003044643453052734656085852056780543),
 (227, .orc (mxO false)),
 (86, .code Tryz.f86 967),
 (169, x11),
 (41, .code Tryz.f41 63),
 (233, .code Tryz.f233 19),
 (81, .code Tryz.f81 2045),
 (75, .code Tryz.f75 3855),
 (20, x4),
 (109, .code Tryz.f109 19),
 (112, .code Tryz.f112 1),
 (24, .code Tryz.f24 262131),
 (271, .code Tryz.f271 5),
 (300, .code Tryz.f300 783),
 (110, .code Tryz.f110 29),
 (116, .code Tryz.f116 463),
 (224, .code Tryz.f224 7),
 (88, .code Tryz.f88 975),
 (57, .code Tryz.f57 16371),
 (143, .code Tryz.f143 26388279070671),
 (40, .code Tryz.f40 967),
 (160, .code Tryz.f160 15),
 (195, .code Tryz.f195 71),
 (192, .code Tryz.f192 31),
 (59, x7),
 (191, x9),
 (69, .code Tryz.f69 61),
 (184, .code Tryz.f184 15),
 (270, .code Tryz.f270 115),
 (154, .code Tryz.f154 31),
 (56, .code Tryz.f56 115),
 (80, .code Tryz.f80 7),
 (33, .code Tryz.f33 4294967423),
 (196, .code Tryz.f196 61),
 (46, .code Tryz.f46 31),
 (49, .code Tryz.f49 71),
 (74, .code Tryz.f74 1),
 (269, .code Tryz.f269 39),
 (206, .code Tryz.f206 13),
 (290, .code Tryz.f290 5),
 (114, .code Tryz.f114 8135),
 (32, .code Tryz.f32 13),
 (70, .code Tryz.f70 15),
 (45, .code Tryz.f45 125),
 (38, .code Tryz.f38 4095),
 (52, .code Tryz.f52 975),
 (89, x8),
 (178, .code Tryz.f178 125),
 (216, .code Tryz.f216 45),
 (84, .code Tryz.f84 4047),
 (237, .code Tryz.f237 51),
 (31, .code Tryz.f31 29),
 (234, .code Tryz.f234 61),
 (99, .code Tryz.f99 13),
 (214, .code Tryz.f214 5),
 (158, .code Tryz.f158 63),
 (182, .code Tryz.f182 63),
 (6, .code Tryz.f6 509),
 (272, .code Tryz.f272 16371),
 (43, .code Tryz.f43 23),
 (16, .code Tryz.f16 13),
 (111, .code Tryz.f111 51),
 (97, .code Tryz.f97 4095),
 (15, x1),
 (202, .code Tryz.f202 66113138641474380890815),
 (13, .code Tryz.f13 8191),
 (25, x15),
 (239, .code Tryz.f239 243),
 (204, .code Tryz.f204 115),
 (255, .code Tryz.f255 29),
 (200, .code Tryz.f200 15),
 (54, .code Tryz.f54 21778071482940061661655974875633165534207),
 (156, .code Tryz.f156 31),
 (4, x0),
 (126, .code Tryz.f126 243),
 (106, .code Tryz.f106 13),
 (62, .code Tryz.f62 8143),
 (157, .code Tryz.f157 7),
 (23, .code Tryz.f23 51),
 (104, .code Tryz.f104 63),
 (211, .code Tryz.f211 31),
 (14, .code Tryz.f14 8191),
 (149, .code Tryz.f149 13),
 (220, .orc (ixbO)),
 (128, .code Tryz.f128 223),
 (180, .code Tryz.f180 63),
 (19, .code Tryz.f19 2045),
 (72, .code Tryz.f72 5),
 (173, .code Tryz.f173 255),
 (123, .code Tryz.f123 4083),
 (7, x16),
 (171, .code Tryz.f171 8135),
 (5, x6),
 (64, .code Tryz.f64 131055),
 (129, .code Tryz.f129 15),
 (63, .code Tryz.f63 33685501),
 (37, .code Tryz.f37 243),
 (125, .code Tryz.f125 31),
 (138, .code Tryz.f138 13),
 (175, .code Tryz.f175 883),
 (179, .code Tryz.f179 7),
 (9, .code Tryz.f9 119),
 (28, .code Tryz.f28 127),
 (78, .code Tryz.f78 127),
 (198, .code Tryz.f198 51),
 (53, .code Tryz.f53 31),
 (91, .code Tryz.f91 16327),
 (118, .code Tryz.f118 1021),
 (235, .code Tryz.f235 5),
 (197, .code Tryz.f197 243),
 (65, .code Tryz.f65 119),
 (92, .code Tryz.f92 253),
 (100, x14),
 (76, .code Tryz.f76 5),
 (42, .code Tryz.f42 79),
 (134, .code Tryz.f134 31),
 (170, .code Tryz.f170 499),
 (21, x5),
 (98, .code Tryz.f98 16371),
 (176, .code Tryz.f176 29),
 (67, .code Tryz.f67 31),
 (95, .code Tryz.f95 4083),
 (120, .code Tryz.f120 63),
 (155, .code Tryz.f155 2039),
 (29, .code Tryz.f29 29),
 (22, .code Tryz.f22 895),
 (51, .code Tryz.f51 7),
 (133, .code Tryz.f133 7),
 (73, .code Tryz.f73 29),
 (30, .code Tryz.f30 29),
 (238, .code Tryz.f238 14681183),
 (193, x10),
 (150, .code Tryz.f150 61),
 (186, .code Tryz.f186 19),
 (146, .code Tryz.f146 1991),
 (199, .code Tryz.f199 100925565),
 (101, .code Tryz.f101 5),
 (102, .code Tryz.f102 5),
 (103, .code Tryz.f103 5),
 (61, .code Tryz.f61 19),
 (77, .code Tryz.f77 7),
 (203, .code Tryz.f203 5),
 (236, .code Tryz.f236 29),
 (66, .code Tryz.f66 7),
 (212, .code Tryz.f212 12339),
 (251, .code Tryz.f251 12339),
 (280, .code Tryz.f280 12339),
 (8, .code Tryz.f8 115),
 (119, .code Tryz.f119 125),
 (145, x12),
 (213, .code Tryz.f213 51),
 (115, .code Tryz.f115 31),
 (39, .code Tryz.f39 31),
 (117, x13),
 (27, .code Tryz.f27 83),
 (159, .code Tryz.f159 29),
 (289, .code Tryz.f289 967),
 (93, .code Tryz.f93 243),
 (94, .code Tryz.f94 1991),
 (148, .code Tryz.f148 15),
 (26, .code Tryz.f26 243),
 (60, .code Tryz.f60 7),
 (144, .code Tryz.f144 125),
 (55, .code Tryz.f55 5),
 (90, .code Tryz.f90 125),
 (135, .code Tryz.f135 51),
 (163, .code Tryz.f163 51),
 (164, .code Tryz.f164 51),
 (252, .code Tryz.f252 19),
 (132, .code Tryz.f132 63),
 (131, .code Tryz.f131 253),
 (172, .code Tryz.f172 7),
 (229, .code Tryz.f229 5),
 (124, .code Tryz.f124 12339),
 (152, .code Tryz.f152 12339),
 (153, .code Tryz.f153 12339),
 (183, .code Tryz.f183 19),
 (268, .code Tryz.f268 3),
 (18, .code Tryz.f18 29),
 (162, .code Tryz.f162 61),
 (68, .code Tryz.f68 5),
 (17, .code Tryz.f17 7),
 (96, .code Tryz.f96 5),
 (127, .code Tryz.f127 4)]
theorem tabG_ok {x0 x1 x2 x3 x4 x5 x6 x7 x8 x9 x10 x11 x12 x13 x14 x15 x16 : Fe} (px0 : FeOK 4 x0) (px1 : FeOK 15 x1) (px2 : FeOK 47 x2) (px3 : FeOK 50 x3) (px4 : FeOK 20 x4) (px5 : FeOK 21 x5) (px6 : FeOK 5 x6) (px7 : FeOK 59 x7) (px8 : FeOK 89 x8) (px9 : FeOK 191 x9) (px10 : FeOK 193 x10) (px11 : FeOK 169 x11) (px12 : FeOK 145 x12) (px13 : FeOK 117 x13) (px14 : FeOK 100 x14) (px15 : FeOK 25 x15) (px16 : FeOK 7 x16) : TabOK (tabG x0 x1 x2 x3 x4 x5 x6 x7 x8 x9 x10 x11 x12 x13 x14 x15 x16) := tok_cons (rcodes_orc) <| tok_cons (may_orc) <| tok_cons (rmay_orc) <| tok_cons (count_orc) <| tok_cons (codes_orc) <| tok_cons (Tryz.func194) <| tok_cons (px3) <| tok_cons (Tryz.func48) <| tok_cons (Tryz.func87) <| tok_cons (Tryz.func142) <| tok_cons (Tryz.func113) <| tok_cons (max_orc) <| tok_cons (Tryz.func79) <| tok_cons (Tryz.func267) <| tok_cons (px2) <| tok_cons (Tryz.func226) <| tok_cons (Tryz.func230) <| tok_cons (min_orc) <| tok_cons (Tryz.func86) <| tok_cons (px11) <| tok_cons (Tryz.func41) <| tok_cons (Tryz.func233) <| tok_cons (Tryz.func81) <| tok_cons (Tryz.func75) <| tok_cons (px4) <| tok_cons (Tryz.func109) <| tok_cons (Tryz.func112) <| tok_cons (Tryz.func24) <| tok_cons (Tryz.func271) <| tok_cons (Tryz.func300) <| tok_cons (Tryz.func110) <| tok_cons (Tryz.func116) <| tok_cons (Tryz.func224) <| tok_cons (Tryz.func88) <| tok_cons (Tryz.func57) <| tok_cons (Tryz.func143) <| tok_cons (Tryz.func40) <| tok_cons (Tryz.func160) <| tok_cons (Tryz.func195) <| tok_cons (Tryz.func192) <| tok_cons (px7) <| tok_cons (px9) <| tok_cons (Tryz.func69) <| tok_cons (Tryz.func184) <| tok_cons (Tryz.func270) <| tok_cons (Tryz.func154) <| tok_cons (Tryz.func56) <| tok_cons (Tryz.func80) <| tok_cons (Tryz.func33) <| tok_cons (Tryz.func196) <| tok_cons (Tryz.func46) <| tok_cons (Tryz.func49) <| tok_cons (Tryz.func74) <| tok_cons (Tryz.func269) <| tok_cons (Tryz.func206) <| tok_cons (Tryz.func290) <| tok_cons (Tryz.func114) <| tok_cons (Tryz.func32) <| tok_cons (Tryz.func70) <| tok_cons (Tryz.func45) <| tok_cons (Tryz.func38) <| tok_cons (Tryz.func52) <| tok_cons (px8) <| tok_cons (Tryz.func178) <| tok_cons (Tryz.func216) <| tok_cons (Tryz.func84) <| tok_cons (Tryz.func237) <| tok_cons (Tryz.func31) <| tok_cons (Tryz.func234) <| tok_cons (Tryz.func99) <| tok_cons (Tryz.func214) <| tok_cons (Tryz.func158) <| tok_cons (Tryz.func182) <| tok_cons (Tryz.func6) <| tok_cons (Tryz.func272) <| tok_cons (Tryz.func43) <| tok_cons (Tryz.func16) <| tok_cons (Tryz.func111) <| tok_cons (Tryz.func97) <| tok_cons (px1) <| tok_cons (Tryz.func202) <| tok_cons (Tryz.func13) <| tok_cons (px15) <| tok_cons (Tryz.func239) <| tok_cons (Tryz.func204) <| tok_cons (Tryz.func255) <| tok_cons (Tryz.func200) <| tok_cons (Tryz.func54) <| tok_cons (Tryz.func156) <| tok_cons (px0) <| tok_cons (Tryz.func126) <| tok_cons (Tryz.func106) <| tok_cons (Tryz.func62) <| tok_cons (Tryz.func157) <| tok_cons (Tryz.func23) <| tok_cons (Tryz.func104) <| tok_cons (Tryz.func211) <| tok_cons (Tryz.func14) <| tok_cons (Tryz.func149) <| tok_cons (ixb_orc) <| tok_cons (Tryz.func128) <| tok_cons (Tryz.func180) <| tok_cons (Tryz.func19) <| tok_cons (Tryz.func72) <| tok_cons (Tryz.func173) <| tok_cons (Tryz.func123) <| tok_cons (px16) <| tok_cons (Tryz.func171) <| tok_cons (px6) <| tok_cons (Tryz.func64) <| tok_cons (Tryz.func129) <| tok_cons (Tryz.func63) <| tok_cons (Tryz.func37) <| tok_cons (Tryz.func125) <| tok_cons (Tryz.func138) <| tok_cons (Tryz.func175) <| tok_cons (Tryz.func179) <| tok_cons (Tryz.func9) <| tok_cons (Tryz.func28) <| tok_cons (Tryz.func78) <| tok_cons (Tryz.func198) <| tok_cons (Tryz.func53) <| tok_cons (Tryz.func91) <| tok_cons (Tryz.func118) <| tok_cons (Tryz.func235) <| tok_cons (Tryz.func197) <| tok_cons (Tryz.func65) <| tok_cons (Tryz.func92) <| tok_cons (px14) <| tok_cons (Tryz.func76) <| tok_cons (Tryz.func42) <| tok_cons (Tryz.func134) <| tok_cons (Tryz.func170) <| tok_cons (px5) <| tok_cons (Tryz.func98) <| tok_cons (Tryz.func176) <| tok_cons (Tryz.func67) <| tok_cons (Tryz.func95) <| tok_cons (Tryz.func120) <| tok_cons (Tryz.func155) <| tok_cons (Tryz.func29) <| tok_cons (Tryz.func22) <| tok_cons (Tryz.func51) <| tok_cons (Tryz.func133) <| tok_cons (Tryz.func73) <| tok_cons (Tryz.func30) <| tok_cons (Tryz.func238) <| tok_cons (px10) <| tok_cons (Tryz.func150) <| tok_cons (Tryz.func186) <| tok_cons (Tryz.func146) <| tok_cons (Tryz.func199) <| tok_cons (Tryz.func101) <| tok_cons (Tryz.func102) <| tok_cons (Tryz.func103) <| tok_cons (Tryz.func61) <| tok_cons (Tryz.func77) <| tok_cons (Tryz.func203) <| tok_cons (Tryz.func236) <| tok_cons (Tryz.func66) <| tok_cons (Tryz.func212) <| tok_cons (Tryz.func251) <| tok_cons (Tryz.func280) <| tok_cons (Tryz.func8) <| tok_cons (Tryz.func119) <| tok_cons (px12) <| tok_cons (Tryz.func213) <| tok_cons (Tryz.func115) <| tok_cons (Tryz.func39) <| tok_cons (px13) <| tok_cons (Tryz.func27) <| tok_cons (Tryz.func159) <| tok_cons (Tryz.func289) <| tok_cons (Tryz.func93) <| tok_cons (Tryz.func94) <| tok_cons (Tryz.func148) <| tok_cons (Tryz.func26) <| tok_cons (Tryz.func60) <| tok_cons (Tryz.func144) <| tok_cons (Tryz.func55) <| tok_cons (Tryz.func90) <| tok_cons (Tryz.func135) <| tok_cons (Tryz.func163) <| tok_cons (Tryz.func164) <| tok_cons (Tryz.func252) <| tok_cons (Tryz.func132) <| tok_cons (Tryz.func131) <| tok_cons (Tryz.func172) <| tok_cons (Tryz.func229) <| tok_cons (Tryz.func124) <| tok_cons (Tryz.func152) <| tok_cons (Tryz.func153) <| tok_cons (Tryz.func183) <| tok_cons (Tryz.func268) <| tok_cons (Tryz.func18) <| tok_cons (Tryz.func162) <| tok_cons (Tryz.func68) <| tok_cons (Tryz.func17) <| tok_cons (Tryz.func96) <| tok_cons (Tryz.func127) <| tok_nil
noncomputable abbrev c0 : Fe := .code Tryz.f4 15357
noncomputable abbrev c1 : Fe := .code Tryz.f15 1991
noncomputable abbrev c2 : Fe := .code Tryz.f47 8189
noncomputable abbrev c3 : Fe := .code Tryz.f50 29
noncomputable abbrev c4 : Fe := .code Tryz.f20 521469
noncomputable abbrev c5 : Fe := .code Tryz.f21 127
noncomputable abbrev c6 : Fe := .code Tryz.f5 14340063007
noncomputable abbrev c7 : Fe := .code Tryz.f59 16781271
noncomputable abbrev c8 : Fe := .code Tryz.f89 524063
noncomputable abbrev c9 : Fe := .code Tryz.f191 125
noncomputable abbrev c10 : Fe := .code Tryz.f193 125
noncomputable abbrev c11 : Fe := .code Tryz.f169 985162478245085
noncomputable abbrev c12 : Fe := .code Tryz.f145 29
noncomputable abbrev c13 : Fe := .code Tryz.f117 1011
noncomputable abbrev c14 : Fe := .code Tryz.f100 255
noncomputable abbrev c15 : Fe := .code Tryz.f25 65523
noncomputable abbrev c16 : Fe := .code Tryz.f7 185335
noncomputable def me0 : Me := ⟨1, [.v (.lx 0 1 0 2 2)],
 [⟨0, 3, 2, [.n .i64 9, .n .i64 7]⟩],
 .g ([.l 45 2 0 2, .l 43 12 0 2]), 65,
 [⟨0, 3, 2, [.n .i64 9, .n .i64 7]⟩,
  ⟨43, 47, 5, [.n .i64 1, .n .i64 493, .n .i64 0, .n .i64 0, .n .i64 9, .l0, .l0, .n .i64 0, .l0, .s [], .n .i64 0, .n .i64 0, .n .i64 3, .n .i64 1, .n .i64 0, .n .i64 1, .n .i64 9, .l0, .l0, .n .i64 0, .l0, .s [46, 46, 47, 98], .n .i64 0, .n .i64 0]⟩,
  ⟨45, 40, 2, [.s [], .n .i64 0, .s [98], .n .i64 1]⟩]⟩
noncomputable def me1 : Me := ⟨105, [.v (.s [112]), .v (.s [115, 97, 108, 116, 115, 97, 108, 116]), .v (.n .i64 2)],
 [],
 .t [.g (nv .u32 [3409274020, 509314670, 1703445984, 1957995565, 2005550929, 3704805053, 4245305362, 1033746069]), .v (.n .i64 0)], 271,
 []⟩
noncomputable def me2 : Me := ⟨580, [.v (.lx 531 1 0 320 320)],
 [⟨531, 3, 9, nv .i64 [5, 6, 1, 1, 1, 0, 0, 0, 0, 1, 0, 0, 0, 0, 0, 0, 0, 0, 0, 0, 0, 0, 0, 0, 0, 0, 0, 0, 0, 0, 0, 0, 0, 0, 0, 0, 0, 0, 0, 0, 0, 0, 0, 0, 0, 0, 2, 1, 0, 0, 0, 0, 0, 0, 0, 0, 0, 0, 0, 0, 0, 0, 0, 0, 0, 0, 0, 0, 0, 0, 0, 0, 0, 0, 0, 0, 0, 0, 0, 0, 0, 0, 0, 0, 0, 0, 0, 0, 0, 0, 0, 0, 0, 0, 0, 0, 0, 0, 2, 0, 0, 0, 0, 0, 0, 0, 0, 0, 0, 0, 0, 0, 0, 0, 0, 0, 0, 0, 0, 0, 0, 0, 0, 0, 0, 0, 0, 0, 0, 0, 0, 0, 0, 0, 0, 0, 0, 0, 0, 0, 0, 0, 0, 0, 0, 0, 0, 0, 0, 0, 0, 0, 0, 0, 0, 0, 0, 0, 0, 0, 0, 0, 0, 0, 0, 0, 0, 0, 0, 0, 0, 0, 0, 0, 0, 0, 0, 0, 0, 0, 0, 0, 0, 0, 0, 0, 0, 0, 0, 0, 0, 0, 0, 0, 0, 0, 0, 0, 0, 0, 0, 0, 0, 0, 0, 0, 0, 0, 0, 0, 0, 0, 0, 0, 0, 0, 0, 0, 0, 0, 0, 0, 0, 0, 0, 0, 0, 0, 0, 0, 0, 0, 0, 0, 0, 0, 0, 0, 0, 0, 0, 0, 0, 1, 0, 0, 0, 0, 0, 0, 1, 0, 0, 0, 0, 0, 2, 0, 0, 0, 0, 0, 0, 0, 0, 0, 0, 0, 0, 0, 0, 0, 0, 0, 0, 0, 0, 0, 0, 0, 0, 0, 0, 0, 0, 0, 0, 0, 0, 0, 0, 0, 0, 0, 0, 0, 0, 0, 0, 0, 0, 0, 0, 0, 0, 0, 0, 0, 0, 0, 0, 0, 0, 0, 0, 0, 0, 0, 0, 0]⟩],
 .t [.v (.lx 582 1 0 320 320), .v (.n .i64 0)], 767,
 [⟨531, 3, 9, nv .i64 [5, 6, 1, 1, 1, 0, 0, 0, 0, 1, 0, 0, 0, 0, 0, 0, 0, 0, 0, 0, 0, 0, 0, 0, 0, 0, 0, 0, 0, 0, 0, 0, 0, 0, 0, 0, 0, 0, 0, 0, 0, 0, 0, 0, 0, 0, 2, 1, 0, 0, 0, 0, 0, 0, 0, 0, 0, 0, 0, 0, 0, 0, 0, 0, 0, 0, 0, 0, 0, 0, 0, 0, 0, 0, 0, 0, 0, 0, 0, 0, 0, 0, 0, 0, 0, 0, 0, 0, 0, 0, 0, 0, 0, 0, 0, 0, 0, 0, 2, 0, 0, 0, 0, 0, 0, 0, 0, 0, 0, 0, 0, 0, 0, 0, 0, 0, 0, 0, 0, 0, 0, 0, 0, 0, 0, 0, 0, 0, 0, 0, 0, 0, 0, 0, 0, 0, 0, 0, 0, 0, 0, 0, 0, 0, 0, 0, 0, 0, 0, 0, 0, 0, 0, 0, 0, 0, 0, 0, 0, 0, 0, 0, 0, 0, 0, 0, 0, 0, 0, 0, 0, 0, 0, 0, 0, 0, 0, 0, 0, 0, 0, 0, 0, 0, 0, 0, 0, 0, 0, 0, 0, 0, 0, 0, 0, 0, 0, 0, 0, 0, 0, 0, 0, 0, 0, 0, 0, 0, 0, 0, 0, 0, 0, 0, 0, 0, 0, 0, 0, 0, 0, 0, 0, 0, 0, 0, 0, 0, 0, 0, 0, 0, 0, 0, 0, 0, 0, 0, 0, 0, 0, 0, 0, 1, 0, 0, 0, 0, 0, 0, 1, 0, 0, 0, 0, 0, 2, 0, 0, 0, 0, 0, 0, 0, 0, 0, 0, 0, 0, 0, 0, 0, 0, 0, 0, 0, 0, 0, 0, 0, 0, 0, 0, 0, 0, 0, 0, 0, 0, 0, 0, 0, 0, 0, 0, 0, 0, 0, 0, 0, 0, 0, 0, 0, 0, 0, 0, 0, 0, 0, 0, 0, 0, 0, 0, 0, 0, 0, 0, 0]⟩,
  ⟨582, 3, 9, nv .i64 [2, 2, 5, 5, 5, 0, 0, 0, 0, 5, 0, 0, 0, 0, 0, 0, 0, 0, 0, 0, 0, 0, 0, 0, 0, 0, 0, 0, 0, 0, 0, 0, 0, 0, 0, 0, 0, 0, 0, 0, 0, 0, 0, 0, 0, 0, 4, 4, 0, 0, 0, 0, 0, 0, 0, 0, 0, 0, 0, 0, 0, 0, 0, 0, 0, 0, 0, 0, 0, 0, 0, 0, 0, 0, 0, 0, 0, 0, 0, 0, 0, 0, 0, 0, 0, 0, 0, 0, 0, 0, 0, 0, 0, 0, 0, 0, 0, 0, 4, 0, 0, 0, 0, 0, 0, 0, 0, 0, 0, 0, 0, 0, 0, 0, 0, 0, 0, 0, 0, 0, 0, 0, 0, 0, 0, 0, 0, 0, 0, 0, 0, 0, 0, 0, 0, 0, 0, 0, 0, 0, 0, 0, 0, 0, 0, 0, 0, 0, 0, 0, 0, 0, 0, 0, 0, 0, 0, 0, 0, 0, 0, 0, 0, 0, 0, 0, 0, 0, 0, 0, 0, 0, 0, 0, 0, 0, 0, 0, 0, 0, 0, 0, 0, 0, 0, 0, 0, 0, 0, 0, 0, 0, 0, 0, 0, 0, 0, 0, 0, 0, 0, 0, 0, 0, 0, 0, 0, 0, 0, 0, 0, 0, 0, 0, 0, 0, 0, 0, 0, 0, 0, 0, 0, 0, 0, 0, 0, 0, 0, 0, 0, 0, 0, 0, 0, 0, 0, 0, 0, 0, 0, 0, 0, 4, 0, 0, 0, 0, 0, 0, 4, 0, 0, 0, 0, 0, 4, 0, 0, 0, 0, 0, 0, 0, 0, 0, 0, 0, 0, 0, 0, 0, 0, 0, 0, 0, 0, 0, 0, 0, 0, 0, 0, 0, 0, 0, 0, 0, 0, 0, 0, 0, 0, 0, 0, 0, 0, 0, 0, 0, 0, 0, 0, 0, 0, 0, 0, 0, 0, 0, 0, 0, 0, 0, 0, 0, 0, 0, 0, 0]⟩]⟩
noncomputable def me3 : Me := ⟨3597, [.v (.p 767 0)],
 [⟨767, 122, 1, [.l 3595 1 0 1378]⟩,
  ⟨3595, 5, 11, nv .u8 [0, 0, 1, 0, 0, 0, 1, 0, 0, 1, 0, 1, 0, 1, 0, 1, 0, 1, 0, 1, 0, 0, 0, 0, 0, 0, 0, 0, 0, 0, 0, 0, 0, 0, 0, 0, 0, 1, 0, 1, 0, 0, 0, 0, 0, 0, 0, 0, 0, 0, 0, 0, 0, 0, 0, 0, 0, 0, 0, 0, 0, 0, 0, 0, 0, 0, 0, 0, 0, 0, 0, 0, 0, 0, 0, 0, 0, 0, 0, 0, 0, 0, 0, 0, 0, 0, 0, 0, 0, 0, 0, 0, 0, 0, 0, 0, 0, 0, 0, 0, 0, 0, 0, 0, 0, 0, 0, 0, 0, 0, 0, 0, 0, 0, 0, 0, 0, 0, 0, 0, 0, 0, 0, 0, 0, 0, 0, 0, 0, 0, 0, 0, 0, 0, 0, 0, 0, 0, 0, 0, 0, 0, 0, 0, 0, 0, 0, 0, 0, 0, 0, 0, 0, 0, 0, 0, 0, 0, 0, 0, 0, 0, 0, 0, 0, 0, 0, 0, 0, 0, 0, 0, 0, 0, 0, 0, 0, 0, 0, 0, 0, 0, 0, 0, 0, 1, 0, 0, 0, 1, 0, 0, 0, 0, 0, 0, 0, 0, 0, 0, 0, 0, 0, 0, 0, 0, 0, 0, 0, 0, 0, 0, 0, 0, 0, 0, 0, 0, 0, 0, 0, 0, 0, 0, 0, 0, 0, 0, 0, 0, 0, 0, 0, 0, 0, 0, 0, 0, 0, 0, 0, 0, 0, 0, 0, 0, 0, 0, 0, 0, 0, 0, 0, 0, 0, 0, 0, 0, 0, 0, 0, 0, 0, 0, 0, 0, 0, 0, 0, 0, 0, 0, 0, 0, 0, 0, 0, 0, 0, 0, 0, 0, 0, 0, 0, 0, 0, 0, 0, 0, 0, 0, 0, 0, 0, 0, 0, 0, 0, 0, 0, 0, 0, 0, 0, 0, 0, 0, 0, 0, 0, 0, 0, 0, 0, 0, 0, 0, 0, 0, 0, 0, 0, 0, 0, 0, 0, 0, 0, 0, 0, 0, 0, 0, 0, 0, 0, 0, 0, 0, 0, 0, 0, 0, 0, 0, 0, 0, 0, 0, 0, 0, 0, 0, 0, 0, 0, 0, 0, 0, 0, 0, 0, 0, 0, 0, 0, 0, 0, 0, 0, 0, 0, 0, 0, 0, 0, 0, 0, 0, 0, 0, 0, 0, 0, 0, 0, 0, 0, 0, 0, 0, 0, 1, 0, 0, 0, 0, 0, 0, 0, 0, 0, 0, 0, 0, 0, 0, 0, 0, 0, 0, 0, 0, 0, 0, 0, 0, 0, 0, 0, 0, 0, 0, 0, 0, 0, 0, 0, 0, 0, 0, 0, 0, 0, 0, 0, 0, 0, 0, 0, 0, 0, 0, 0, 0, 0, 0, 0, 0, 0, 0, 0, 0, 0, 0, 0, 0, 0, 0, 0, 0, 0, 0, 0, 0, 0, 0, 0, 0, 0, 0, 0, 0, 0, 0, 0, 0, 0, 0, 0, 0, 0, 0, 0, 0, 0, 0, 0, 0, 0, 0, 0, 0, 0, 0, 0, 0, 0, 0, 0, 0, 0, 0, 0, 0, 0, 0, 0, 0, 0, 0, 0, 0, 0, 0, 0, 0, 0, 0, 0, 0, 0, 0, 0, 0, 0, 0, 0, 0, 0, 0, 0, 0, 0, 0, 0, 0, 0, 0, 0, 0, 0, 0, 0, 0, 0, 0, 0, 0, 0, 0, 0, 0, 0, 0, 0, 0, 0, 0, 0, 0, 0, 0, 0, 0, 0, 0, 0, 0, 0, 0, 0, 0, 0, 0, 0, 0, 0, 0, 0, 0, 0, 0, 0, 0, 0, 0, 0, 0, 0, 0, 0, 0, 0, 0, 0, 0, 0, 0, 0, 0, 0, 0, 0, 0, 0, 0, 0, 0, 0, 0, 0, 0, 0, 0, 0, 0, 0, 0, 0, 0, 0, 0, 0, 0, 0, 0, 0, 0, 0, 0, 0, 0, 0, 0, 0, 0, 0, 0, 0, 0, 0, 0, 0, 0, 0, 0, 0, 0, 0, 0, 0, 0, 0, 0, 0, 0, 0, 0, 0, 0, 0, 0, 0, 0, 0, 0, 0, 0, 0, 0, 0, 0, 0, 0, 0, 0, 0, 0, 0, 0, 0, 0, 0, 0, 0, 0, 0, 0, 0, 0, 0, 0, 0, 0, 0, 0, 0, 0, 0, 0, 0, 0, 0, 0, 0, 0, 0, 0, 0, 0, 0, 0, 0, 0, 0, 0, 0, 0, 0, 0, 0, 0, 0, 0, 0, 0, 0, 0, 0, 0, 0, 0, 0, 0, 0, 0, 0, 0, 0, 0, 0, 0, 0, 0, 0, 0, 0, 0, 0, 0, 0, 0, 0, 0, 0, 0, 0, 0, 0, 0, 0, 0, 0, 0, 0, 0, 0, 0, 0, 0, 0, 0, 0, 0, 0, 0, 0, 0, 0, 0, 0, 0, 0, 0, 0, 0, 0, 0, 0, 0, 0, 0, 0, 0, 0, 0, 0, 0, 0, 0, 0, 0, 0, 0, 0, 0, 0, 0, 0, 0, 0, 0, 0, 0, 0, 0, 0, 0, 0, 0, 0, 0, 0, 0, 0, 0, 0, 0, 0, 0, 0, 0, 0, 0, 0, 0, 0, 0, 0, 0, 0, 0, 0, 0, 0, 0, 0, 0, 0, 0, 0, 0, 0, 0, 0, 0, 0, 0, 0, 0, 0, 0, 0, 0, 0, 0, 0, 0, 0, 0, 0, 0, 0, 0, 0, 0, 0, 0, 0, 0, 0, 0, 0, 0, 0, 0, 0, 0, 0, 0, 0, 0, 0, 0, 0, 0, 0, 0, 0, 0, 0, 0, 0, 0, 0, 0, 0, 0, 0, 0, 0, 0, 0, 0, 0, 0, 0, 0, 0, 0, 0, 0, 0, 0, 0, 0, 0, 0, 0, 0, 0, 0, 0, 0, 0, 0, 0, 0, 0, 0, 0, 0, 0, 0, 0, 0, 0, 0, 0, 0, 0, 0, 0, 0, 0, 0, 0, 0, 0, 0, 0, 0, 0, 0, 0, 0, 0, 0, 0, 0, 0, 1, 0, 0, 0, 0, 0, 0, 0, 0, 0, 0, 0, 0, 0, 0, 0, 0, 0, 0, 0, 0, 0, 0, 0, 0, 0, 0, 0, 1, 0, 0, 0, 0, 0, 0, 0, 0, 0, 0, 0, 0, 0, 0, 0, 0, 0, 0, 0, 0, 0, 0, 0, 1, 0, 0, 0, 0, 0, 0, 0, 0, 0, 0, 0, 0, 0, 0, 0, 0, 0, 0, 0, 0, 0, 0, 0, 0, 0, 0, 0, 0, 0, 0, 0, 0, 0, 0, 0, 0, 0, 0, 0, 0, 0, 0, 0, 0, 0, 0, 0, 0, 0, 0, 0, 0, 0, 0, 0, 0, 0, 0, 0, 0, 0, 0, 0, 0, 0, 0, 0, 0, 0, 0, 0, 0, 0, 0, 0, 0, 0, 0, 0, 0, 0, 0, 0, 0, 0, 0, 0, 0, 0, 0, 0, 0, 0, 0, 0, 0, 0, 0, 0, 0, 0, 0, 0, 0, 0, 0, 0, 0, 0, 0, 0, 0, 0, 0, 0, 0, 0, 0, 0, 0, 0, 0, 0, 0, 0, 0, 0, 0, 0, 0, 0, 0, 0, 0, 0, 0, 0, 0, 0, 0, 0, 0, 0, 0, 0, 0, 0, 0, 0, 0, 0, 0, 0, 0, 0, 0, 0, 0, 0, 0, 0, 0, 0, 0, 0, 0, 0, 0, 0, 0, 0, 0, 0, 0, 0, 0, 0, 0, 0, 0, 0, 0, 0, 0, 0, 0, 0, 0, 0, 0, 0, 0, 0, 0, 0, 0, 0, 0, 0, 0, 0, 0, 0, 0, 0, 0, 0, 0, 0, 0, 0, 0, 0, 0, 0, 0, 0, 0, 0, 0, 0, 0, 0, 0, 0, 0, 0, 0, 0, 0, 0, 0, 0, 0, 0, 0, 0, 0, 0, 0, 0, 0, 0, 0, 0, 0, 0, 0, 0, 0, 0, 0, 0, 0, 0, 1, 1, 1, 1, 0, 0, 0, 0, 0, 0, 0, 1, 1, 1, 0, 0, 1, 0, 1, 1, 0, 1, 0, 0, 0, 0, 1, 1, 1, 1, 1, 1, 1, 0, 1, 0, 0, 0, 0, 0, 0, 1, 0, 0, 0, 1, 0, 1, 0, 0, 1, 1, 1, 1, 0, 1, 0, 1, 0, 0, 0, 1, 1, 1, 0, 1, 0, 0, 0, 0, 0, 0, 1, 0, 0, 1, 1, 1, 1, 1, 0, 1, 0, 0, 0, 1, 0, 0, 0, 1, 0, 0, 1, 1, 0, 1, 0]⟩],
 .v (.s [34, 85, 80, 0, 5, 0, 0, 0, 0, 0, 0, 0, 0, 0, 0, 0, 0, 0, 0, 0, 0, 0, 0, 68, 0, 0, 0, 0, 0, 0, 0, 0, 0, 0, 0, 0, 0, 0, 0, 0, 0, 0, 0, 0, 0, 0, 0, 0, 0, 64, 0, 0, 0, 0, 0, 0, 0, 0, 0, 0, 0, 0, 0, 0, 0, 0, 0, 0, 0, 0, 0, 0, 0, 0, 0, 0, 0, 0, 0, 0, 0, 0, 0, 0, 0, 0, 0, 0, 0, 0, 0, 0, 0, 0, 0, 0, 0, 0, 0, 0, 0, 0, 0, 0, 0, 0, 0, 0, 0, 0, 0, 0, 0, 0, 0, 0, 0, 0, 0, 0, 0, 4, 0, 0, 0, 64, 0, 0, 64, 0, 0, 0, 0, 0, 0, 0, 0, 0, 0, 0, 0, 0, 0, 0, 0, 0, 0, 0, 0, 0, 0, 0, 0, 0, 0, 0, 0, 0, 0, 0, 120, 14, 90, 31, 208, 34, 158, 163, 160, 79, 162, 38, 128]), 3598,
 [⟨767, 122, 1, [.l 3595 1 0 1378]⟩,
  ⟨3595, 5, 11, nv .u8 [0, 0, 1, 0, 0, 0, 1, 0, 0, 1, 0, 1, 0, 1, 0, 1, 0, 1, 0, 1, 0, 0, 0, 0, 0, 0, 0, 0, 0, 0, 0, 0, 0, 0, 0, 0, 0, 1, 0, 1, 0, 0, 0, 0, 0, 0, 0, 0, 0, 0, 0, 0, 0, 0, 0, 0, 0, 0, 0, 0, 0, 0, 0, 0, 0, 0, 0, 0, 0, 0, 0, 0, 0, 0, 0, 0, 0, 0, 0, 0, 0, 0, 0, 0, 0, 0, 0, 0, 0, 0, 0, 0, 0, 0, 0, 0, 0, 0, 0, 0, 0, 0, 0, 0, 0, 0, 0, 0, 0, 0, 0, 0, 0, 0, 0, 0, 0, 0, 0, 0, 0, 0, 0, 0, 0, 0, 0, 0, 0, 0, 0, 0, 0, 0, 0, 0, 0, 0, 0, 0, 0, 0, 0, 0, 0, 0, 0, 0, 0, 0, 0, 0, 0, 0, 0, 0, 0, 0, 0, 0, 0, 0, 0, 0, 0, 0, 0, 0, 0, 0, 0, 0, 0, 0, 0, 0, 0, 0, 0, 0, 0, 0, 0, 0, 0, 1, 0, 0, 0, 1, 0, 0, 0, 0, 0, 0, 0, 0, 0, 0, 0, 0, 0, 0, 0, 0, 0, 0, 0, 0, 0, 0, 0, 0, 0, 0, 0, 0, 0, 0, 0, 0, 0, 0, 0, 0, 0, 0, 0, 0, 0, 0, 0, 0, 0, 0, 0, 0, 0, 0, 0, 0, 0, 0, 0, 0, 0, 0, 0, 0, 0, 0, 0, 0, 0, 0, 0, 0, 0, 0, 0, 0, 0, 0, 0, 0, 0, 0, 0, 0, 0, 0, 0, 0, 0, 0, 0, 0, 0, 0, 0, 0, 0, 0, 0, 0, 0, 0, 0, 0, 0, 0, 0, 0, 0, 0, 0, 0, 0, 0, 0, 0, 0, 0, 0, 0, 0, 0, 0, 0, 0, 0, 0, 0, 0, 0, 0, 0, 0, 0, 0, 0, 0, 0, 0, 0, 0, 0, 0, 0, 0, 0, 0, 0, 0, 0, 0, 0, 0, 0, 0, 0, 0, 0, 0, 0, 0, 0, 0, 0, 0, 0, 0, 0, 0, 0, 0, 0, 0, 0, 0, 0, 0, 0, 0, 0, 0, 0, 0, 0, 0, 0, 0, 0, 0, 0, 0, 0, 0, 0, 0, 0, 0, 0, 0, 0, 0, 0, 0, 0, 0, 0, 0, 1, 0, 0, 0, 0, 0, 0, 0, 0, 0, 0, 0, 0, 0, 0, 0, 0, 0, 0, 0, 0, 0, 0, 0, 0, 0, 0, 0, 0, 0, 0, 0, 0, 0, 0, 0, 0, 0, 0, 0, 0, 0, 0, 0, 0, 0, 0, 0, 0, 0, 0, 0, 0, 0, 0, 0, 0, 0, 0, 0, 0, 0, 0, 0, 0, 0, 0, 0, 0, 0, 0, 0, 0, 0, 0, 0, 0, 0, 0, 0, 0, 0, 0, 0, 0, 0, 0, 0, 0, 0, 0, 0, 0, 0, 0, 0, 0, 0, 0, 0, 0, 0, 0, 0, 0, 0, 0, 0, 0, 0, 0, 0, 0, 0, 0, 0, 0, 0, 0, 0, 0, 0, 0, 0, 0, 0, 0, 0, 0, 0, 0, 0, 0, 0, 0, 0, 0, 0, 0, 0, 0, 0, 0, 0, 0, 0, 0, 0, 0, 0, 0, 0, 0, 0, 0, 0, 0, 0, 0, 0, 0, 0, 0, 0, 0, 0, 0, 0, 0, 0, 0, 0, 0, 0, 0, 0, 0, 0, 0, 0, 0, 0, 0, 0, 0, 0, 0, 0, 0, 0, 0, 0, 0, 0, 0, 0, 0, 0, 0, 0, 0, 0, 0, 0, 0, 0, 0, 0, 0, 0, 0, 0, 0, 0, 0, 0, 0, 0, 0, 0, 0, 0, 0, 0, 0, 0, 0, 0, 0, 0, 0, 0, 0, 0, 0, 0, 0, 0, 0, 0, 0, 0, 0, 0, 0, 0, 0, 0, 0, 0, 0, 0, 0, 0, 0, 0, 0, 0, 0, 0, 0, 0, 0, 0, 0, 0, 0, 0, 0, 0, 0, 0, 0, 0, 0, 0, 0, 0, 0, 0, 0, 0, 0, 0, 0, 0, 0, 0, 0, 0, 0, 0, 0, 0, 0, 0, 0, 0, 0, 0, 0, 0, 0, 0, 0, 0, 0, 0, 0, 0, 0, 0, 0, 0, 0, 0, 0, 0, 0, 0, 0, 0, 0, 0, 0, 0, 0, 0, 0, 0, 0, 0, 0, 0, 0, 0, 0, 0, 0, 0, 0, 0, 0, 0, 0, 0, 0, 0, 0, 0, 0, 0, 0, 0, 0, 0, 0, 0, 0, 0, 0, 0, 0, 0, 0, 0, 0, 0, 0, 0, 0, 0, 0, 0, 0, 0, 0, 0, 0, 0, 0, 0, 0, 0, 0, 0, 0, 0, 0, 0, 0, 0, 0, 0, 0, 0, 0, 0, 0, 0, 0, 0, 0, 0, 0, 0, 0, 0, 0, 0, 0, 0, 0, 0, 0, 0, 0, 0, 0, 0, 0, 0, 0, 0, 0, 0, 0, 0, 0, 0, 0, 0, 0, 0, 0, 0, 0, 0, 0, 0, 0, 0, 0, 0, 0, 0, 0, 0, 0, 0, 0, 0, 0, 0, 0, 0, 0, 0, 0, 0, 0, 0, 0, 0, 0, 0, 0, 0, 0, 0, 0, 0, 0, 0, 0, 0, 0, 0, 0, 0, 0, 0, 0, 0, 0, 0, 0, 0, 0, 0, 0, 0, 0, 0, 0, 0, 0, 0, 0, 0, 0, 0, 0, 0, 0, 0, 0, 0, 0, 0, 0, 0, 0, 0, 0, 0, 0, 0, 0, 0, 0, 0, 0, 0, 0, 0, 0, 0, 0, 0, 0, 0, 0, 0, 0, 0, 0, 0, 0, 0, 0, 0, 0, 0, 0, 0, 0, 0, 0, 0, 0, 0, 0, 0, 0, 0, 0, 0, 0, 0, 0, 0, 0, 0, 0, 0, 0, 0, 0, 0, 0, 0, 0, 0, 0, 0, 0, 0, 0, 0, 1, 0, 0, 0, 0, 0, 0, 0, 0, 0, 0, 0, 0, 0, 0, 0, 0, 0, 0, 0, 0, 0, 0, 0, 0, 0, 0, 0, 1, 0, 0, 0, 0, 0, 0, 0, 0, 0, 0, 0, 0, 0, 0, 0, 0, 0, 0, 0, 0, 0, 0, 0, 1, 0, 0, 0, 0, 0, 0, 0, 0, 0, 0, 0, 0, 0, 0, 0, 0, 0, 0, 0, 0, 0, 0, 0, 0, 0, 0, 0, 0, 0, 0, 0, 0, 0, 0, 0, 0, 0, 0, 0, 0, 0, 0, 0, 0, 0, 0, 0, 0, 0, 0, 0, 0, 0, 0, 0, 0, 0, 0, 0, 0, 0, 0, 0, 0, 0, 0, 0, 0, 0, 0, 0, 0, 0, 0, 0, 0, 0, 0, 0, 0, 0, 0, 0, 0, 0, 0, 0, 0, 0, 0, 0, 0, 0, 0, 0, 0, 0, 0, 0, 0, 0, 0, 0, 0, 0, 0, 0, 0, 0, 0, 0, 0, 0, 0, 0, 0, 0, 0, 0, 0, 0, 0, 0, 0, 0, 0, 0, 0, 0, 0, 0, 0, 0, 0, 0, 0, 0, 0, 0, 0, 0, 0, 0, 0, 0, 0, 0, 0, 0, 0, 0, 0, 0, 0, 0, 0, 0, 0, 0, 0, 0, 0, 0, 0, 0, 0, 0, 0, 0, 0, 0, 0, 0, 0, 0, 0, 0, 0, 0, 0, 0, 0, 0, 0, 0, 0, 0, 0, 0, 0, 0, 0, 0, 0, 0, 0, 0, 0, 0, 0, 0, 0, 0, 0, 0, 0, 0, 0, 0, 0, 0, 0, 0, 0, 0, 0, 0, 0, 0, 0, 0, 0, 0, 0, 0, 0, 0, 0, 0, 0, 0, 0, 0, 0, 0, 0, 0, 0, 0, 0, 0, 0, 0, 0, 0, 0, 0, 0, 0, 0, 0, 0, 0, 0, 0, 1, 1, 1, 1, 0, 0, 0, 0, 0, 0, 0, 1, 1, 1, 0, 0, 1, 0, 1, 1, 0, 1, 0, 0, 0, 0, 1, 1, 1, 1, 1, 1, 1, 0, 1, 0, 0, 0, 0, 0, 0, 1, 0, 0, 0, 1, 0, 1, 0, 0, 1, 1, 1, 1, 0, 1, 0, 1, 0, 0, 0, 1, 1, 1, 0, 1, 0, 0, 0, 0, 0, 0, 1, 0, 0, 1, 1, 1, 1, 1, 0, 1, 0, 0, 0, 1, 0, 0, 0, 1, 0, 0, 1, 1, 0, 1, 0]⟩]⟩
noncomputable def me4 : Me := ⟨483, [.v (.s [1, 2, 0, 0, 1, 250, 243, 1, 0, 0, 9, 0, 0, 1, 98, 1, 3, 1, 0, 1, 9, 0, 0, 4, 46, 46, 47, 98])],
 [],
 .t [.v (.s [0, 1, 2, 0, 0, 1, 250, 243, 1, 0, 0, 9, 0, 0, 1, 98, 1, 3, 1, 0, 1, 9, 0, 0, 4, 46, 46, 47, 98]), .v (.n .i64 0)], 3600,
 []⟩
noncomputable def me5 : Me := ⟨3601, [.g (nv .u32 [3409274020, 509314670, 1703445984, 1957995565, 2005550929, 3704805053, 4245305362, 1033746069]), .g ([.n .i64 2, .n .i64 0, .b false, .l 3600 1 0 29])],
 [⟨3600, 5, 5, nv .u8 [0, 1, 2, 0, 0, 1, 250, 243, 1, 0, 0, 9, 0, 0, 1, 98, 1, 3, 1, 0, 1, 9, 0, 0, 4, 46, 46, 47, 98]⟩],
 .t [.v (.s [2, 0, 29, 101, 220, 44, 217, 9, 72, 39, 194, 57, 23, 55, 234, 107, 175, 55, 111, 103, 134, 110, 77, 118, 72, 227, 171, 115, 138, 229, 238, 47, 2, 199, 92, 211, 87, 31, 177, 193]), .v (.n .i64 0)], 3794,
 [⟨3600, 5, 5, nv .u8 [0, 1, 2, 0, 0, 1, 250, 243, 1, 0, 0, 9, 0, 0, 1, 98, 1, 3, 1, 0, 1, 9, 0, 0, 4, 46, 46, 47, 98]⟩]⟩
noncomputable def me6 : Me := ⟨3798, [.g (nv .u32 [3409274020, 509314670, 1703445984, 1957995565, 2005550929, 3704805053, 4245305362, 1033746069]), .g ([.n .i64 3, .n .i64 1, .b true, .l 3797 1 0 3])],
 [⟨3797, 5, 2, nv .u8 [0, 1, 0]⟩],
 .t [.v (.s [3, 1, 3, 152, 106, 195, 77, 170, 180, 120, 144, 13, 114, 66]), .v (.n .i64 0)], 3991,
 [⟨3797, 5, 2, nv .u8 [0, 1, 0]⟩]⟩
noncomputable def me7 : Me := ⟨66, [.g ([.l 45 2 0 2, .l 43 12 0 2]), .v (.s [112]), .v (.s [115, 97, 108, 116, 115, 97, 108, 116]), .v (.n .i64 2)],
 [⟨43, 47, 5, [.n .i64 1, .n .i64 493, .n .i64 0, .n .i64 0, .n .i64 9, .l0, .l0, .n .i64 0, .l0, .s [], .n .i64 0, .n .i64 0, .n .i64 3, .n .i64 1, .n .i64 0, .n .i64 1, .n .i64 9, .l0, .l0, .n .i64 0, .l0, .s [46, 46, 47, 98], .n .i64 0, .n .i64 0]⟩,
  ⟨45, 40, 2, [.s [], .n .i64 0, .s [98], .n .i64 1]⟩],
 .t [.v (.s [83, 84, 69, 49, 115, 97, 108, 116, 115, 97, 108, 116, 2, 234, 247, 35, 42, 183, 52, 23, 166, 2, 0, 29, 101, 220, 44, 217, 9, 72, 39, 194, 57, 23, 55, 234, 107, 175, 55, 111, 103, 134, 110, 77, 118, 72, 227, 171, 115, 138, 229, 238, 47, 2, 199, 92, 211, 87, 31, 177, 193, 3, 1, 3, 152, 106, 195, 77, 170, 180, 120, 144, 13, 114, 66]), .v (.n .i64 0)], 3991,
 [⟨43, 47, 5, [.n .i64 1, .n .i64 493, .n .i64 0, .n .i64 0, .n .i64 9, .l0, .l0, .n .i64 0, .l0, .s [], .n .i64 0, .n .i64 0, .n .i64 3, .n .i64 1, .n .i64 0, .n .i64 1, .n .i64 9, .l0, .l0, .n .i64 0, .l0, .s [46, 46, 47, 98], .n .i64 0, .n .i64 0]⟩,
  ⟨45, 40, 2, [.s [], .n .i64 0, .s [98], .n .i64 1]⟩]⟩
noncomputable def me8 : Me := ⟨3995, [.v (.s [112]), .g (nv .u8 [115, 97, 108, 116, 115, 97, 108, 116]), .v (.n .i64 2)],
 [],
 .t [.g (nv .u32 [3409274020, 509314670, 1703445984, 1957995565, 2005550929, 3704805053, 4245305362, 1033746069]), .v (.n .i64 0)], 4074,
 []⟩
noncomputable def me9 : Me := ⟨4117, [.g (nv .u32 [3409274020, 509314670, 1703445984, 1957995565, 2005550929, 3704805053, 4245305362, 1033746069]), .v (.l 3991 1 0 75), .v (.n .i64 21), .v (.n .i64 0)],
 [⟨3991, 5, 7, nv .u8 [83, 84, 69, 49, 115, 97, 108, 116, 115, 97, 108, 116, 2, 234, 247, 35, 42, 183, 52, 23, 166, 2, 0, 29, 101, 220, 44, 217, 9, 72, 39, 194, 57, 23, 55, 234, 107, 175, 55, 111, 103, 134, 110, 77, 118, 72, 227, 171, 115, 138, 229, 238, 47, 2, 199, 92, 211, 87, 31, 177, 193, 3, 1, 3, 152, 106, 195, 77, 170, 180, 120, 144, 13, 114, 66]⟩],
 .t [.g ([.n .i64 2, .n .i64 0, .b false, .lx 4162 1 0 29 29]), .v (.n .i64 61), .v (.n .i64 0)], 4206,
 [⟨3991, 5, 7, nv .u8 [83, 84, 69, 49, 115, 97, 108, 116, 115, 97, 108, 116, 2, 234, 247, 35, 42, 183, 52, 23, 166, 2, 0, 29, 101, 220, 44, 217, 9, 72, 39, 194, 57, 23, 55, 234, 107, 175, 55, 111, 103, 134, 110, 77, 118, 72, 227, 171, 115, 138, 229, 238, 47, 2, 199, 92, 211, 87, 31, 177, 193, 3, 1, 3, 152, 106, 195, 77, 170, 180, 120, 144, 13, 114, 66]⟩,
  ⟨4162, 5, 6, nv .u8 [0, 1, 2, 0, 0, 1, 250, 243, 1, 0, 0, 9, 0, 0, 1, 98, 1, 3, 1, 0, 1, 9, 0, 0, 4, 46, 46, 47, 98, 180, 13, 42, 0, 0, 0, 0, 0, 0, 0, 0, 0, 0, 0, 0, 0, 0, 0, 0, 0, 0, 0, 0, 0, 0, 0, 0, 0, 0, 0, 0, 0]⟩]⟩
noncomputable def me10 : Me := ⟨4209, [.g (nv .u32 [3409274020, 509314670, 1703445984, 1957995565, 2005550929, 3704805053, 4245305362, 1033746069]), .v (.l 3991 1 0 75), .v (.n .i64 61), .v (.n .i64 1)],
 [⟨3991, 5, 7, nv .u8 [83, 84, 69, 49, 115, 97, 108, 116, 115, 97, 108, 116, 2, 234, 247, 35, 42, 183, 52, 23, 166, 2, 0, 29, 101, 220, 44, 217, 9, 72, 39, 194, 57, 23, 55, 234, 107, 175, 55, 111, 103, 134, 110, 77, 118, 72, 227, 171, 115, 138, 229, 238, 47, 2, 199, 92, 211, 87, 31, 177, 193, 3, 1, 3, 152, 106, 195, 77, 170, 180, 120, 144, 13, 114, 66]⟩],
 .t [.g ([.n .i64 3, .n .i64 1, .b true, .lx 4254 1 0 3 3]), .v (.n .i64 75), .v (.n .i64 0)], 4298,
 [⟨3991, 5, 7, nv .u8 [83, 84, 69, 49, 115, 97, 108, 116, 115, 97, 108, 116, 2, 234, 247, 35, 42, 183, 52, 23, 166, 2, 0, 29, 101, 220, 44, 217, 9, 72, 39, 194, 57, 23, 55, 234, 107, 175, 55, 111, 103, 134, 110, 77, 118, 72, 227, 171, 115, 138, 229, 238, 47, 2, 199, 92, 211, 87, 31, 177, 193, 3, 1, 3, 152, 106, 195, 77, 170, 180, 120, 144, 13, 114, 66]⟩,
  ⟨4254, 5, 6, nv .u8 [0, 1, 0, 150, 12, 85, 218, 146, 224, 176, 147, 214, 54, 147, 135, 60, 173, 205, 95, 183, 25, 242, 172, 232, 142, 157, 209, 106, 9, 153, 49, 47, 0, 0, 0]⟩]⟩
noncomputable def me11 : Me := ⟨4304, [.v (.l 4303 1 0 28)],
 [⟨4303, 5, 5, nv .u8 [1, 2, 0, 0, 1, 250, 243, 1, 0, 0, 9, 0, 0, 1, 98, 1, 3, 1, 0, 1, 9, 0, 0, 4, 46, 46, 47, 98]⟩],
 .v (.l 4351 3 0 24), 4352,
 [⟨4303, 5, 5, nv .u8 [1, 2, 0, 0, 1, 250, 243, 1, 0, 0, 9, 0, 0, 1, 98, 1, 3, 1, 0, 1, 9, 0, 0, 4, 46, 46, 47, 98]⟩,
  ⟨4351, 283, 7, [.n .i64 1, .n .i64 0, .n .i64 0, .n .i64 2, .n .i64 0, .n .i64 0, .n .i64 0, .n .i64 0, .n .i64 0, .n .i64 0, .n .i64 0, .n .i64 0, .n .i64 1, .n .i64 0, .n .i64 0, .n .i64 250, .n .i64 0, .n .i64 0, .n .i64 243, .n .i64 0, .n .i64 0, .n .i64 1, .n .i64 0, .n .i64 0, .n .i64 0, .n .i64 0, .n .i64 0, .n .i64 0, .n .i64 0, .n .i64 0, .n .i64 9, .n .i64 0, .n .i64 0, .m .i64 0, .n .i64 9, .n .i64 3, .n .i64 98, .n .i64 0, .n .i64 0, .n .i64 1, .n .i64 0, .n .i64 0, .n .i64 3, .n .i64 0, .n .i64 0, .n .i64 1, .n .i64 0, .n .i64 0, .n .i64 0, .n .i64 0, .n .i64 0, .n .i64 1, .n .i64 0, .n .i64 0, .m .i64 0, .n .i64 10, .n .i64 3, .n .i64 4, .n .i64 0, .n .i64 0, .n .i64 46, .n .i64 0, .n .i64 0, .n .i64 46, .n .i64 0, .n .i64 0, .n .i64 47, .n .i64 0, .n .i64 0, .n .i64 98, .n .i64 0, .n .i64 0]⟩]⟩
noncomputable def me12 : Me := ⟨4425, [.v (.lx 4352 1 0 320 320)],
 [⟨4352, 3, 9, nv .i64 [5, 6, 1, 1, 1, 0, 0, 0, 0, 1, 0, 0, 0, 0, 0, 0, 0, 0, 0, 0, 0, 0, 0, 0, 0, 0, 0, 0, 0, 0, 0, 0, 0, 0, 0, 0, 0, 0, 0, 0, 0, 0, 0, 0, 0, 0, 2, 1, 0, 0, 0, 0, 0, 0, 0, 0, 0, 0, 0, 0, 0, 0, 0, 0, 0, 0, 0, 0, 0, 0, 0, 0, 0, 0, 0, 0, 0, 0, 0, 0, 0, 0, 0, 0, 0, 0, 0, 0, 0, 0, 0, 0, 0, 0, 0, 0, 0, 0, 2, 0, 0, 0, 0, 0, 0, 0, 0, 0, 0, 0, 0, 0, 0, 0, 0, 0, 0, 0, 0, 0, 0, 0, 0, 0, 0, 0, 0, 0, 0, 0, 0, 0, 0, 0, 0, 0, 0, 0, 0, 0, 0, 0, 0, 0, 0, 0, 0, 0, 0, 0, 0, 0, 0, 0, 0, 0, 0, 0, 0, 0, 0, 0, 0, 0, 0, 0, 0, 0, 0, 0, 0, 0, 0, 0, 0, 0, 0, 0, 0, 0, 0, 0, 0, 0, 0, 0, 0, 0, 0, 0, 0, 0, 0, 0, 0, 0, 0, 0, 0, 0, 0, 0, 0, 0, 0, 0, 0, 0, 0, 0, 0, 0, 0, 0, 0, 0, 0, 0, 0, 0, 0, 0, 0, 0, 0, 0, 0, 0, 0, 0, 0, 0, 0, 0, 0, 0, 0, 0, 0, 0, 0, 0, 0, 1, 0, 0, 0, 0, 0, 0, 1, 0, 0, 0, 0, 0, 2, 0, 0, 0, 0, 0, 0, 0, 0, 0, 0, 0, 0, 0, 0, 0, 0, 0, 0, 0, 0, 0, 0, 0, 0, 0, 0, 0, 0, 0, 0, 0, 0, 0, 0, 0, 0, 0, 0, 0, 0, 0, 0, 0, 0, 0, 0, 0, 0, 0, 0, 0, 0, 0, 0, 0, 0, 0, 0, 0, 0, 0, 0, 0]⟩],
 .t [.v (.lx 4428 1 0 320 320), .v (.n .i64 0)], 4502,
 [⟨4352, 3, 9, nv .i64 [5, 6, 1, 1, 1, 0, 0, 0, 0, 1, 0, 0, 0, 0, 0, 0, 0, 0, 0, 0, 0, 0, 0, 0, 0, 0, 0, 0, 0, 0, 0, 0, 0, 0, 0, 0, 0, 0, 0, 0, 0, 0, 0, 0, 0, 0, 2, 1, 0, 0, 0, 0, 0, 0, 0, 0, 0, 0, 0, 0, 0, 0, 0, 0, 0, 0, 0, 0, 0, 0, 0, 0, 0, 0, 0, 0, 0, 0, 0, 0, 0, 0, 0, 0, 0, 0, 0, 0, 0, 0, 0, 0, 0, 0, 0, 0, 0, 0, 2, 0, 0, 0, 0, 0, 0, 0, 0, 0, 0, 0, 0, 0, 0, 0, 0, 0, 0, 0, 0, 0, 0, 0, 0, 0, 0, 0, 0, 0, 0, 0, 0, 0, 0, 0, 0, 0, 0, 0, 0, 0, 0, 0, 0, 0, 0, 0, 0, 0, 0, 0, 0, 0, 0, 0, 0, 0, 0, 0, 0, 0, 0, 0, 0, 0, 0, 0, 0, 0, 0, 0, 0, 0, 0, 0, 0, 0, 0, 0, 0, 0, 0, 0, 0, 0, 0, 0, 0, 0, 0, 0, 0, 0, 0, 0, 0, 0, 0, 0, 0, 0, 0, 0, 0, 0, 0, 0, 0, 0, 0, 0, 0, 0, 0, 0, 0, 0, 0, 0, 0, 0, 0, 0, 0, 0, 0, 0, 0, 0, 0, 0, 0, 0, 0, 0, 0, 0, 0, 0, 0, 0, 0, 0, 0, 1, 0, 0, 0, 0, 0, 0, 1, 0, 0, 0, 0, 0, 2, 0, 0, 0, 0, 0, 0, 0, 0, 0, 0, 0, 0, 0, 0, 0, 0, 0, 0, 0, 0, 0, 0, 0, 0, 0, 0, 0, 0, 0, 0, 0, 0, 0, 0, 0, 0, 0, 0, 0, 0, 0, 0, 0, 0, 0, 0, 0, 0, 0, 0, 0, 0, 0, 0, 0, 0, 0, 0, 0, 0, 0, 0, 0]⟩,
  ⟨4428, 3, 9, nv .i64 [2, 2, 5, 5, 5, 0, 0, 0, 0, 5, 0, 0, 0, 0, 0, 0, 0, 0, 0, 0, 0, 0, 0, 0, 0, 0, 0, 0, 0, 0, 0, 0, 0, 0, 0, 0, 0, 0, 0, 0, 0, 0, 0, 0, 0, 0, 4, 4, 0, 0, 0, 0, 0, 0, 0, 0, 0, 0, 0, 0, 0, 0, 0, 0, 0, 0, 0, 0, 0, 0, 0, 0, 0, 0, 0, 0, 0, 0, 0, 0, 0, 0, 0, 0, 0, 0, 0, 0, 0, 0, 0, 0, 0, 0, 0, 0, 0, 0, 4, 0, 0, 0, 0, 0, 0, 0, 0, 0, 0, 0, 0, 0, 0, 0, 0, 0, 0, 0, 0, 0, 0, 0, 0, 0, 0, 0, 0, 0, 0, 0, 0, 0, 0, 0, 0, 0, 0, 0, 0, 0, 0, 0, 0, 0, 0, 0, 0, 0, 0, 0, 0, 0, 0, 0, 0, 0, 0, 0, 0, 0, 0, 0, 0, 0, 0, 0, 0, 0, 0, 0, 0, 0, 0, 0, 0, 0, 0, 0, 0, 0, 0, 0, 0, 0, 0, 0, 0, 0, 0, 0, 0, 0, 0, 0, 0, 0, 0, 0, 0, 0, 0, 0, 0, 0, 0, 0, 0, 0, 0, 0, 0, 0, 0, 0, 0, 0, 0, 0, 0, 0, 0, 0, 0, 0, 0, 0, 0, 0, 0, 0, 0, 0, 0, 0, 0, 0, 0, 0, 0, 0, 0, 0, 0, 4, 0, 0, 0, 0, 0, 0, 4, 0, 0, 0, 0, 0, 4, 0, 0, 0, 0, 0, 0, 0, 0, 0, 0, 0, 0, 0, 0, 0, 0, 0, 0, 0, 0, 0, 0, 0, 0, 0, 0, 0, 0, 0, 0, 0, 0, 0, 0, 0, 0, 0, 0, 0, 0, 0, 0, 0, 0, 0, 0, 0, 0, 0, 0, 0, 0, 0, 0, 0, 0, 0, 0, 0, 0, 0, 0, 0]⟩]⟩
noncomputable def me13 : Me := ⟨4304, [.v (.l 4303 1 0 28)],
 [⟨4303, 5, 5, nv .u8 [1, 2, 0, 0, 1, 250, 243, 1, 0, 0, 9, 0, 0, 1, 98, 1, 3, 1, 0, 1, 9, 0, 0, 4, 46, 46, 47, 98]⟩],
 .v (.l 4601 1 0 175), 4602,
 [⟨4303, 5, 5, nv .u8 [1, 2, 0, 0, 1, 250, 243, 1, 0, 0, 9, 0, 0, 1, 98, 1, 3, 1, 0, 1, 9, 0, 0, 4, 46, 46, 47, 98]⟩,
  ⟨4601, 5, 8, nv .u8 [1, 28, 34, 85, 80, 0, 5, 0, 0, 0, 0, 0, 0, 0, 0, 0, 0, 0, 0, 0, 0, 0, 0, 0, 0, 68, 0, 0, 0, 0, 0, 0, 0, 0, 0, 0, 0, 0, 0, 0, 0, 0, 0, 0, 0, 0, 0, 0, 0, 0, 0, 64, 0, 0, 0, 0, 0, 0, 0, 0, 0, 0, 0, 0, 0, 0, 0, 0, 0, 0, 0, 0, 0, 0, 0, 0, 0, 0, 0, 0, 0, 0, 0, 0, 0, 0, 0, 0, 0, 0, 0, 0, 0, 0, 0, 0, 0, 0, 0, 0, 0, 0, 0, 0, 0, 0, 0, 0, 0, 0, 0, 0, 0, 0, 0, 0, 0, 0, 0, 0, 0, 0, 0, 4, 0, 0, 0, 64, 0, 0, 64, 0, 0, 0, 0, 0, 0, 0, 0, 0, 0, 0, 0, 0, 0, 0, 0, 0, 0, 0, 0, 0, 0, 0, 0, 0, 0, 0, 0, 0, 0, 0, 120, 14, 90, 31, 208, 34, 158, 163, 160, 79, 162, 38, 128]⟩]⟩
noncomputable def me14 : Me := ⟨4304, [.v (.l 4303 1 0 28)],
 [⟨4303, 5, 5, nv .u8 [1, 2, 0, 0, 1, 250, 243, 1, 0, 0, 9, 0, 0, 1, 98, 1, 3, 1, 0, 1, 9, 0, 0, 4, 46, 46, 47, 98]⟩],
 .t [.v (.l 4603 1 0 29), .v (.n .i64 0)], 4604,
 [⟨4303, 5, 5, nv .u8 [1, 2, 0, 0, 1, 250, 243, 1, 0, 0, 9, 0, 0, 1, 98, 1, 3, 1, 0, 1, 9, 0, 0, 4, 46, 46, 47, 98]⟩,
  ⟨4603, 5, 5, nv .u8 [0, 1, 2, 0, 0, 1, 250, 243, 1, 0, 0, 9, 0, 0, 1, 98, 1, 3, 1, 0, 1, 9, 0, 0, 4, 46, 46, 47, 98]⟩]⟩
noncomputable def me15 : Me := ⟨4303, [.v (.lx 4162 1 0 29 29), .v (.n .i64 12000)],
 [⟨4162, 5, 6, nv .u8 [0, 1, 2, 0, 0, 1, 250, 243, 1, 0, 0, 9, 0, 0, 1, 98, 1, 3, 1, 0, 1, 9, 0, 0, 4, 46, 46, 47, 98, 180, 13, 42, 0, 0, 0, 0, 0, 0, 0, 0, 0, 0, 0, 0, 0, 0, 0, 0, 0, 0, 0, 0, 0, 0, 0, 0, 0, 0, 0, 0, 0]⟩],
 .t [.v (.l 4303 1 0 28), .v (.n .i64 0)], 4604,
 [⟨4162, 5, 6, nv .u8 [0, 1, 2, 0, 0, 1, 250, 243, 1, 0, 0, 9, 0, 0, 1, 98, 1, 3, 1, 0, 1, 9, 0, 0, 4, 46, 46, 47, 98, 180, 13, 42, 0, 0, 0, 0, 0, 0, 0, 0, 0, 0, 0, 0, 0, 0, 0, 0, 0, 0, 0, 0, 0, 0, 0, 0, 0, 0, 0, 0, 0]⟩,
  ⟨4303, 5, 5, nv .u8 [1, 2, 0, 0, 1, 250, 243, 1, 0, 0, 9, 0, 0, 1, 98, 1, 3, 1, 0, 1, 9, 0, 0, 4, 46, 46, 47, 98]⟩]⟩
noncomputable def me16 : Me := ⟨4970, [.v (.s [112]), .g (nv .u8 [115, 97, 108, 116, 115, 97, 108, 116]), .v (.n .i64 2)],
 [],
 .t [.g (nv .u32 [3409274020, 509314670, 1703445984, 1957995565, 2005550929, 3704805053, 4245305362, 1033746069]), .v (.n .i64 0)], 5049,
 []⟩
noncomputable def me17 : Me := ⟨5218, [.v (.l 5217 1 0 28)],
 [⟨5217, 5, 5, nv .u8 [1, 2, 0, 0, 1, 250, 243, 1, 0, 0, 9, 0, 0, 1, 98, 1, 3, 1, 0, 1, 9, 0, 0, 4, 46, 46, 47, 98]⟩],
 .v (.l 5265 3 0 24), 5266,
 [⟨5217, 5, 5, nv .u8 [1, 2, 0, 0, 1, 250, 243, 1, 0, 0, 9, 0, 0, 1, 98, 1, 3, 1, 0, 1, 9, 0, 0, 4, 46, 46, 47, 98]⟩,
  ⟨5265, 283, 7, [.n .i64 1, .n .i64 0, .n .i64 0, .n .i64 2, .n .i64 0, .n .i64 0, .n .i64 0, .n .i64 0, .n .i64 0, .n .i64 0, .n .i64 0, .n .i64 0, .n .i64 1, .n .i64 0, .n .i64 0, .n .i64 250, .n .i64 0, .n .i64 0, .n .i64 243, .n .i64 0, .n .i64 0, .n .i64 1, .n .i64 0, .n .i64 0, .n .i64 0, .n .i64 0, .n .i64 0, .n .i64 0, .n .i64 0, .n .i64 0, .n .i64 9, .n .i64 0, .n .i64 0, .m .i64 0, .n .i64 9, .n .i64 3, .n .i64 98, .n .i64 0, .n .i64 0, .n .i64 1, .n .i64 0, .n .i64 0, .n .i64 3, .n .i64 0, .n .i64 0, .n .i64 1, .n .i64 0, .n .i64 0, .n .i64 0, .n .i64 0, .n .i64 0, .n .i64 1, .n .i64 0, .n .i64 0, .m .i64 0, .n .i64 10, .n .i64 3, .n .i64 4, .n .i64 0, .n .i64 0, .n .i64 46, .n .i64 0, .n .i64 0, .n .i64 46, .n .i64 0, .n .i64 0, .n .i64 47, .n .i64 0, .n .i64 0, .n .i64 98, .n .i64 0, .n .i64 0]⟩]⟩
noncomputable def me18 : Me := ⟨5339, [.v (.lx 5266 1 0 320 320)],
 [⟨5266, 3, 9, nv .i64 [5, 6, 1, 1, 1, 0, 0, 0, 0, 1, 0, 0, 0, 0, 0, 0, 0, 0, 0, 0, 0, 0, 0, 0, 0, 0, 0, 0, 0, 0, 0, 0, 0, 0, 0, 0, 0, 0, 0, 0, 0, 0, 0, 0, 0, 0, 2, 1, 0, 0, 0, 0, 0, 0, 0, 0, 0, 0, 0, 0, 0, 0, 0, 0, 0, 0, 0, 0, 0, 0, 0, 0, 0, 0, 0, 0, 0, 0, 0, 0, 0, 0, 0, 0, 0, 0, 0, 0, 0, 0, 0, 0, 0, 0, 0, 0, 0, 0, 2, 0, 0, 0, 0, 0, 0, 0, 0, 0, 0, 0, 0, 0, 0, 0, 0, 0, 0, 0, 0, 0, 0, 0, 0, 0, 0, 0, 0, 0, 0, 0, 0, 0, 0, 0, 0, 0, 0, 0, 0, 0, 0, 0, 0, 0, 0, 0, 0, 0, 0, 0, 0, 0, 0, 0, 0, 0, 0, 0, 0, 0, 0, 0, 0, 0, 0, 0, 0, 0, 0, 0, 0, 0, 0, 0, 0, 0, 0, 0, 0, 0, 0, 0, 0, 0, 0, 0, 0, 0, 0, 0, 0, 0, 0, 0, 0, 0, 0, 0, 0, 0, 0, 0, 0, 0, 0, 0, 0, 0, 0, 0, 0, 0, 0, 0, 0, 0, 0, 0, 0, 0, 0, 0, 0, 0, 0, 0, 0, 0, 0, 0, 0, 0, 0, 0, 0, 0, 0, 0, 0, 0, 0, 0, 0, 1, 0, 0, 0, 0, 0, 0, 1, 0, 0, 0, 0, 0, 2, 0, 0, 0, 0, 0, 0, 0, 0, 0, 0, 0, 0, 0, 0, 0, 0, 0, 0, 0, 0, 0, 0, 0, 0, 0, 0, 0, 0, 0, 0, 0, 0, 0, 0, 0, 0, 0, 0, 0, 0, 0, 0, 0, 0, 0, 0, 0, 0, 0, 0, 0, 0, 0, 0, 0, 0, 0, 0, 0, 0, 0, 0, 0]⟩],
 .t [.v (.lx 5342 1 0 320 320), .v (.n .i64 0)], 5416,
 [⟨5266, 3, 9, nv .i64 [5, 6, 1, 1, 1, 0, 0, 0, 0, 1, 0, 0, 0, 0, 0, 0, 0, 0, 0, 0, 0, 0, 0, 0, 0, 0, 0, 0, 0, 0, 0, 0, 0, 0, 0, 0, 0, 0, 0, 0, 0, 0, 0, 0, 0, 0, 2, 1, 0, 0, 0, 0, 0, 0, 0, 0, 0, 0, 0, 0, 0, 0, 0, 0, 0, 0, 0, 0, 0, 0, 0, 0, 0, 0, 0, 0, 0, 0, 0, 0, 0, 0, 0, 0, 0, 0, 0, 0, 0, 0, 0, 0, 0, 0, 0, 0, 0, 0, 2, 0, 0, 0, 0, 0, 0, 0, 0, 0, 0, 0, 0, 0, 0, 0, 0, 0, 0, 0, 0, 0, 0, 0, 0, 0, 0, 0, 0, 0, 0, 0, 0, 0, 0, 0, 0, 0, 0, 0, 0, 0, 0, 0, 0, 0, 0, 0, 0, 0, 0, 0, 0, 0, 0, 0, 0, 0, 0, 0, 0, 0, 0, 0, 0, 0, 0, 0, 0, 0, 0, 0, 0, 0, 0, 0, 0, 0, 0, 0, 0, 0, 0, 0, 0, 0, 0, 0, 0, 0, 0, 0, 0, 0, 0, 0, 0, 0, 0, 0, 0, 0, 0, 0, 0, 0, 0, 0, 0, 0, 0, 0, 0, 0, 0, 0, 0, 0, 0, 0, 0, 0, 0, 0, 0, 0, 0, 0, 0, 0, 0, 0, 0, 0, 0, 0, 0, 0, 0, 0, 0, 0, 0, 0, 0, 1, 0, 0, 0, 0, 0, 0, 1, 0, 0, 0, 0, 0, 2, 0, 0, 0, 0, 0, 0, 0, 0, 0, 0, 0, 0, 0, 0, 0, 0, 0, 0, 0, 0, 0, 0, 0, 0, 0, 0, 0, 0, 0, 0, 0, 0, 0, 0, 0, 0, 0, 0, 0, 0, 0, 0, 0, 0, 0, 0, 0, 0, 0, 0, 0, 0, 0, 0, 0, 0, 0, 0, 0, 0, 0, 0, 0]⟩,
  ⟨5342, 3, 9, nv .i64 [2, 2, 5, 5, 5, 0, 0, 0, 0, 5, 0, 0, 0, 0, 0, 0, 0, 0, 0, 0, 0, 0, 0, 0, 0, 0, 0, 0, 0, 0, 0, 0, 0, 0, 0, 0, 0, 0, 0, 0, 0, 0, 0, 0, 0, 0, 4, 4, 0, 0, 0, 0, 0, 0, 0, 0, 0, 0, 0, 0, 0, 0, 0, 0, 0, 0, 0, 0, 0, 0, 0, 0, 0, 0, 0, 0, 0, 0, 0, 0, 0, 0, 0, 0, 0, 0, 0, 0, 0, 0, 0, 0, 0, 0, 0, 0, 0, 0, 4, 0, 0, 0, 0, 0, 0, 0, 0, 0, 0, 0, 0, 0, 0, 0, 0, 0, 0, 0, 0, 0, 0, 0, 0, 0, 0, 0, 0, 0, 0, 0, 0, 0, 0, 0, 0, 0, 0, 0, 0, 0, 0, 0, 0, 0, 0, 0, 0, 0, 0, 0, 0, 0, 0, 0, 0, 0, 0, 0, 0, 0, 0, 0, 0, 0, 0, 0, 0, 0, 0, 0, 0, 0, 0, 0, 0, 0, 0, 0, 0, 0, 0, 0, 0, 0, 0, 0, 0, 0, 0, 0, 0, 0, 0, 0, 0, 0, 0, 0, 0, 0, 0, 0, 0, 0, 0, 0, 0, 0, 0, 0, 0, 0, 0, 0, 0, 0, 0, 0, 0, 0, 0, 0, 0, 0, 0, 0, 0, 0, 0, 0, 0, 0, 0, 0, 0, 0, 0, 0, 0, 0, 0, 0, 0, 4, 0, 0, 0, 0, 0, 0, 4, 0, 0, 0, 0, 0, 4, 0, 0, 0, 0, 0, 0, 0, 0, 0, 0, 0, 0, 0, 0, 0, 0, 0, 0, 0, 0, 0, 0, 0, 0, 0, 0, 0, 0, 0, 0, 0, 0, 0, 0, 0, 0, 0, 0, 0, 0, 0, 0, 0, 0, 0, 0, 0, 0, 0, 0, 0, 0, 0, 0, 0, 0, 0, 0, 0, 0, 0, 0, 0]⟩]⟩
noncomputable def me19 : Me := ⟨5218, [.v (.l 5217 1 0 28)],
 [⟨5217, 5, 5, nv .u8 [1, 2, 0, 0, 1, 250, 243, 1, 0, 0, 9, 0, 0, 1, 98, 1, 3, 1, 0, 1, 9, 0, 0, 4, 46, 46, 47, 98]⟩],
 .v (.l 5515 1 0 175), 5516,
 [⟨5217, 5, 5, nv .u8 [1, 2, 0, 0, 1, 250, 243, 1, 0, 0, 9, 0, 0, 1, 98, 1, 3, 1, 0, 1, 9, 0, 0, 4, 46, 46, 47, 98]⟩,
  ⟨5515, 5, 8, nv .u8 [1, 28, 34, 85, 80, 0, 5, 0, 0, 0, 0, 0, 0, 0, 0, 0, 0, 0, 0, 0, 0, 0, 0, 0, 0, 68, 0, 0, 0, 0, 0, 0, 0, 0, 0, 0, 0, 0, 0, 0, 0, 0, 0, 0, 0, 0, 0, 0, 0, 0, 0, 64, 0, 0, 0, 0, 0, 0, 0, 0, 0, 0, 0, 0, 0, 0, 0, 0, 0, 0, 0, 0, 0, 0, 0, 0, 0, 0, 0, 0, 0, 0, 0, 0, 0, 0, 0, 0, 0, 0, 0, 0, 0, 0, 0, 0, 0, 0, 0, 0, 0, 0, 0, 0, 0, 0, 0, 0, 0, 0, 0, 0, 0, 0, 0, 0, 0, 0, 0, 0, 0, 0, 0, 4, 0, 0, 0, 64, 0, 0, 64, 0, 0, 0, 0, 0, 0, 0, 0, 0, 0, 0, 0, 0, 0, 0, 0, 0, 0, 0, 0, 0, 0, 0, 0, 0, 0, 0, 0, 0, 0, 0, 120, 14, 90, 31, 208, 34, 158, 163, 160, 79, 162, 38, 128]⟩]⟩
noncomputable def me20 : Me := ⟨5218, [.v (.l 5217 1 0 28)],
 [⟨5217, 5, 5, nv .u8 [1, 2, 0, 0, 1, 250, 243, 1, 0, 0, 9, 0, 0, 1, 98, 1, 3, 1, 0, 1, 9, 0, 0, 4, 46, 46, 47, 98]⟩],
 .t [.v (.l 5517 1 0 29), .v (.n .i64 0)], 5518,
 [⟨5217, 5, 5, nv .u8 [1, 2, 0, 0, 1, 250, 243, 1, 0, 0, 9, 0, 0, 1, 98, 1, 3, 1, 0, 1, 9, 0, 0, 4, 46, 46, 47, 98]⟩,
  ⟨5517, 5, 5, nv .u8 [0, 1, 2, 0, 0, 1, 250, 243, 1, 0, 0, 9, 0, 0, 1, 98, 1, 3, 1, 0, 1, 9, 0, 0, 4, 46, 46, 47, 98]⟩]⟩
noncomputable def me21 : Me := ⟨5577, [.g (nv .u32 [3409274020, 509314670, 1703445984, 1957995565, 2005550929, 3704805053, 4245305362, 1033746069]), .g ([.n .i64 2, .n .i64 0, .b false, .l 5517 1 0 29])],
 [⟨5517, 5, 5, nv .u8 [0, 1, 2, 0, 0, 1, 250, 243, 1, 0, 0, 9, 0, 0, 1, 98, 1, 3, 1, 0, 1, 9, 0, 0, 4, 46, 46, 47, 98]⟩],
 .t [.v (.l 5673 1 0 40), .v (.n .i64 0)], 5674,
 [⟨5517, 5, 5, nv .u8 [0, 1, 2, 0, 0, 1, 250, 243, 1, 0, 0, 9, 0, 0, 1, 98, 1, 3, 1, 0, 1, 9, 0, 0, 4, 46, 46, 47, 98]⟩,
  ⟨5673, 5, 6, nv .u8 [2, 0, 29, 101, 220, 44, 217, 9, 72, 39, 194, 57, 23, 55, 234, 107, 175, 55, 111, 103, 134, 110, 77, 118, 72, 227, 171, 115, 138, 229, 238, 47, 2, 199, 92, 211, 87, 31, 177, 193]⟩]⟩
noncomputable def me22 : Me := ⟨5675, [.g (nv .u32 [3409274020, 509314670, 1703445984, 1957995565, 2005550929, 3704805053, 4245305362, 1033746069]), .g ([.n .i64 3, .n .i64 1, .b true, .l 5527 1 0 3])],
 [⟨5527, 5, 2, nv .u8 [0, 1, 0]⟩],
 .t [.v (.l 5771 1 0 14), .v (.n .i64 0)], 5772,
 [⟨5527, 5, 2, nv .u8 [0, 1, 0]⟩,
  ⟨5771, 5, 4, nv .u8 [3, 1, 3, 152, 106, 195, 77, 170, 180, 120, 144, 13, 114, 66]⟩]⟩
noncomputable def me23 : Me := ⟨3992, [.v (.l 3991 1 0 75), .v (.s [112])],
 [⟨3991, 5, 7, nv .u8 [83, 84, 69, 49, 115, 97, 108, 116, 115, 97, 108, 116, 2, 234, 247, 35, 42, 183, 52, 23, 166, 2, 0, 29, 101, 220, 44, 217, 9, 72, 39, 194, 57, 23, 55, 234, 107, 175, 55, 111, 103, 134, 110, 77, 118, 72, 227, 171, 115, 138, 229, 238, 47, 2, 199, 92, 211, 87, 31, 177, 193, 3, 1, 3, 152, 106, 195, 77, 170, 180, 120, 144, 13, 114, 66]⟩],
 .t [.v (.p 5773 0), .v (.n .i64 0)], 5774,
 [⟨3991, 5, 7, nv .u8 [83, 84, 69, 49, 115, 97, 108, 116, 115, 97, 108, 116, 2, 234, 247, 35, 42, 183, 52, 23, 166, 2, 0, 29, 101, 220, 44, 217, 9, 72, 39, 194, 57, 23, 55, 234, 107, 175, 55, 111, 103, 134, 110, 77, 118, 72, 227, 171, 115, 138, 229, 238, 47, 2, 199, 92, 211, 87, 31, 177, 193, 3, 1, 3, 152, 106, 195, 77, 170, 180, 120, 144, 13, 114, 66]⟩,
  ⟨4892, 47, 5, [.n .i64 1, .n .i64 493, .n .i64 0, .n .i64 0, .n .i64 9, .l0, .l0, .n .i64 0, .l0, .s [], .n .i64 0, .n .i64 0, .n .i64 3, .n .i64 1, .n .i64 0, .n .i64 1, .n .i64 9, .l0, .l0, .n .i64 0, .l0, .s [46, 46, 47, 98], .n .i64 0, .n .i64 0]⟩,
  ⟨4894, 40, 2, [.s [], .n .i64 0, .s [98], .n .i64 1]⟩,
  ⟨5773, 148, 2, [.l 4894 2 0 2, .l 4892 12 0 2]⟩]⟩
noncomputable def me24 : Me := ⟨5787, [.v (.s [113]), .g (nv .u8 [115, 97, 108, 116, 115, 97, 108, 116]), .v (.n .i64 2)],
 [],
 .t [.g (nv .u32 [4111613254, 513700665, 3004384067, 3301976011, 709486461, 852082084, 1252792872, 1364459042]), .v (.n .i64 0)], 5866,
 []⟩
noncomputable def me25 : Me := ⟨5784, [.v (.l 3991 1 0 75), .v (.s [113])],
 [⟨3991, 5, 7, nv .u8 [83, 84, 69, 49, 115, 97, 108, 116, 115, 97, 108, 116, 2, 234, 247, 35, 42, 183, 52, 23, 166, 2, 0, 29, 101, 220, 44, 217, 9, 72, 39, 194, 57, 23, 55, 234, 107, 175, 55, 111, 103, 134, 110, 77, 118, 72, 227, 171, 115, 138, 229, 238, 47, 2, 199, 92, 211, 87, 31, 177, 193, 3, 1, 3, 152, 106, 195, 77, 170, 180, 120, 144, 13, 114, 66]⟩],
 .t [.v (.p0), .v (.n .i64 4)], 5908,
 [⟨3991, 5, 7, nv .u8 [83, 84, 69, 49, 115, 97, 108, 116, 115, 97, 108, 116, 2, 234, 247, 35, 42, 183, 52, 23, 166, 2, 0, 29, 101, 220, 44, 217, 9, 72, 39, 194, 57, 23, 55, 234, 107, 175, 55, 111, 103, 134, 110, 77, 118, 72, 227, 171, 115, 138, 229, 238, 47, 2, 199, 92, 211, 87, 31, 177, 193, 3, 1, 3, 152, 106, 195, 77, 170, 180, 120, 144, 13, 114, 66]⟩]⟩
noncomputable def me26 : Me := ⟨5911, [.v (.s [112]), .g (nv .u8 [115, 97, 108, 116, 115, 97, 108, 116]), .v (.n .i64 2)],
 [],
 .t [.g (nv .u32 [3409274020, 509314670, 1703445984, 1957995565, 2005550929, 3704805053, 4245305362, 1033746069]), .v (.n .i64 0)], 5990,
 []⟩
noncomputable def me27 : Me := ⟨6033, [.g (nv .u32 [3409274020, 509314670, 1703445984, 1957995565, 2005550929, 3704805053, 4245305362, 1033746069]), .v (.l 3991 1 0 74), .v (.n .i64 21), .v (.n .i64 0)],
 [⟨3991, 5, 7, nv .u8 [83, 84, 69, 49, 115, 97, 108, 116, 115, 97, 108, 116, 2, 234, 247, 35, 42, 183, 52, 23, 166, 2, 0, 29, 101, 220, 44, 217, 9, 72, 39, 194, 57, 23, 55, 234, 107, 175, 55, 111, 103, 134, 110, 77, 118, 72, 227, 171, 115, 138, 229, 238, 47, 2, 199, 92, 211, 87, 31, 177, 193, 3, 1, 3, 152, 106, 195, 77, 170, 180, 120, 144, 13, 114, 66]⟩],
 .t [.g ([.n .i64 2, .n .i64 0, .b false, .lx 6078 1 0 29 29]), .v (.n .i64 61), .v (.n .i64 0)], 6122,
 [⟨3991, 5, 7, nv .u8 [83, 84, 69, 49, 115, 97, 108, 116, 115, 97, 108, 116, 2, 234, 247, 35, 42, 183, 52, 23, 166, 2, 0, 29, 101, 220, 44, 217, 9, 72, 39, 194, 57, 23, 55, 234, 107, 175, 55, 111, 103, 134, 110, 77, 118, 72, 227, 171, 115, 138, 229, 238, 47, 2, 199, 92, 211, 87, 31, 177, 193, 3, 1, 3, 152, 106, 195, 77, 170, 180, 120, 144, 13, 114, 66]⟩,
  ⟨6078, 5, 6, nv .u8 [0, 1, 2, 0, 0, 1, 250, 243, 1, 0, 0, 9, 0, 0, 1, 98, 1, 3, 1, 0, 1, 9, 0, 0, 4, 46, 46, 47, 98, 180, 13, 42, 0, 0, 0, 0, 0, 0, 0, 0, 0, 0, 0, 0, 0, 0, 0, 0, 0, 0, 0, 0, 0, 0, 0, 0, 0, 0, 0, 0, 0]⟩]⟩
noncomputable def me28 : Me := ⟨6125, [.g (nv .u32 [3409274020, 509314670, 1703445984, 1957995565, 2005550929, 3704805053, 4245305362, 1033746069]), .v (.l 3991 1 0 74), .v (.n .i64 61), .v (.n .i64 1)],
 [⟨3991, 5, 7, nv .u8 [83, 84, 69, 49, 115, 97, 108, 116, 115, 97, 108, 116, 2, 234, 247, 35, 42, 183, 52, 23, 166, 2, 0, 29, 101, 220, 44, 217, 9, 72, 39, 194, 57, 23, 55, 234, 107, 175, 55, 111, 103, 134, 110, 77, 118, 72, 227, 171, 115, 138, 229, 238, 47, 2, 199, 92, 211, 87, 31, 177, 193, 3, 1, 3, 152, 106, 195, 77, 170, 180, 120, 144, 13, 114, 66]⟩],
 .t [.g ([.n .i64 0, .n .i64 0, .b false, .l0]), .v (.n .i64 61), .v (.n .i64 5)], 6128,
 [⟨3991, 5, 7, nv .u8 [83, 84, 69, 49, 115, 97, 108, 116, 115, 97, 108, 116, 2, 234, 247, 35, 42, 183, 52, 23, 166, 2, 0, 29, 101, 220, 44, 217, 9, 72, 39, 194, 57, 23, 55, 234, 107, 175, 55, 111, 103, 134, 110, 77, 118, 72, 227, 171, 115, 138, 229, 238, 47, 2, 199, 92, 211, 87, 31, 177, 193, 3, 1, 3, 152, 106, 195, 77, 170, 180, 120, 144, 13, 114, 66]⟩]⟩
noncomputable def me29 : Me := ⟨5908, [.v (.l 3991 1 0 74), .v (.s [112])],
 [⟨3991, 5, 7, nv .u8 [83, 84, 69, 49, 115, 97, 108, 116, 115, 97, 108, 116, 2, 234, 247, 35, 42, 183, 52, 23, 166, 2, 0, 29, 101, 220, 44, 217, 9, 72, 39, 194, 57, 23, 55, 234, 107, 175, 55, 111, 103, 134, 110, 77, 118, 72, 227, 171, 115, 138, 229, 238, 47, 2, 199, 92, 211, 87, 31, 177, 193, 3, 1, 3, 152, 106, 195, 77, 170, 180, 120, 144, 13, 114, 66]⟩],
 .t [.v (.p0), .v (.n .i64 5)], 6129,
 [⟨3991, 5, 7, nv .u8 [83, 84, 69, 49, 115, 97, 108, 116, 115, 97, 108, 116, 2, 234, 247, 35, 42, 183, 52, 23, 166, 2, 0, 29, 101, 220, 44, 217, 9, 72, 39, 194, 57, 23, 55, 234, 107, 175, 55, 111, 103, 134, 110, 77, 118, 72, 227, 171, 115, 138, 229, 238, 47, 2, 199, 92, 211, 87, 31, 177, 193, 3, 1, 3, 152, 106, 195, 77, 170, 180, 120, 144, 13, 114, 66]⟩]⟩
noncomputable def me30 : Me := ⟨6134, [.v (.s [112]), .g (nv .u8 [115, 97, 108, 116, 115, 97, 108, 116]), .v (.n .i64 2)],
 [],
 .t [.g (nv .u32 [3409274020, 509314670, 1703445984, 1957995565, 2005550929, 3704805053, 4245305362, 1033746069]), .v (.n .i64 0)], 6213,
 []⟩
noncomputable def me31 : Me := ⟨6256, [.g (nv .u32 [3409274020, 509314670, 1703445984, 1957995565, 2005550929, 3704805053, 4245305362, 1033746069]), .v (.l 6130 1 0 76), .v (.n .i64 21), .v (.n .i64 0)],
 [⟨6130, 5, 7, nv .u8 [83, 84, 69, 49, 115, 97, 108, 116, 115, 97, 108, 116, 2, 234, 247, 35, 42, 183, 52, 23, 166, 2, 0, 29, 101, 220, 44, 217, 9, 72, 39, 194, 57, 23, 55, 234, 107, 175, 55, 111, 103, 134, 110, 77, 118, 72, 227, 171, 115, 138, 229, 238, 47, 2, 199, 92, 211, 87, 31, 177, 193, 3, 1, 3, 152, 106, 195, 77, 170, 180, 120, 144, 13, 114, 66, 0]⟩],
 .t [.g ([.n .i64 2, .n .i64 0, .b false, .lx 6301 1 0 29 29]), .v (.n .i64 61), .v (.n .i64 0)], 6345,
 [⟨6130, 5, 7, nv .u8 [83, 84, 69, 49, 115, 97, 108, 116, 115, 97, 108, 116, 2, 234, 247, 35, 42, 183, 52, 23, 166, 2, 0, 29, 101, 220, 44, 217, 9, 72, 39, 194, 57, 23, 55, 234, 107, 175, 55, 111, 103, 134, 110, 77, 118, 72, 227, 171, 115, 138, 229, 238, 47, 2, 199, 92, 211, 87, 31, 177, 193, 3, 1, 3, 152, 106, 195, 77, 170, 180, 120, 144, 13, 114, 66, 0]⟩,
  ⟨6301, 5, 6, nv .u8 [0, 1, 2, 0, 0, 1, 250, 243, 1, 0, 0, 9, 0, 0, 1, 98, 1, 3, 1, 0, 1, 9, 0, 0, 4, 46, 46, 47, 98, 180, 13, 42, 0, 0, 0, 0, 0, 0, 0, 0, 0, 0, 0, 0, 0, 0, 0, 0, 0, 0, 0, 0, 0, 0, 0, 0, 0, 0, 0, 0, 0]⟩]⟩
noncomputable def me32 : Me := ⟨6348, [.g (nv .u32 [3409274020, 509314670, 1703445984, 1957995565, 2005550929, 3704805053, 4245305362, 1033746069]), .v (.l 6130 1 0 76), .v (.n .i64 61), .v (.n .i64 1)],
 [⟨6130, 5, 7, nv .u8 [83, 84, 69, 49, 115, 97, 108, 116, 115, 97, 108, 116, 2, 234, 247, 35, 42, 183, 52, 23, 166, 2, 0, 29, 101, 220, 44, 217, 9, 72, 39, 194, 57, 23, 55, 234, 107, 175, 55, 111, 103, 134, 110, 77, 118, 72, 227, 171, 115, 138, 229, 238, 47, 2, 199, 92, 211, 87, 31, 177, 193, 3, 1, 3, 152, 106, 195, 77, 170, 180, 120, 144, 13, 114, 66, 0]⟩],
 .t [.g ([.n .i64 3, .n .i64 1, .b true, .lx 6393 1 0 3 3]), .v (.n .i64 75), .v (.n .i64 0)], 6437,
 [⟨6130, 5, 7, nv .u8 [83, 84, 69, 49, 115, 97, 108, 116, 115, 97, 108, 116, 2, 234, 247, 35, 42, 183, 52, 23, 166, 2, 0, 29, 101, 220, 44, 217, 9, 72, 39, 194, 57, 23, 55, 234, 107, 175, 55, 111, 103, 134, 110, 77, 118, 72, 227, 171, 115, 138, 229, 238, 47, 2, 199, 92, 211, 87, 31, 177, 193, 3, 1, 3, 152, 106, 195, 77, 170, 180, 120, 144, 13, 114, 66, 0]⟩,
  ⟨6393, 5, 6, nv .u8 [0, 1, 0, 150, 12, 85, 218, 146, 224, 176, 147, 214, 54, 147, 135, 60, 173, 205, 95, 183, 25, 242, 172, 232, 142, 157, 209, 106, 9, 153, 49, 47, 0, 0, 0]⟩]⟩
noncomputable def me33 : Me := ⟨6131, [.v (.l 6130 1 0 76), .v (.s [112])],
 [⟨6130, 5, 7, nv .u8 [83, 84, 69, 49, 115, 97, 108, 116, 115, 97, 108, 116, 2, 234, 247, 35, 42, 183, 52, 23, 166, 2, 0, 29, 101, 220, 44, 217, 9, 72, 39, 194, 57, 23, 55, 234, 107, 175, 55, 111, 103, 134, 110, 77, 118, 72, 227, 171, 115, 138, 229, 238, 47, 2, 199, 92, 211, 87, 31, 177, 193, 3, 1, 3, 152, 106, 195, 77, 170, 180, 120, 144, 13, 114, 66, 0]⟩],
 .t [.v (.p0), .v (.n .i64 3)], 6440,
 [⟨6130, 5, 7, nv .u8 [83, 84, 69, 49, 115, 97, 108, 116, 115, 97, 108, 116, 2, 234, 247, 35, 42, 183, 52, 23, 166, 2, 0, 29, 101, 220, 44, 217, 9, 72, 39, 194, 57, 23, 55, 234, 107, 175, 55, 111, 103, 134, 110, 77, 118, 72, 227, 171, 115, 138, 229, 238, 47, 2, 199, 92, 211, 87, 31, 177, 193, 3, 1, 3, 152, 106, 195, 77, 170, 180, 120, 144, 13, 114, 66, 0]⟩]⟩
end Rn
end Eng
end Go.Proofs.YtoheknblphcloaaGreatDoor
