/-
  Parts of the proof: Hde.
-/
import Derived.Test.YtoheknblphcloaaGreatDoorQB0a
import Derived.Test.YtoheknblphcloaaGreatDoorQB0b
import Derived.Test.YtoheknblphcloaaGreatDoorQNa
set_option maxRecDepth 100000
set_option maxHeartbeats 64000000
namespace Go.Proofs.YtoheknblphcloaaGreatDoor.Eng
open Go.RowKit
section
section
variable {hs : List Nat} {H : World → Prop} {full : Array Oper} {K : Env → World → Prop} {rest : List Oper} {env : Env} {w : World} {d : Tmp} {dst : Option Tmp} {ty : TypeId} {pos : String} {af : Array Edge}
theorem xslar {t : TypeId} {x : Operand} {b o n : Nat} (hx : evo env x = some (.pointer (some ⟨b, o, none⟩))) (hn : get l_an t = some n) (hz : get l_ae t = some 1)
  (h : xs Tryz.prog isI isS hs H full K rest ((d, .slice (some ⟨b, o, none⟩) n n) :: env) w) : xs Tryz.prog isI isS hs H full K (⟨some d, .slice t x none none none, ty, pos, af, none⟩ :: rest) env w := by
 obtain ⟨e, ie, h2, h3, h4, h5⟩ := arr_spec hn hz
 refine x_gen rfl (by simp [opsOK, Op.operands, hx]) ⟨_, fun w' => ?_, h⟩
 have := Rn.run_ar (b := b) (o := o) (l := 0) (h := n) h2 h3 (.inl ⟨rfl, rfl⟩) (.inl ⟨rfl, rfl⟩) (Nat.zero_le _) (Nat.le_refl _) w'
 simp [execOp, ev_of hx, this]
theorem xcpk {dT sT e : TypeId} {g b so dLen dCap sLen sCap : Nat} {old : Array Value} {cs : List Value} {x y : Operand} (hz : es dT = some 1) (hB : Blk w g e old) (hx : evo env x = some (.slice (some ⟨g, 0, none⟩) dLen dCap)) (hy : evo env y = some (.slice (some ⟨b, so, none⟩) sLen sCap))
  (hn : cs.length = min sLen dLen) (hsrc : ∀ j u, cs[j]? = some u → w.cell? ⟨b, so + j, none⟩ = some u) (hfit : cs.length ≤ old.size) (h1 : ∀ u ∈ cs, u.oneCell' = true)
  (h : ∀ w', Blk w' g e (cs ++ old.toList.drop cs.length).toArray → Fr (· = g) w w' → xs Tryz.prog isI isS hs H full K rest (put env dst (goInt (min sLen dLen))) w') (hH : ∀ w', Fr (· = g) w w' → H w' := by intros; trivial) :
  xs Tryz.prog isI isS hs H full K (⟨dst, .call { callee := .builtin .copy, args := ⟨[x, y]⟩, argTypes := ⟨[dT, sT]⟩ }, ty, pos, af, none⟩ :: rest) env w := by
 obtain ⟨el, i, hu, hi', hsz⟩ := es_spec hz
 have hl := run_firstCells_some (P := Tryz.prog) w 1 (min sLen dLen) ⟨b, so, none⟩ sLen sCap cs (by rw [Nat.mul_one]; exact hn) (fun j u hu => by rw [Addr.add_lit]; exact hsrc j u hu)
 have hr := run_storeCells_at (P := Tryz.prog) g 0 e cs 0 old w hB (by omega) h1
 rw [Nat.add_zero, List.take_zero, List.nil_append, Nat.zero_add] at hr
 generalize hcs : (cs ++ old.toList.drop cs.length).toArray = nw at hr h
 have hF : Fr (· = g) w (w.setRow g nw) := ⟨rfl, rfl, rfl, by simp [World.setRow], fun k hk hn => by simp only [World.setRow, Array.getElem?_modify]; rw [if_neg (fun e => hn e.symm)]⟩
 have hh : w.heap[g]? = some (.cells old e (0, 0)) := hB
 have hN : Blk (w.setRow g nw) g e nw := by
  unfold Blk
  simp [World.setRow, Array.getElem?_modify, hh]
 have hrun : (Builtin.copy_ #[dT, sT] ty #[.slice (some ⟨g, 0, none⟩) dLen dCap, .slice (some ⟨b, so, none⟩) sLen sCap]).run Tryz.prog w = .ok (goInt (min sLen dLen)) (w.setRow g nw) := by
  have hmin : Nat.min sLen dLen = min sLen dLen := rfl
  simp [Builtin.copy_, run_underlying hu, Builtin.lenOf, sizeOf, typeInfo, hi', hsz, hmin, hl, hr]
  congr 1
  omega
 refine xw (v := goInt (min sLen dLen)) (w' := w.setRow g nw) (by simp [opsOK, Op.operands, Call.operands, hx, hy]) rfl ?_ (h _ hN hF) (hH _ hF)
 simp [execOp, resolve, invoke, builtin, ev_of hx, ev_of hy, hrun]
end
theorem tretc3 {env : Env} {w : World} {fn : Func} {R : Value → World → Prop} {k : List It} {t u s : Tmp} {bt tt : TypeId} {g : Nat} {cs : Array Value} {v' v'' : Value} (hr : fn.results = #[.cell t tt, .tmp u, .tmp s]) (hv : look env t = some (.pointer (some ⟨g, 0, none⟩))) (hu : look env u = some v') (hs : look env s = some v'') (hB : Blk w g bt cs) (ht : get l_agg tt = some cs.size) (h : R (.tuple #[.agg cs, v', v'']) w) :
  T Tryz.prog fn R (.code .ret :: k) env w := fun a ha => by
 refine wp_ret (sem_ret (show bodyPost Tryz.prog fn (Ret R) .ret a w from ⟨ha.1, .tuple #[.agg cs, v', v''], ?_, _, rfl, h⟩) k)
 have hp' : a.tmps[t]?.getD undef = .pointer (some ⟨g, 0, none⟩) := by rw [ha.2.2 t _ hv]; rfl
 have hu' : a.tmps[u]?.getD undef = v' := by rw [ha.2.2 u _ hu]; rfl
 have hs' : a.tmps[s]?.getD undef = v'' := by rw [ha.2.2 s _ hs]; rfl
 simp [results, hr, hp', hu', hs', asAddr, ld_row hB ht]
attribute [local irreducible] xs T
theorem ng_one {bs : List Int} {i r : Nat} (hi : i < bs.length) (h : bs.getD i 0 = r) (hr : r < 250) : ngB bs i = some (r, i + 1) := by
 have hd : digB bs i = some (r, i + 1) := by
  unfold digB
  rw [h, if_pos ⟨hi, by omega⟩]
  rfl
 unfold ngB
 obtain ⟨f, hf⟩ : ∃ f, bs.length + 1 - i = f + 1 := ⟨bs.length - i, by omega⟩
 rw [hf, ngGo, hd]
 dsimp only
 rw [if_neg (by omega), if_pos rfl]
 simp
theorem hcut_does (w : World) (v : Value) (bs : List Int) (at_ : Nat) (hv : BRow w v bs) (h : at_ < bs.length → bs.getD at_ 0 < 250) : Does Tryz.prog 23 #[v, .int .i64 (at_ : Int)] w fun r w' => r = .bool (decide (bs.length ≤ at_)) ∧ w = w' := by
 refine does2 Tryz.func23 rfl (by kernel_rfl) ?_
 obtain ⟨A, c, rfl, hcc, hcm, hA⟩ := hv.op
 refine goL ?_
 refine tscope1 (α := Unit) 0 rfl (fun _ => [(0, .slice A bs.length c), (1, .int .i64 (at_ : Int)), (5, .int .i64 (at_ : Int))]) (fun _ w' => w = w') (fun _ => 0) ?_ ?_
 ·rintro _ _ rfl
  by_cases hi : at_ < bs.length
  ·obtain ⟨b, o, z, rfl, _, hz, hc, _⟩ := hA.at_ hi
   have hz2 : z < 250 := by
    have := h hi
    rwa [List.getD_eq_getElem?_getD, hz] at this
   have hc := (Fr.drew noneB w).cell hc (fun hh => hh)
   rw [decide_eq_false (by omega)]
   refine go ?_
   exact tret1 rfl rfl ⟨rfl, rfl⟩
  ·rw [decide_eq_true (by omega)]
   refine goL ?_
   exact tret1 rfl rfl ⟨rfl, rfl⟩
 ·intro H
  refine goL ?_
  refine tlabel ?_
  exact tweak (H () w rfl) (sub ⟨rfl, rfl, rfl⟩)
def zH : List Value := List.replicate 8 (.int .u8 0) ++ [.int .i64 0]
def headV (bs : List Int) (r : Nat) : Value :=
 if bs.length < 12 then .tuple #[.agg zH.toArray, .int .i64 0, .int .i64 5]
 else if bs.take 4 ≠ [83, 84, 69, 49] then .tuple #[.agg zH.toArray, .int .i64 0, .int .i64 3]
 else if bs.length < 21 then .tuple #[.agg zH.toArray, .int .i64 0, .int .i64 5]
 else .tuple #[.agg (((bs.drop 4).take 8).map (Value.int .u8) ++ [Value.int .i64 (r : Int)]).toArray, .int .i64 21, .int .i64 0]
theorem head_does (w : World) (v : Value) (bs : List Int) (r : Nat) (hv : BRow w v bs) (hb : Byts bs) (hl : bs.length ≤ 1000000) (hr : 12 < bs.length → bs.getD 12 0 = r) (h1 : 1 ≤ r) (h2 : r ≤ 200) : Does Tryz.prog 6 #[v] w fun x w' => x = headV bs r ∧ Ext w w' := by
 refine does1 Tryz.func6 rfl (by kernel_rfl) ?_
 have hrow := hv
 obtain ⟨A, c, rfl, hcc, hcm, hA⟩ := hv.op
 have hN : ∀ {a b c : World} {g : Nat}, Ext a b → Fr (· = g) b c → a.heap.size ≤ g → Ext a c := fun h1 h2 hg => h1.trans h2 fun j hj e => absurd hj (by omega)
 refine goL ?_
 refine xalloc (z := .agg zH.toArray) (by kernel_rfl) (fun w1 hB1 hE1 hs1 => ?_)
 obtain ⟨g, hg⟩ : ∃ g, g = w.heap.size := ⟨_, rfl⟩
 rw [← hg] at hB1 hs1 ⊢
 have hgl : w.heap.size ≤ g := by omega
 by_cases h12 : bs.length < 12
 ·refine goL ?_
  refine xbd (cells := zH.toArray) rfl (by kernel_rfl) ?_
  refine xsta hB1 rfl rfl (by kernel_rfl) rfl (by kernel_rfl) (fun w2 hB2 hF2 => ?_)
  refine goL ?_
  exact tretc3 rfl rfl rfl rfl hB2 (by kernel_rfl) ⟨by unfold headV; rw [if_pos h12], hN hE1 hF2 hgl⟩
 obtain ⟨z0, z1, z2, z3, tl, rfl⟩ : ∃ z0 z1 z2 z3 tl, bs = z0 :: z1 :: z2 :: z3 :: tl := by
  match bs, h12 with
  | [], h => exact absurd (by simp) h
  | [_], h => exact absurd (by simp) h
  | [_, _], h => exact absurd (by simp) h
  | [_, _, _], h => exact absurd (by simp) h
  | z0 :: z1 :: z2 :: z3 :: tl, _ => exact ⟨_, _, _, _, _, rfl⟩
 have hlen : (z0 :: z1 :: z2 :: z3 :: tl).length = tl.length + 4 := rfl
 obtain ⟨b, o, rfl, hbl, hcell⟩ := hA (by omega)
 have c0 : w1.cell? ⟨b, o + 0, none⟩ = some (.int .u8 z0) := hE1.cell (hcell 0 _ rfl)
 have c1 : w1.cell? ⟨b, o + 1, none⟩ = some (.int .u8 z1) := hE1.cell (hcell 1 _ rfl)
 have c2 : w1.cell? ⟨b, o + 2, none⟩ = some (.int .u8 z2) := hE1.cell (hcell 2 _ rfl)
 have c3 : w1.cell? ⟨b, o + 3, none⟩ = some (.int .u8 z3) := hE1.cell (hcell 3 _ rfl)
 have b0 := hb z0 (by simp)
 have b1 := hb z1 (by simp)
 have b2 := hb z2 (by simp)
 have b3 := hb z3 (by simp)
 by_cases hh : z0 = 83 ∧ z1 = 84 ∧ z2 = 69 ∧ z3 = 49
 ·obtain ⟨rfl, rfl, rfl, rfl⟩ := hh
  have ht : (83 :: 84 :: 69 :: 49 :: tl : List Int).take 4 = [83, 84, 69, 49] := rfl
  refine gz0 ?_
  have hcd := hcut_does w1 _ _ 12 (hrow.ext hE1) fun hlt => by rw [hr hlt]; omega
  refine xcall rfl rfl hcd (fun x w2 h3 => ?_) (fun _ _ _ => trivial)
  obtain ⟨rfl, rfl⟩ := h3
  by_cases h13 : (83 :: 84 :: 69 :: 49 :: tl : List Int).length ≤ 12
  ·rw [decide_eq_true h13]
   refine goL ?_
   refine xbd (cells := zH.toArray) rfl (by kernel_rfl) ?_
   refine xsta hB1 rfl rfl (by kernel_rfl) rfl (by kernel_rfl) (fun w2 hB2 hF2 => ?_)
   refine goL ?_
   exact tretc3 rfl rfl rfl rfl hB2 (by kernel_rfl) ⟨by unfold headV; rw [if_neg h12, if_neg (fun hh => hh ht), if_pos (by omega)], hN hE1 hF2 hgl⟩
  ·rw [decide_eq_false h13]
   refine goL ?_
   refine xcall rfl rfl (nget_does w1 _ _ 12 (hrow.ext hE1) hb (by omega) (by omega)) (fun x w2 h3 => ?_)
   obtain ⟨rfl, rfl⟩ := h3
   rw [ng_one (by omega) (hr (by omega)) (by omega)]
   dsimp only
   by_cases h21 : (83 :: 84 :: 69 :: 49 :: tl : List Int).length < 21
   ·refine goL ?_
    refine xbd (cells := zH.toArray) rfl (by kernel_rfl) ?_
    refine xsta hB1 rfl rfl (by kernel_rfl) rfl (by kernel_rfl) (fun w2 hB2 hF2 => ?_)
    refine goL ?_
    exact tretc3 rfl rfl rfl rfl hB2 (by kernel_rfl) ⟨by unfold headV; rw [if_neg h12, if_neg (fun hh => hh ht), if_pos h21], hN hE1 hF2 hgl⟩
   ·obtain ⟨cs, hcs⟩ : ∃ cs, cs = (tl.take 8).map (Value.int .u8) := ⟨_, rfl⟩
    have hcl : cs.length = 8 := by rw [hcs, List.length_map, List.length_take]; omega
    refine goLU ?_
    refine xbd (cells := (List.replicate 8 (Value.int .u8 0) ++ [Value.int .i64 (r : Int)]).toArray) rfl (by kernel_rfl) ?_
    refine xalloc (z := .agg zH.toArray) (by kernel_rfl) (fun w3 hB3 hE3 hs3 => ?_)
    refine xsta hB3 rfl rfl (by kernel_rfl) rfl (by kernel_rfl) (fun w4 hB4 hF4 => ?_)
    obtain ⟨g3, hg3⟩ : ∃ g3, g3 = w1.heap.size := ⟨_, rfl⟩
    rw [← hg3] at hB3 hB4 hF4 ⊢
    have hE4 : Ext w1 w4.drew := (hN hE3 hF4 (by omega)).t (Fr.drew _ w4)
    refine goL ?_
    refine xslar rfl rfl rfl ?_
    refine goL ?_
    refine xsl2 (z := 1) (l := 4) (h := 12) rfl rfl rfl rfl (by omega) (by omega) (by omega) (fun A' hA' => ?_)
    rw [hA' _ _ rfl (by omega)]
    refine xcpk (cs := cs) rfl (hB4.ext (Fr.drew _ w4)) rfl rfl hcl (fun j u hu => ?_) (by rw [hcl]; exact Nat.le_add_right 8 1) (fun u hu => ?_) (fun w5 hB5 hF5 => ?_)
    ·have hj := (List.getElem?_eq_some_iff.1 hu).1
     rw [hcs, List.getElem?_map, List.getElem?_take_of_lt (by omega), ← List.getElem?_map] at hu
     have := (hE1.t hE4).cell (hcell (4 + j) u (by rw [Nat.add_comm]; exact hu))
     rw [show o + (4 : Int).toNat * 1 + j = o + (4 + j) from by omega]
     exact this fun hh => hh
    ·rw [hcs] at hu
     obtain ⟨z, _, rfl⟩ := List.mem_map.1 hu
     rfl
    have hE5 : Ext w1 w5 := hN hE4 hF5 (by omega)
    have hB5' : Blk w5 g3 33 (cs ++ [Value.int .i64 (r : Int)]).toArray := by
     rw [hcl] at hB5
     exact hB5
    have hz : (zH.toArray).size = (cs ++ [Value.int .i64 (r : Int)]).toArray.size := by rw [List.size_toArray, List.size_toArray, List.length_append, hcl]; rfl
    have hall : (cs ++ [Value.int .i64 (r : Int)]).toArray.all (·.oneCell') = true := by
     rw [← Array.all_toList, List.all_eq_true]
     intro u hu
     rcases List.mem_append.1 hu with hu | hu
     ·rw [hcs] at hu
      obtain ⟨z, _, rfl⟩ := List.mem_map.1 hu
      rfl
     ·rw [List.mem_singleton.1 hu]; rfl
    refine goL ?_
    refine xlda hB5' rfl (by rw [← hz]; kernel_rfl) ?_
    refine goL ?_
    refine xsta (hB1.ext hE5) rfl rfl (by rw [← hz]; kernel_rfl) hz hall (fun w6 hB6 hF6 => ?_)
    refine goL ?_
    refine tretc3 rfl rfl rfl rfl hB6 (by rw [← hz]; kernel_rfl) ⟨?_, hN (hE1.t hE5) hF6 hgl⟩
    unfold headV
    rw [if_neg h12, if_neg (fun hh => hh ht), if_neg h21, hcs]
    rfl
 ·have ht : (z0 :: z1 :: z2 :: z3 :: tl).take 4 ≠ [83, 84, 69, 49] := fun e => hh (by
   have e : [z0, z1, z2, z3] = [83, 84, 69, 49] := e
   simpa using e)
  have hend : headV (z0 :: z1 :: z2 :: z3 :: tl) r = .tuple #[.agg zH.toArray, .int .i64 0, .int .i64 3] := by
   unfold headV
   rw [if_neg h12, if_pos ht]
  rw [hend]
  have h4 : z0 ≠ 83 ∨ z0 = 83 ∧ z1 ≠ 84 ∨ z0 = 83 ∧ z1 = 84 ∧ z2 ≠ 69 ∨ z0 = 83 ∧ z1 = 84 ∧ z2 = 69 ∧ z3 ≠ 49 := by omega
  rcases h4 with h4 | h4 | h4 | h4
  all_goals
   refine gz0 ?_
   refine xbd (cells := zH.toArray) rfl (by kernel_rfl) ?_
   refine xsta hB1 rfl rfl (by kernel_rfl) rfl (by kernel_rfl) (fun w2 hB2 hF2 => ?_)
   refine goL ?_
   exact tretc3 rfl rfl rfl rfl hB2 (by kernel_rfl) ⟨rfl, hN hE1 hF2 hgl⟩
end
end Go.Proofs.YtoheknblphcloaaGreatDoor.Eng
