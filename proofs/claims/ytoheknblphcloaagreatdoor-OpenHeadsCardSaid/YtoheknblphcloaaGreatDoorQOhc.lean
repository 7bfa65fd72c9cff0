/-
  Parts of the proof: Ohc.
-/
import Derived.ChangeKeysEq
import Derived.Laws.StructEq
import Derived.Test.YtoheknblphcloaaGreatDoorQB0a
import Derived.Test.YtoheknblphcloaaGreatDoorQB5
import Derived.Test.YtoheknblphcloaaGreatDoorQHde
set_option maxRecDepth 100000
set_option maxHeartbeats 64000000
namespace Go.Proofs.YtoheknblphcloaaGreatDoor.Eng
open Go.RowKit
section
def bs (l : Str) : List Value := l.map fun x => .int .u8 (x.toNat : Int)
def zs (l : Str) : List Int := l.map fun x => (x.toNat : Int)
theorem bs_zs (l : Str) : bs l = (zs l).map (Value.int .u8) := by unfold bs zs; rw [List.map_map]; rfl
theorem bs_len (l : Str) : (bs l).length = l.length := List.length_map _
theorem zs_len (l : Str) : (zs l).length = l.length := List.length_map _
theorem zs_byts (l : Str) : Byts (zs l) := fun z hz => by
 obtain ⟨x, _, rfl⟩ := List.mem_map.1 hz
 have := x.toNat_lt
 exact ⟨by omega, by omega⟩
theorem Bk.row {w : World} {g c : Nat} {t : TypeId} {cs : Array Value} {l : Str} (h : Rn.Bk w g t cs) (hc : ∀ (j : Nat) u, (bs l)[j]? = some u → cs[j]? = some u) (h1 : l.length ≤ c) (h2 : c ≤ maxLen) : BRow w (.slice (some ⟨g, 0, none⟩) l.length c) (zs l) := by
 refine ⟨_, c, by rw [zs_len], by rw [zs_len]; exact h1, h2, fun _ => ⟨g, 0, rfl, h.lt, fun j u hu => ?_⟩⟩
 rw [← bs_zs] at hu
 rw [Nat.zero_add, h.cell]
 exact hc j u hu
section
variable {hs : List Nat} {H : World → Prop} {full : Array Oper} {K : Env → World → Prop} {rest : List Oper} {env : Env} {w : World} {d : Tmp} {dst : Option Tmp} {ty : TypeId} {pos : String} {af : Array Edge}
theorem xcbz {x : Operand} {A : Option Addr} {n c : Nat} {r : Str} (hx : evo env x = some (.slice A n c)) (hR : BRow w (.slice A n c) (zs r))
  (h : xs Tryz.prog isI isS hs H full K rest ((d, .string (su r)) :: env) w) (hm1 : memb hs (some d) = false := by rfl) : xs Tryz.prog isI isS hs H full K (⟨some d, .convert 31 9 x, ty, pos, af, none⟩ :: rest) env w := by
 have e : strOfNums (zs r) = su r := by
  unfold strOfNums su zs
  rw [List.map_map]
  congr 2
  conv => rhs; rw [← List.map_id r]
  refine List.map_congr_left fun x _ => ?_
  show UInt8.ofNat (Int.toNat (x.toNat : Int)) = x
  rw [Int.toNat_natCast, UInt8.ofNat_toNat]
 refine xcbs hx hR ?_ hm1
 rw [e]
 exact h
theorem xcvk {x : Operand} {r : Str} (hx : evo env x = some (.string (su r))) (hl : r.length ≤ 1000000)
  (h : ∀ w' c cs, Rn.Bk w' w.heap.size 5 cs → (∀ (j : Nat) u, (bs r)[j]? = some u → cs[j]? = some u) → r.length ≤ c → c ≤ maxLen → r.length ≤ cs.size → Ext w w' → xs Tryz.prog isI isS hs H full K rest ((d, .slice (some ⟨w.heap.size, 0, none⟩) r.length c) :: env) w') (hH : ∀ w', Ext w w' → H w' := by intros; trivial) :
  xs Tryz.prog isI isS hs H full K (⟨some d, .convert 9 31 x, ty, pos, af, none⟩ :: rest) env w := by
 have hsz : (su r).size = r.length := su_size r
 have hE : Ext w (Lib.bytesWorld w 5 (su r)) := ⟨rfl, rfl, rfl, by rw [Lib.bytesWorld_size]; omega, fun j hj _ => Lib.bytesWorld_at_old w _ _ j hj⟩
 have hB : Rn.Bk (Lib.bytesWorld w 5 (su r)) w.heap.size 5 (Lib.bytesCells w 5 (su r)) := ⟨_, Lib.bytesWorld_at_new w _ _, .inl (Nat.le_refl _)⟩
 have hc : ∀ (j : Nat) u, (bs r)[j]? = some u → (Lib.bytesCells w 5 (su r))[j]? = some u := fun j u hu => by
  have hj : j < r.length := by
   have := (List.getElem?_eq_some_iff.1 hu).1
   rwa [bs_len] at this
  rw [← hB.cell, Lib.bytesWorld_cell w _ _ j (by omega)]
  unfold bs at hu
  rw [List.getElem?_map, List.getElem?_eq_getElem hj] at hu
  rw [← Option.some.inj hu]
  have e : (su r).data.toList = r := rfl
  rw [e, List.getD_eq_getElem?_getD, List.getElem?_eq_getElem hj]
  rfl
 have hcz : r.length ≤ (Lib.bytesCells w 5 (su r)).size := by
  rcases Nat.eq_zero_or_pos r.length with h0 | h0
  ·omega
  ·have := hc (r.length - 1) _ (List.getElem?_eq_getElem (by rw [bs_len]; omega))
   have := (Array.getElem?_eq_some_iff.1 this).1
   omega
 refine xw (by simp [opsOK, Op.operands, hx]) (by simp [cls, isI, isS]; kernel_rfl) (v := .slice (some ⟨w.heap.size, 0, none⟩) (su r).size (grownCap w (su r).size 0 5)) (w' := Lib.bytesWorld w 5 (su r)) ?_ ?_ (hH _ hE)
 ·simp [execOp, ev_of hx, Lib.run_convert_string_bytes (P := Tryz.prog) w 9 31 5 (su r) Tryz.underlying9 Tryz.underlying31 Tryz.underlying5]
 ·rw [hsz]
  exact h _ _ _ hB hc (grownCap_ge _ _ _ _) (grownCap_le_maxLen _ _ _ _ (by unfold maxLen; omega)) hcz hE
theorem xstb' {t bt : TypeId} {x y : Operand} {g i : Nat} {cs : Array Value} {v : Value} (hB : Rn.Bk w g bt cs) (hx : evo env x = some (.pointer (some ⟨g, i, none⟩))) (hy : evo env y = some v) (ht : one t = true) (hv : v.oneCell' = true) (hi : i < cs.size)
  (h : ∀ w', Rn.Bk w' g bt (cs.setIfInBounds i v) → Fr (· = g) w w' → xs Tryz.prog isI isS hs H full K rest env w') (hH : ∀ w', Fr (· = g) w w' → H w' := by intros; trivial) : xs Tryz.prog isI isS hs H full K (⟨none, .store t x y, ty, pos, af, none⟩ :: rest) env w := by
 have hc : w.cell? ⟨g, i, none⟩ = some cs[i] := by rw [hB.cell]; simp [hi]
 refine xst hx hy ht hv hc (hB.frozen hi) (h _ ?_ (Fr.setCell _ w _ v fun _ => rfl)) (hH _ (Fr.setCell _ w _ v fun _ => rfl))
 obtain ⟨f, h, hf⟩ := hB
 refine ⟨f, ?_, by simpa using hf⟩
 unfold World.setCell
 simp [Array.getElem?_modify, h]
theorem eq8_run (dd : Nat) (w' : World) (xs : List Int) : ∀ {n k : Nat}, n + k ≤ xs.length → (Op.eqItems (dd + 1) 5 1 (xs.map (Value.int .u8)).toArray (xs.map (Value.int .u8)).toArray (List.range' k n)).run Tryz.prog w' = .ok true w'
 | 0, k, _ => by simp [Op.eqItems]
 | n + 1, k, h => by
  have hg : (xs.map (Value.int .u8)).toArray[k]? = some (.int .u8 (xs[k]'(by omega))) := by
   simp [List.getElem?_eq_getElem (show k < xs.length by omega)]
  have ih := eq8_run dd w' xs (n := n) (k := k + 1) (by omega)
  have hp : Tryz.prog.plainKey 5 = true := by kernel_rfl
  rw [List.range'_succ]
  simp only [Op.eqItems, Nat.mul_one, Sem.run_bind, run_part_plain w' hp hg, Result.andThen_ok, run_equalIn_int w' dd 5 .u8 .u8 _ _ Tryz.underlying5]
  simp [ih]
theorem xeq8 {yt : TypeId} {x y : Operand} {l : List Int} (hl : l.length = 8) (hx : evo env x = some (.agg (l.map (Value.int .u8)).toArray)) (hy : evo env y = some (.agg (l.map (Value.int .u8)).toArray))
  (h : xs Tryz.prog isI isS hs H full K rest ((d, .bool true) :: env) w) : xs Tryz.prog isI isS hs H full K (⟨some d, .binOp .eql 22 x y yt, ty, pos, af, none⟩ :: rest) env w := by
 refine x_gen rfl (by simp [opsOK, Op.operands, hx, hy]) ⟨.bool true, fun w' => ?_, h⟩
 have h1 := run_eqGuard_agg (P := Tryz.prog) w' .eql 22 x y (l.map (Value.int .u8)).toArray (l.map (Value.int .u8)).toArray (by kernel_rfl)
 have h2 := run_eql_struct (P := Tryz.prog) w' 22 (l.map (Value.int .u8)).toArray (l.map (Value.int .u8)).toArray
 obtain ⟨i, hi⟩ : ∃ i, Tryz.prog.info? 5 = some i := Option.isSome_iff_exists.1 (by kernel_rfl)
 have h3 := run_equalIn_array w' 9999 (l.map (Value.int .u8)).toArray (l.map (Value.int .u8)).toArray Tryz.underlying22 hi
 rw [show Tryz.prog.cellsOf 5 = 1 by kernel_rfl, List.range_eq_range', eq8_run 9998 w' l (by omega)] at h3
 rw [h3] at h2
 simp [execOp, ev_of hx, ev_of hy, h1, h2]
end
attribute [local irreducible] xs T
theorem head_of {w : World} {v : Value} {l : Str} {r : Nat} (hv : BRow w v (zs l)) (hl : l.length ≤ 1000000) (hr : 12 < l.length → (zs l).getD 12 0 = r) (h1 : 1 ≤ r) (h2 : r ≤ 200) : Does Tryz.prog 6 #[v] w fun x w' => x = headV (zs l) r ∧ Ext w w' := head_does w v (zs l) r hv (zs_byts l) (by rw [zs_len]; exact hl) (fun h => hr (by rwa [zs_len] at h)) h1 h2
theorem mk_ok {r : Nat} (h1 : 1 ≤ r) (h2 : r ≤ 3) : Rn.isY (Rn.mkR r) = true := by
 have : r = 1 ∨ r = 2 ∨ r = 3 := by omega
 rcases this with rfl | rfl | rfl
 ·exact Rn.mk1
 ·exact Rn.mk2
 ·exact Rn.mk3
theorem u_of (z : Int) : ∃ u : Nat, IntKind.u64.wrap z = (u : Int) ∧ u ≤ 18446744073709551615 := by
 refine ⟨(IntKind.u64.wrap z).toNat, ?_, ?_⟩ <;> simp [IntKind.wrap, IntKind.signed, IntKind.bits] <;> omega
theorem nbits8 (a b : Nat) (ha : a < 256) (hb : b < 256) : bits .xor .u8 (a : Int) (b : Int) = ((a ^^^ b : Nat) : Int) := (Rn.nbits (k := .u8) (by show a ≤ 255; omega) (by show b ≤ 255; omega)).2.2.1
def HdL (S : Str) (r : Nat) (l : Str) : Str := [83, 84, 69, 49] ++ S ++ [UInt8.ofNat r] ++ l
theorem hdl_len {S l : Str} {r : Nat} (hS : S.length = 8) : (HdL S r l).length = 13 + l.length := by
 unfold HdL
 simp [hS]; omega
theorem hdl_get {S l : Str} {r : Nat} (hS : S.length = 8) (hr : r < 256) (t : Str) (ht : t.length = 4) : (zs (t ++ S ++ [UInt8.ofNat r] ++ l)).getD 12 0 = r := by
 unfold zs
 rw [List.getD_eq_getElem?_getD, List.getElem?_map, List.getElem?_append_left (by simp; omega), List.getElem?_append_right (by simp; omega)]
 simp [hS, ht]
 omega
theorem hdl_whole {S l : Str} {r : Nat} (hS : S.length = 8) (hl : 8 ≤ l.length) : headV (zs (HdL S r l)) r = .tuple #[.agg (bs S ++ [Value.int .i64 (r : Int)]).toArray, .int .i64 21, .int .i64 0] := by
 have hlen : (zs (HdL S r l)).length = 13 + l.length := by rw [zs_len, hdl_len hS]
 have h4 : (zs (HdL S r l)).take 4 = [83, 84, 69, 49] := rfl
 have h8 : ((zs (HdL S r l)).drop 4).take 8 = zs S := by
  have e : (zs (HdL S r l)).drop 4 = zs S ++ zs ([UInt8.ofNat r] ++ l) := by
   unfold HdL zs
   simp
  rw [e, List.take_append_of_le_length (by rw [zs_len]; omega), List.take_of_length_le (by rw [zs_len]; omega)]
 unfold headV
 rw [if_neg (by omega), if_neg (fun h => h h4), if_neg (by omega), h8, ← bs_zs]
theorem hdl_cut {S l : Str} {r q : Nat} (hS : S.length = 8) (hq : q < 21) : headV (zs ((HdL S r l).take q)) r = .tuple #[.agg zH.toArray, .int .i64 0, .int .i64 5] := by
 unfold headV
 by_cases h1 : (zs ((HdL S r l).take q)).length < 12
 ·rw [if_pos h1]
 ·rw [if_neg h1]
  rw [zs_len, List.length_take, hdl_len hS] at h1
  have h4 : (zs ((HdL S r l).take q)).take 4 = [83, 84, 69, 49] := by
   unfold zs
   rw [← List.map_take, List.take_take, show min 4 q = 4 from by omega]
   rfl
  rw [if_neg (fun h => h h4), if_pos (by rw [zs_len, List.length_take]; omega)]
theorem hdl_turn {S l : Str} {r k : Nat} {x y : UInt8} (hS : S.length = 8) (hk : k < 4) (hy : (HdL S r l)[k]? = some y) (hx : x ≠ y) : headV (zs ((HdL S r l).set k x)) r = .tuple #[.agg zH.toArray, .int .i64 0, .int .i64 3] := by
 have h4 : (zs ((HdL S r l).set k x)).take 4 ≠ [83, 84, 69, 49] := fun e => by
  have e1 : ((HdL S r l).set k x).take 4 = (HdL S r l).take 4 := by
   have hi : ∀ a b : Str, zs a = zs b → a = b := fun a b h => List.map_inj_right (fun p q h => UInt8.toNat_inj.1 (Int.ofNat.inj h)) |>.1 h
   refine hi _ _ ?_
   unfold zs at e ⊢
   rw [List.map_take, e]
   rfl
  have e2 := congrArg (fun l : Str => l[k]?) e1
  simp only [List.getElem?_take_of_lt hk] at e2
  rw [hy, List.getElem?_set_self (List.getElem?_eq_some_iff.1 hy).1] at e2
  exact hx (Option.some.inj e2)
 unfold headV
 rw [if_neg (by rw [zs_len, List.length_set, hdl_len hS]; omega), if_pos h4]
theorem openHeads_core (w : World) (s0 s1 s2 s3 s4 s5 s6 s7 : UInt8) (zr za : Int) (x : UInt8) (zc : Int) (hP : PowT w) : Does Tryz.prog 3 #[.agg (bs [s0, s1, s2, s3, s4, s5, s6, s7]).toArray, .int .i64 zr, .int .i64 za, .int .u8 (x.toNat : Int), .int .i64 zc] w fun r w' => r = .bool true ∧ Ext w w' := by
 refine does5 Tryz.func3 rfl (by kernel_rfl) ?_
 obtain ⟨u1, hu1, hb1⟩ := u_of zr
 obtain ⟨u2, hu2, hb2⟩ := u_of za
 obtain ⟨u3, hu3, hb3⟩ := u_of zc
 have hN : ∀ {a b c : World} {g : Nat}, Ext a b → Fr (· = g) b c → a.heap.size ≤ g → Ext a c := fun h1 h2 hg => h1.trans h2 fun j hj e => absurd hj (by omega)
 refine goL ?_
 refine xbox rfl (fun w1 hB1 hE1 hs1 => ?_)
 obtain ⟨g, hg⟩ : ∃ g, g = w.heap.size := ⟨_, rfl⟩
 rw [← hg] at hB1 hs1 ⊢
 repeat' (first | refine xcv (r := (u1 : Int)) rfl rfl rfl hu1 ?_ | refine xdu (r := ((u1 % 1000 : Nat) : Int)) (op := .rem) rfl rfl (by simp [dvI]) (by omega) (by omega) (by omega) ?_ | refine go1LU ?_ | fail)
 obtain ⟨r, hr⟩ : ∃ r, r = 1 + (1 + u1 % 1000) % 3 := ⟨_, rfl⟩
 refine xcall rfl rfl (Rn.make_run (r := r) (by omega) (mk_ok (by omega) (by omega)) w1 (Rn.TabI.init (hP.ext hE1))) (fun t w2 h2 => ?_)
 obtain ⟨hE2, ⟨a, b, rfl, ha1, hb1'⟩, hmake⟩ := h2
 have hall : (#[a, b] : Array Value).all (·.oneCell') = true := by simp [ha1, hb1']
 refine goL ?_
 refine xalloc (z := .agg #[.slice none 0 0, .slice none 0 0]) (by kernel_rfl) (fun w3 hB3 hE3 hs3 => ?_)
 refine xsta hB3 rfl rfl (by kernel_rfl) rfl hall (fun w4 hB4 hF4 => ?_)
 have hE4 : Ext w2 w4 := hN hE3 hF4 (Nat.le_refl _)
 have hE04 : Ext w w4 := (hE1.t hE2).t hE4
 have hB1' := hB1.ext (hE2.t hE4)
 refine goLU ?_
 have hED : Ext w4 w4.drew := Fr.drew _ w4
 obtain ⟨S, hS⟩ : ∃ S : Str, S = [s0, s1, s2, s3, s4, s5, s6, s7] := ⟨_, rfl⟩
 have hS8 : S.length = 8 := by rw [hS]; rfl
 have hm := hmake s0 s1 s2 s3 s4 s5 s6 s7 w4.drew (hE4.t hED)
 clear hmake
 rw [← hS] at hB1' hB1 hm ⊢
 have hX : (r : Int) = 1 + (1 + ((u1 % 1000 : Nat) : Int)) % 3 := by omega
 rw [hX] at hm
 have hRS : BRow w4.drew (.slice (some ⟨g, 0, none⟩) 8 8) (zs S) := by
  have := Bk.row (Rn.Blk.bk (hB1'.ext hED)) (l := S) (c := 8) (fun j u hu => by simpa [Value.cells] using hu) (by omega) (by decide)
  rwa [hS8] at this
 refine xlda (hB4.ext hED) rfl (by kernel_rfl) ?_
 refine xslar rfl rfl rfl ?_
 refine xcbz rfl hRS ?_
 refine goL ?_
 refine xcall rfl rfl hm (fun v w5 h5 => ?_)
 obtain ⟨hE15, l, rfl, hl1, hl2⟩ := h5
 have hE5 : Ext w w5 := hE1.t hE15
 obtain ⟨L, hL⟩ : ∃ L : Str, L = HdL S r l := ⟨_, rfl⟩
 have hLl : L.length = 13 + l.length := by rw [hL, hdl_len hS8]
 rw [show ([83, 84, 69, 49, s0, s1, s2, s3, s4, s5, s6, s7, UInt8.ofNat r] ++ l : Str) = L from by rw [hL, hS]; rfl]
 repeat' (first | refine xuln1 rfl rfl ?_ | refine xuln rfl rfl ?_ | refine go1L ?_ | fail)
 refine xcvk (r := L) rfl (by omega) (fun w6 c6 cs6 hB6 hc6 hcl6 hcm6 hcz6 hE6 => ?_)
 refine goL ?_
 refine xcall rfl rfl (head_of (r := r) (Bk.row hB6 hc6 hcl6 hcm6) (by omega) (fun _ => by rw [hL]; exact hdl_get hS8 (by omega) [83, 84, 69, 49] rfl) (by omega) (by omega)) (fun v w7 h7 => ?_)
 obtain ⟨rfl, hE7⟩ := h7
 rw [show headV (zs L) r = .tuple #[.agg (bs S ++ [Value.int .i64 (r : Int)]).toArray, .int .i64 21, .int .i64 0] from by rw [hL]; exact hdl_whole hS8 (by omega)]
 refine goL ?_
 refine xalloc (z := .agg zH.toArray) (by kernel_rfl) (fun w8 hB8 hE8 hs8 => ?_)
 have hsz : (zH.toArray).size = (bs S ++ [Value.int .i64 (r : Int)]).toArray.size := by simp [bs_len, hS8]; rfl
 refine xsta hB8 rfl rfl (by rw [← hsz]; kernel_rfl) hsz (by simp [bs, Value.oneCell']) (fun w9 hB9 hF9 => ?_)
 obtain ⟨g8, hg8⟩ : ∃ g8, g8 = w7.heap.size := ⟨_, rfl⟩
 rw [← hg8] at hB8 hB9 hF9 ⊢
 have hE9 : Ext w7 w9 := hN hE8 hF9 (by omega)
 have hE79 : Ext w5 w9 := (hE6.t hE7).t hE9
 refine goL ?_
 refine xcvk (r := L) rfl (by omega) (fun w10 c10 cs10 hB10 hc10 hcl10 hcm10 hcz10 hE10 => ?_)
 obtain ⟨g10, hg10⟩ : ∃ g10, g10 = w9.heap.size := ⟨_, rfl⟩
 rw [← hg10] at hB10 ⊢
 obtain ⟨k, hk⟩ : ∃ k, k = u2 % 4 := ⟨_, rfl⟩
 have hk4 : k < 4 := by omega
 obtain ⟨y, hy⟩ : ∃ y, L[k]? = some y := ⟨_, List.getElem?_eq_getElem (by omega)⟩
 have hcy : w10.cell? ⟨g10, 0 + k, none⟩ = some (.int .u8 (y.toNat : Int)) := by
  rw [Nat.zero_add, hB10.cell]
  exact hc10 k _ (by unfold bs; rw [List.getElem?_map, hy]; rfl)
 have hxor : bits .xor .u8 (y.toNat : Int) (x.toNat : Int) = (((y ^^^ x).toNat : Nat) : Int) := by
  rw [UInt8.toNat_xor]
  exact (nbits8 y.toNat x.toNat y.toNat_lt x.toNat_lt)
 repeat' (first | refine xcv (r := (u2 : Int)) rfl rfl rfl hu2 ?_ | refine xdu (r := (k : Int)) (op := .rem) rfl rfl (by simp [dvI]; omega) (by omega) (by omega) (by omega) ?_ | refine xixn (j := k) rfl rfl rfl (by omega) ?_ | refine xbits (op := .xor) rfl rfl (.inr (.inr rfl)) hxor ?_ | refine go1L ?_ | fail)
 refine xstb' hB10 rfl rfl rfl rfl (by omega) (fun w11 hB11 hF11 => ?_)
 rw [Nat.zero_add] at hB11
 have hE11 : Ext w9 w11 := hN hE10 hF11 (by omega)
 obtain ⟨L', hL'⟩ : ∃ L' : Str, L' = L.set k (y ^^^ x) := ⟨_, rfl⟩
 have hLL : L'.length = L.length := by rw [hL', List.length_set]
 have hc11 : ∀ (j : Nat) u, (bs L')[j]? = some u → (cs10.setIfInBounds k (Value.int .u8 (((y ^^^ x).toNat : Nat) : Int)))[j]? = some u := fun j u hu => by
  unfold bs at hu
  rw [hL', List.getElem?_map] at hu
  by_cases e : j = k
  ·subst e
   rw [List.getElem?_set_self (by omega)] at hu
   rw [Array.getElem?_setIfInBounds_self_of_lt (by omega)]
   exact hu
  ·rw [List.getElem?_set_ne (fun h => e h.symm)] at hu
   rw [Array.getElem?_setIfInBounds_ne (fun h => e h.symm)]
   exact hc10 j u (by unfold bs; rw [List.getElem?_map]; exact hu)
 have hR11 : BRow w11 (.slice (some ⟨g10, 0, none⟩) L.length c10) (zs L') := by
  have := Bk.row hB11 hc11 (by omega) hcm10
  rwa [hLL] at this
 have h12 : (zs L').getD 12 0 = r := by
  have e : (zs L').getD 12 0 = (zs L).getD 12 0 := by
   rw [hL', List.getD_eq_getElem?_getD, List.getD_eq_getElem?_getD]
   unfold zs
   rw [List.getElem?_map, List.getElem?_map, List.getElem?_set_ne (by omega)]
  rw [e, hL]
  exact hdl_get hS8 (by omega) [83, 84, 69, 49] rfl
 have hv : ∃ cs a2 cd, headV (zs L') r = .tuple #[.agg cs, .int .i64 a2, .int .i64 cd] ∧ zH.toArray.size = cs.size ∧ cs.all (·.oneCell') = true ∧ (cd = 3 ∧ x.toNat ≠ 0 ∨ cd = 0 ∧ x.toNat = 0) := by
  by_cases hx : x = 0
  ·subst hx
   have e : L' = L := by
    rw [hL', UInt8.xor_zero]
    obtain ⟨hlt, hyy⟩ := List.getElem?_eq_some_iff.1 hy
    rw [← hyy, List.set_getElem_self]
   exact ⟨_, _, _, by rw [e, hL]; exact hdl_whole hS8 (by omega), hsz, by simp [bs, Value.oneCell'], .inr ⟨rfl, rfl⟩⟩
  ·have hne : y ^^^ x ≠ y := fun e => hx (by
    have := congrArg (fun z => y ^^^ z) e
    simpa [← UInt8.xor_assoc] using this)
   exact ⟨zH.toArray, 0, 3, by rw [hL', hL]; exact hdl_turn (y := y) hS8 hk4 (by rw [← hL]; exact hy) hne, rfl, by kernel_rfl, .inl ⟨rfl, fun e => hx (UInt8.toNat_inj.1 e)⟩⟩
 obtain ⟨cs12, a12, cd, hv, hz12, ho12, hcd⟩ := hv
 refine goL ?_
 refine xcall rfl rfl (head_of (r := r) hR11 (by omega) (fun _ => h12) (by omega) (by omega)) (fun v w12 h7 => ?_)
 obtain ⟨rfl, hE12⟩ := h7
 rw [hv]
 refine goL ?_
 refine xalloc (z := .agg zH.toArray) (by kernel_rfl) (fun w13 hB13 hE13 hs13 => ?_)
 refine xsta hB13 rfl rfl (by rw [← hz12]; kernel_rfl) hz12 ho12 (fun w14 hB14 hF14 => ?_)
 have hE14 : Ext w12 w14 := hN hE13 hF14 (Nat.le_refl _)
 refine goL ?_
 refine xcvk (r := L) rfl (by omega) (fun w15 c15 cs15 hB15 hc15 hcl15 hcm15 hcz15 hE15b => ?_)
 obtain ⟨q, hq⟩ : ∃ q, q = u3 % 21 := ⟨_, rfl⟩
 have hq21 : q < 21 := by omega
 have hRq : BRow w15 (.slice (some ⟨w14.heap.size, 0, none⟩) q c15) (zs (L.take q)) := by
  have := Bk.row hB15 (l := L.take q) (c := c15) (fun j u hu => by
   unfold bs at hu
   rw [List.map_take] at hu
   exact hc15 j u (by
    have hj : j < q := by
     have := (List.getElem?_eq_some_iff.1 hu).1
     rw [List.length_take] at this; omega
    rwa [List.getElem?_take_of_lt hj] at hu)) (by rw [List.length_take]; omega) hcm15
  rwa [List.length_take, show min q L.length = q from by omega] at this
 repeat' (first | refine xcv (r := (u3 : Int)) rfl rfl rfl hu3 ?_ | refine xdu (r := (q : Int)) (op := .rem) rfl rfl (by simp [dvI]; omega) (by omega) (by omega) (by omega) ?_ | refine go1LU ?_ | fail)
 refine xsl0 (h := (q : Int)) (z := 1) rfl rfl rfl (by omega) (by omega) (fun A' hA' => ?_)
 rw [hA' _ _ rfl (by omega), Int.toNat_natCast]
 refine goL ?_
 refine xcall rfl rfl (head_of (r := r) hRq (by rw [List.length_take]; omega) (fun hlt => by
  rw [List.length_take] at hlt
  have e : (zs (L.take q)).getD 12 0 = (zs L).getD 12 0 := by
   rw [List.getD_eq_getElem?_getD, List.getD_eq_getElem?_getD]
   unfold zs
   rw [List.getElem?_map, List.getElem?_map, List.getElem?_take_of_lt (by omega)]
  rw [e, hL]
  exact hdl_get hS8 (by omega) [83, 84, 69, 49] rfl) (by omega) (by omega)) (fun v w16 h7 => ?_)
 obtain ⟨rfl, hE16⟩ := h7
 rw [show headV (zs (L.take q)) r = .tuple #[.agg zH.toArray, .int .i64 0, .int .i64 5] from by rw [hL]; exact hdl_cut hS8 hq21]
 refine goL ?_
 refine xalloc (z := .agg zH.toArray) (by kernel_rfl) (fun w17 hB17 hE17 hs17 => ?_)
 refine xsta hB17 rfl rfl (by kernel_rfl) rfl (by kernel_rfl) (fun w18 hB18 hF18 => ?_)
 have hE18 : Ext w16 w18 := hN hE17 hF18 (Nat.le_refl _)
 have hE918 : Ext w9 w18 := ((((hE11.t hE12).t hE14).t hE15b).t hE16).t hE18
 have hE018 : Ext w w18 := (hE5.t hE79).t hE918
 refine goL ?_
 refine xcall rfl rfl (Rn.told_does w18 (Rn.TabI.init (hP.ext hE018))) (fun v w19 h7 => ?_)
 obtain ⟨rfl, hE19⟩ := h7
 have hE919 := hE918.t hE19
 have hB8' : Blk w19 g8 33 (bs S ++ [Value.int .i64 (r : Int)]).toArray := hB9.ext hE919
 have hc8 : w19.cell? ⟨g8, 0 + 8, none⟩ = some (.int .i64 (r : Int)) := by
  rw [hB8'.cell]
  simp [bs, hS8]
 have hB1'' : Blk w19 g 22 (bs S).toArray := hB1.ext ((hE15.t hE79).t hE919)
 have hldz : ∀ (j : Nat) u, (bs S)[j]? = some u → w19.cell? ⟨g8, 0 + 0 + j, none⟩ = some u := fun j u hu => by
  rw [hB8'.cell]
  have hj := (List.getElem?_eq_some_iff.1 hu).1
  simp [List.getElem?_append_left hj, hu]
 rcases hcd with ⟨rfl, hx0⟩ | ⟨rfl, hx0⟩
 all_goals
  refine goL ?_
  refine xldz (cs := bs S) rfl (by rw [bs_len, hS8]; kernel_rfl) hldz ?_
  refine goL ?_
  refine xlda hB1'' rfl (by rw [List.size_toArray, bs_len, hS8]; kernel_rfl) ?_
  refine goL ?_
  refine xeq8 (l := zs S) (by rw [zs_len, hS8]) (by rw [← bs_zs]; rfl) (by rw [← bs_zs]; rfl) ?_
  repeat' (first | refine xbeq rfl rfl ?_ | refine go1L ?_ | fail)
  exact tret1 rfl rfl ⟨rfl, hE018.t hE19⟩
end
end Go.Proofs.YtoheknblphcloaaGreatDoor.Eng
