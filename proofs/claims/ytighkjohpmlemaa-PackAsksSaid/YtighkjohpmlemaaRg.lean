/-
  The reference's Out: Put. Plain law: bits laid into bytes one by one. The reference's Out: Bytes. The reference's PutCode. The reference's In: Left, Get; single. The reference's In: Left, Get; single. The reference's single. Plain law: the search for a code, by its number among those of its length.
-/
import Derived.Test.YtighkjohpmlemaaRf
import Derived.Test.YtighkjohpmlemaaEngH
/-! The reference's Out: Put. -/
namespace Go.Proofs.Ytighkjohpmlemaa
open Go.RowKit
namespace Eng
attribute [local irreducible] xs T

/-- Block g is the reference's Out, which holds these bits. -/
structure ROut (w : World) (g : Nat) (bs : List Nat) : Prop where
  ex : ∃ v, Blk w g 38 #[v] ∧ Own w (g + 1) 5 v (bs.map fun (b : Nat) => Value.int .u8 (b : Int))
  bits : Bits bs
theorem ROut.lt {w : World} {g : Nat} {bs : List Nat} (h : ROut w g bs) : g < w.heap.size := by
  obtain ⟨v, hB, _⟩ := h.ex
  exact hB.lt
theorem ROut.ext {w w' : World} {g : Nat} {bs : List Nat} (h : ROut w g bs) (hf : Ext w w') : ROut w' g bs := by
  obtain ⟨v, hB, hO⟩ := h.ex
  exact ⟨⟨v, hB.ext hf, hO.ext hf⟩, h.bits⟩

structure RpI (g : Nat) (bs : List Nat) (n L : Nat) (w0 : World) (m : Nat) (w : World) : Prop where
  le : m ≤ L
  out : ROut w g (bs ++ (bitsOf n L).take (L - m))
  ext : Fr (fun b => g ≤ b) w0 w

set_option maxRecDepth 20000 in
set_option maxHeartbeats 4000000 in
theorem rput_does (w : World) (g : Nat) (bs : List Nat) (n L : Nat) (ho : ROut w g bs) (hn : n < 2 ^ 64) (hL : L ≤ 32) (hlen : bs.length ≤ 2 ^ 40) :
    Does Try.prog 54 #[.pointer (some ⟨g, 0, none⟩), .int .u64 (n : Int), .int .i64 (L : Int)] w fun r w' => r = .int .i64 0 ∧ ROut w' g (bs ++ bitsOf n L) ∧ Fr (fun b => g ≤ b) w w' := by
  refine does3 Try.func54 rfl (by kernel_rfl) ?_
  refine go ?_
  refine tloop (α := Nat) (fun m => [(0, .pointer (some ⟨g, 0, none⟩)), (1, .int .u64 (n : Int)), (7, .int .i64 ((m : Int) - 1))]) (RpI g bs n L w) (fun m => m) L (sub ⟨rfl, rfl, rfl⟩) ⟨Nat.le_refl _, by simpa using ho, Fr.refl _ _⟩ ?_
  rintro m w1 ⟨hm, hout, hF1⟩
  cases m with
  | zero =>
    refine go ?_
    refine tret1 rfl rfl ⟨rfl, by simpa [List.take_of_length_le, length_bitsOf] using hout, hF1⟩
  | succ m =>
    obtain ⟨v, hB, hO⟩ := hout.ex
    have hc : w1.cell? ⟨g, 0, none⟩ = some v := hB.cell 0
    have hgl := hB.lt
    have hbl : (bs ++ (bitsOf n L).take (L - (m + 1))).length ≤ 2 ^ 40 + 32 := by simp [length_bitsOf]; omega
    have hq : n / 2 ^ m < 2 ^ 64 := Nat.lt_of_le_of_lt (Nat.div_le_self _ _) hn
    obtain ⟨b, hb⟩ : ∃ b, b = n / 2 ^ m % 2 := ⟨_, rfl⟩
    have hb2 : b < 2 := by omega
    have hand : bits .and .u64 ((n / 2 ^ m : Nat) : Int) 1 = ((b : Nat) : Int) := by
      have := u64_and_nat (n / 2 ^ m) 1 hq (by omega)
      rw [nat_mask1] at this
      rw [hb]; exact this
    have htk : (bitsOf n L).take (L - m) = (bitsOf n L).take (L - (m + 1)) ++ [b] := by
      rw [show L - m = (L - (m + 1)) + 1 from by omega, bitsOf_take_succ n L _ (by omega), show L - (L - (m + 1)) - 1 = m from by omega, hb]
    repeat' (first | refine xcvu rfl rfl rfl (by omega) (by omega) ?_ | refine go1 ?_ | fail)
    refine xshr rfl rfl (by omega) (by simp [IntKind.bits]; omega) ?_
    refine xbits (r := ((b : Nat) : Int)) rfl rfl (.inl rfl) (by
      rw [show ((((m + 1 : Nat) : Int) - 1).toNat) = m from by omega, shr_nat]; exact hand) ?_
    refine xcv (r := ((b : Nat) : Int)) rfl rfl rfl (by rw [u8_wrap]; omega) ?_
    refine xbs sl_bytes rfl rfl (by decide) (by decide) (fun u hu => by rw [List.mem_singleton.1 hu]; rfl) (fun w2 hB2 hE2 hs2 => ?_)
    refine xap sl_bytes rfl rfl (hO.ext hE2) rfl (news := [.int .u8 (b : Int)]) (one_row hB2) rfl (fun u hu => by rw [List.mem_singleton.1 hu]; rfl) (by unfold maxLen; rw [List.length_map]; omega) (by rw [List.length_map]; omega) (by omega) (fun v3 w3 hO3 hF3 _ => ?_)
    have hB3 := (hB.ext hE2).fr hF3 (fun e => by have := (hO.blk e).1; omega)
    refine go ?_
    refine xstb hB3 rfl rfl rfl (by obtain ⟨A9, c9, e9, _⟩ := hO3.form; rw [e9]; rfl) rfl (fun w4 hB4 hF4 => ?_)
    refine go ?_
    have hF14 : Fr (fun b => g ≤ b) w1 w4 := (hE2.fr.t (hF3.mono fun k hk e => by have := (hO.blk e).1; omega)).t (hF4.mono fun k hk e => by have : k = g := e; omega)
    refine tfin ⟨m, sub ⟨rfl, rfl, ieq (by omega)⟩, ⟨by omega, ⟨⟨v3, hB4, ?_⟩, ?_⟩, hF1.t hF14⟩, (by show m < m + 1; omega)⟩
    · rw [htk, ← List.append_assoc, List.map_append]
      exact hO3.fr hF4 fun k hk e => by have := (hO3.blk hk).1; have : k = g := e; omega
    · rw [htk, ← List.append_assoc]
      intro x hx
      rcases List.mem_append.1 hx with h | h
      · exact hout.bits x h
      · have : x = b := by simpa using h
        omega
end Eng
end Go.Proofs.Ytighkjohpmlemaa

/-! Plain law: bits laid into bytes one by one. -/
namespace Go.Proofs.Ytighkjohpmlemaa
open Go.RowKit
namespace Eng

/-- The bytes when the first i bits are laid. -/
def pkTo (bs : List Nat) (i : Nat) : List Int := (List.range ((bs.length + 7) / 8)).map fun k => (byte8 ((bs.take i).drop (8 * k)) : Int)
@[simp] theorem pkTo_len (bs : List Nat) (i : Nat) : (pkTo bs i).length = (bs.length + 7) / 8 := by simp [pkTo]
theorem pkTo_all (bs : List Nat) : pkTo bs bs.length = pk bs := by unfold pkTo pk; rw [List.take_length]
theorem pkTo_zero (bs : List Nat) : pkTo bs 0 = List.replicate ((bs.length + 7) / 8) 0 := by
  apply List.ext_getElem
  · simp
  · intro k h1 h2
    simp only [pkTo, List.getElem_map, List.getElem_replicate, List.take_zero, List.drop_nil]
    decide
theorem byte8_short (m : List Nat) (h : m.length < 8) : byte8 m = val m * 2 ^ (8 - m.length) := by
  unfold byte8
  rw [List.take_of_length_le (by omega), val_append_zeros]
theorem byte8_snoc (m : List Nat) (b : Nat) (h : m.length < 8) : byte8 (m ++ [b]) = byte8 m + b * 2 ^ (7 - m.length) := by
  rw [byte8_short m h]
  unfold byte8
  rw [List.take_of_length_le (by simp; omega), val_append_zeros, val_snoc, List.length_append, List.length_singleton, show 8 - m.length = (7 - m.length) + 1 from by omega, show 8 - (m.length + 1) = 7 - m.length from by omega, Nat.pow_succ, Nat.add_mul]
  generalize 2 ^ (7 - m.length) = p
  rw [Nat.mul_comm p 2, ← Nat.mul_assoc, Nat.mul_comm (val m) 2]
theorem pkTo_get (bs : List Nat) (i k : Nat) (h : k < (bs.length + 7) / 8) : (pkTo bs i).getD k 0 = (byte8 ((bs.take i).drop (8 * k)) : Int) := by
  simp [pkTo, List.getD_eq_getElem?_getD, h]
theorem pkTo_set {bs : List Nat} {i b : Nat} (hb : bs[i]? = some b) (y : Nat) (hy : y = byte8 ((bs.take i).drop (8 * (i / 8))) + b * 2 ^ (7 - i % 8)) : (pkTo bs i).set (i / 8) (y : Int) = pkTo bs (i + 1) := by
  have hi : i < bs.length := (List.getElem?_eq_some_iff.1 hb).1
  have htk : bs.take (i + 1) = bs.take i ++ [b] := by rw [List.take_add_one, hb]; rfl
  apply List.ext_getElem
  · simp
  · intro k h1 h2
    rw [List.getElem_set]
    simp only [pkTo, List.getElem_map, List.getElem_range]
    by_cases e : i / 8 = k
    · subst e
      rw [if_pos rfl, htk, List.drop_append_of_le_length (by rw [List.length_take]; omega)]
      have hm : ((bs.take i).drop (8 * (i / 8))).length = i % 8 := by rw [List.length_drop, List.length_take]; omega
      rw [byte8_snoc _ b (by omega), hy, hm]
    · rw [if_neg e, htk]
      congr 1
      rcases Nat.lt_or_ge (i / 8) k with h | h
      · rw [List.drop_eq_nil_of_le (by rw [List.length_take]; omega), List.drop_eq_nil_of_le (by rw [List.length_append, List.length_take]; simp; omega)]
      · rw [List.drop_append_of_le_length (by rw [List.length_take]; omega)]
        unfold byte8
        have hl : 8 ≤ ((bs.take i).drop (8 * k)).length := by rw [List.length_drop, List.length_take]; omega
        rw [List.take_append_of_le_length hl, List.length_append, show 8 - ((bs.take i).drop (8 * k)).length = 0 from by omega, show 8 - (((bs.take i).drop (8 * k)).length + [b].length) = 0 from by omega]
end Eng
end Go.Proofs.Ytighkjohpmlemaa

/-! The reference's Out: Bytes. -/
namespace Go.Proofs.Ytighkjohpmlemaa
open Go.RowKit
namespace Eng
attribute [local irreducible] xs T

section
variable {hs : List Nat} {H : World → Prop} {full : Array Oper} {K : Env → World → Prop} {rest : List Oper} {env : Env} {w : World} {ty : TypeId} {pos : String} {af : Array Edge}
theorem xsty {t : TypeId} {x y : Operand} {g i : Nat} {l : List Int} {z : Int} (hB : BB w g l) (hx : evo env x = some (.pointer (some ⟨g, i, none⟩))) (hy : evo env y = some (.int .u8 z)) (ht : one t = true) (hi : i < l.length)
    (h : ∀ w', BB w' g (l.set i z) → Fr (· = g) w w' → xs Try.prog isI isS hs H full K rest env w') (hH : ∀ w', Fr (· = g) w w' → H w' := by intros; trivial) : xs Try.prog isI isS hs H full K (⟨none, .store t x y, ty, pos, af, none⟩ :: rest) env w := by
  refine xstb hB hx hy ht rfl (by simp; omega) (fun w' hB' hF => h w' ?_ hF) hH
  unfold BB
  rw [List.map_set, ← List.setIfInBounds_toArray]
  exact hB'
end
theorem BB.cell {w : World} {b : Nat} {l : List Int} (h : BB w b l) {i : Nat} (hi : i < l.length) : w.cell? ⟨b, i, none⟩ = some (.int .u8 (l.getD i 0)) := by
  rw [Blk.cell h, List.getD_eq_getElem?_getD, List.getElem?_eq_getElem hi]
  simp [hi]
theorem BB.new {w : World} {b n : Nat} (h : Blk w b 5 (Array.replicate n (.int .u8 0))) : BB w b (List.replicate n 0) := by
  unfold BB
  rw [List.map_replicate, List.toArray_replicate]; exact h

set_option maxRecDepth 20000 in
set_option maxHeartbeats 4000000 in
theorem rbytes_does (w : World) (g : Nat) (bs : List Nat) (ho : ROut w g bs) (hlen : bs.length ≤ 2 ^ 40) :
    Does Try.prog 25 #[.pointer (some ⟨g, 0, none⟩)] w fun r w' => r = .string (strOfNums (pk bs)) ∧ Ext w w' := by
  refine does1 Try.func25 rfl (by kernel_rfl) ?_
  obtain ⟨v, hB, hO⟩ := ho.ex
  have hbits := ho.bits
  obtain ⟨A, c, rfl, hc1, hc2, hA⟩ := hO.row.op
  rw [List.length_map] at hB hc1 hA
  have hgl := hB.lt
  have hc : w.cell? ⟨g, 0, none⟩ = some (.slice A bs.length c) := by rw [hB.cell]; rfl
  refine go ?_
  refine xmk sl_bytes rfl rfl rfl (by omega) (by omega) (by omega) (fun w1 hB1 hE1 hs1 => ?_)
  have hn : (((bs.length : Int) + 7) / 8).toNat = (bs.length + 7) / 8 := by omega
  rw [hn] at hB1 ⊢
  obtain ⟨gb, hgb⟩ : ∃ gb, gb = w.heap.size := ⟨_, rfl⟩
  rw [← hgb] at hB1 hs1 ⊢
  refine go ?_
  refine tloop (α := Nat) (fun i => [(0, .pointer (some ⟨g, 0, none⟩)), (3, .slice (some ⟨gb, 0, none⟩) ((bs.length + 7) / 8) ((bs.length + 7) / 8)), (4, .int .i64 (i : Int))]) (fun i w' => i ≤ bs.length ∧ BB w' gb (pkTo bs i) ∧ Ext w w') (fun i => bs.length - i) 0 (sub ⟨rfl, rfl, rfl⟩) ⟨Nat.zero_le _, by rw [pkTo_zero]; exact BB.new hB1, hE1⟩ ?_
  rintro i w2 ⟨hi, hBB, hE2⟩
  have hc2' := hE2.cell hc
  by_cases hlt : i < bs.length
  · obtain ⟨ba, oa, rfl, _, hcell⟩ := hA.at_ (by omega)
    obtain ⟨b, hb⟩ : ∃ b, bs[i]? = some b := ⟨_, List.getElem?_eq_getElem hlt⟩
    have hb2 : b < 2 := hbits b (List.mem_of_getElem? hb)
    have cb : w2.cell? ⟨ba, oa + i, none⟩ = some (.int .u8 (b : Int)) := hE2.cell (hcell i _ (by rw [List.getElem?_map, hb]; rfl))
    obtain ⟨x, hx⟩ : ∃ x, x = byte8 ((bs.take i).drop (8 * (i / 8))) := ⟨_, rfl⟩
    have hm : ((bs.take i).drop (8 * (i / 8))).length = i % 8 := by rw [List.length_drop, List.length_take]; omega
    have hxe : x = val ((bs.take i).drop (8 * (i / 8))) * 2 ^ (8 - i % 8) := by rw [hx, byte8_short _ (by omega), hm]
    have hx256 : x < 256 := by rw [hx]; exact byte8_lt _ (fun y hy => hbits y (List.mem_of_mem_take (List.mem_of_mem_drop hy)))
    have cx : w2.cell? ⟨gb, i / 8, none⟩ = some (.int .u8 (x : Int)) := by
      rw [hBB.cell (by rw [pkTo_len]; omega), pkTo_get _ _ _ (by omega), ← hx]
    have hpw : 2 ^ (7 - i % 8) ≤ 128 := Nat.pow_le_pow_right (by decide) (show 7 - i % 8 ≤ 7 by omega)
    obtain ⟨p, hp⟩ : ∃ p, p = 2 ^ (7 - i % 8) := ⟨_, rfl⟩
    rw [← hp] at hpw
    have hbp : b * p ≤ 128 := by
      have : b * p ≤ 1 * p := Nat.mul_le_mul_right p (by omega)
      omega
    have hor : bits .or .u8 (x : Int) ((b * p : Nat) : Int) = ((x + b * p : Nat) : Int) := by
      rw [u8_or_nat _ _ hx256 (by omega)]
      congr 1
      refine nat_join (8 - i % 8) x (b * p) (by rw [hxe]; exact Nat.mul_mod_left _ _) ?_
      rw [show 8 - i % 8 = (7 - i % 8) + 1 from by omega, Nat.pow_succ, ← hp]
      have h0 : 0 < p := by rw [hp]; exact Nat.pow_pos (by decide)
      have : b * p ≤ 1 * p := Nat.mul_le_mul_right p (by omega)
      omega
    have hset := pkTo_set hb (x + b * p) (by rw [← hx, hp])
    repeat' (first | refine xisq (i / 8) (i / 8) rfl rfl rfl (by omega) (by omega) (by omega) ?_ | refine xcvu rfl rfl rfl (by omega) (by omega) ?_ | refine go1 ?_ | fail)
    refine xshl (r := ((b * p : Nat) : Int)) rfl rfl (by omega) (by simp [IntKind.bits]; omega) (by
      rw [show (7 - ((i : Int) % 8)).toNat = 7 - i % 8 from by omega]
      have e : (b : Int) * 2 ^ (7 - i % 8) = ((b * p : Nat) : Int) := by rw [hp]; simp
      rw [e, u8_wrap]
      congr 1
      omega) ?_
    refine xbits (r := ((x + b * p : Nat) : Int)) rfl rfl (.inr (.inl rfl)) hor ?_
    refine xisq (i / 8) (i / 8) rfl rfl rfl (by omega) (by omega) (by omega) ?_
    refine xsty hBB rfl rfl rfl (by rw [pkTo_len]; omega) (fun w3 hBB3 hF3 => ?_)
    rw [hset] at hBB3
    refine go ?_
    exact tfin ⟨i + 1, sub ⟨rfl, rfl, rfl⟩, ⟨by omega, hBB3, Ext.te hE2 ((Fr.drew _ _).t hF3) fun j hj e => by omega⟩, (by show bs.length - (i + 1) < bs.length - i; omega)⟩
  · obtain rfl : i = bs.length := by omega
    rw [pkTo_all] at hBB
    have hpl := length_pk bs
    have hr := hBB.row (by unfold maxLen; omega)
    rw [hpl] at hr
    refine go ?_
    refine xcbs rfl hr ?_
    refine go ?_
    exact tret1 rfl rfl ⟨rfl, hE2⟩
end Eng
end Go.Proofs.Ytighkjohpmlemaa

/-! The reference's PutCode. -/
namespace Go.Proofs.Ytighkjohpmlemaa
open Go.RowKit
namespace Eng
attribute [local irreducible] xs T

set_option maxRecDepth 20000 in
set_option maxHeartbeats 4000000 in
theorem rputc_ok (w : World) (g : Nat) (bs : List Nat) (v : Value) (zs : List Int) (s q : Nat) (ho : ROut w g bs) (hv : IRow w v zs) (hg : ∀ b, v.ownBlock = some b → b < g) (hm : mayB zs = true) (hs : zs[s]? = some (q : Int)) (hq : 0 < q) (hlen : bs.length ≤ 2 ^ 40) :
    Does Try.prog 23 #[.pointer (some ⟨g, 0, none⟩), v, .int .i64 (s : Int)] w fun r w' => r = .int .i64 0 ∧ ROut w' g (bs ++ bitsOf (codeB zs s) q) ∧ Fr (fun b => g ≤ b) w w' := by
  have hl := may_len hm
  have hz := may_lens hm
  have hrow := hv
  obtain ⟨A, c, rfl, hcc, hcm, hA⟩ := hv.op
  have hlt : s < zs.length := (List.getElem?_eq_some_iff.1 hs).1
  obtain ⟨b, o, z, rfl, hb, hzs, hcell, _⟩ := hA.at_ hlt
  obtain rfl : z = (q : Int) := by rw [hs] at hzs; injection hzs with h; exact h.symm
  have hq12 := (hz _ (List.mem_of_getElem? hs)).2
  have hbg : b < g := hg b rfl
  have hcl := code_lt hm hs hq
  have hcl64 : codeB zs s < 2 ^ 64 := Nat.lt_of_lt_of_le hcl (Nat.pow_le_pow_right (by decide) (by omega))
  refine does3 Try.func23 rfl (by kernel_rfl) ?_
  refine go ?_
  refine xcall rfl rfl (mayLens_does w _ zs hrow (by omega)) (fun r w1 h1 => ?_)
  obtain ⟨rfl, rfl⟩ := h1
  rw [hm]
  refine go ?_
  refine tdrawH [36] (fun w' => w'.cell? ⟨b, o + s, none⟩ = some (.int .i64 (q : Int))) (by kernel_rfl) (by decide +kernel) hcell ?_
  refine go ?_
  refine xcall rfl rfl (rcodes_does w.drew _ zs hrow hm) (fun r w2 h2 => ?_) (fun r w2 h2 => by obtain ⟨b2, _, _, _, hE2⟩ := h2; exact hE2.cell (w := w.drew) hcell)
  obtain ⟨b2, rfl, hb2, hU2, hE2⟩ := h2
  have hE : Ext w w2 := (Fr.drew _ _).te hE2
  have hcode : (codesB zs)[s]? = some (codeB zs s : Int) := by simp [codesB, hlt]
  have hcc2 : w2.cell? ⟨b2, 0 + s, none⟩ = some (.int .u64 (codeB zs s : Int)) := by
    rw [Nat.zero_add, Blk.cell hU2]; simp [hcode]
  repeat' (first | refine xldh rfl rfl (fun _ h => h) ?_ | refine go1 ?_ | fail)
  refine xcall rfl rfl (rput_does w2 g bs (codeB zs s) q (ho.ext hE) hcl64 (by omega) hlen) (fun r w3 h3 => ?_) (fun r w3 h3 => h3.2.2.cell (hE.cell hcell) (by show ¬ g ≤ b; omega))
  obtain ⟨rfl, hO, hF⟩ := h3
  refine go ?_
  exact tret1 rfl rfl ⟨rfl, hO, hE.fr.t hF⟩

set_option maxRecDepth 20000 in
set_option maxHeartbeats 4000000 in
theorem rputc_no (w : World) (g : Nat) (v : Value) (zs : List Int) (s : Int) (hv : IRow w v zs) (hl : zs.length ≤ 1000) (hok : okPut zs s = false) (hs1 : -9223372036854775808 ≤ s) (hs2 : s ≤ 9223372036854775807) :
    Does Try.prog 23 #[.pointer (some ⟨g, 0, none⟩), v, .int .i64 s] w fun r w' => r = .int .i64 1 ∧ w = w' := by
  have hrow := hv
  obtain ⟨A, c, rfl, hcc, hcm, hA⟩ := hv.op
  refine does3 Try.func23 rfl (by kernel_rfl) ?_
  refine go ?_
  refine xcall rfl rfl (mayLens_does w _ zs hrow hl) (fun r w1 h1 => ?_)
  obtain ⟨rfl, rfl⟩ := h1
  cases hm : mayB zs with
  | false =>
    refine go ?_
    exact tret1 rfl rfl ⟨rfl, rfl⟩
  | true =>
    by_cases h0 : s < 0
    · refine go ?_
      exact tret1 rfl rfl ⟨rfl, rfl⟩
    by_cases h1 : (zs.length : Int) ≤ s
    · refine go ?_
      exact tret1 rfl rfl ⟨rfl, rfl⟩
    obtain ⟨n, rfl⟩ := Int.eq_ofNat_of_zero_le (show 0 ≤ s by omega)
    obtain ⟨b, o, z, rfl, hb, hz, hcell, _⟩ := hA.at_ (show n < zs.length by omega)
    have hz0 : z = 0 := by
      simp only [okPut, hm, Int.toNat_natCast, hz, Bool.true_and] at hok
      simpa using hok
    subst hz0
    refine go ?_
    exact tret1 rfl rfl ⟨rfl, rfl⟩
end Eng
end Go.Proofs.Ytighkjohpmlemaa

/-! The reference's In: Left, Get; single. -/
namespace Go.Proofs.Ytighkjohpmlemaa
open Go.RowKit
namespace Eng

theorem str_get (zs : List Int) (j : Nat) (h : j < (strOfNums zs).size) (h' : j < zs.length) : (strOfNums zs)[j] = UInt8.ofNat (zs[j]).toNat := by
  have : (strOfNums zs)[j] = (strOfNums zs).data[j]'h := rfl
  rw [this]
  simp [strOfNums]

theorem str_val {zs : List Int} {j : Nat} {z : Int} (hz : zs[j]? = some z) (hb : 0 ≤ z ∧ z < 256) (i : Nat) (hi : i = j) (h : i < (strOfNums zs).size) : (((strOfNums zs)[i]'h).toNat : Int) = z := by
  subst hi
  have hlt : i < zs.length := (List.getElem?_eq_some_iff.1 hz).1
  rw [str_get zs i h hlt]
  rw [List.getElem?_eq_getElem hlt] at hz
  injection hz with hz
  rw [hz]
  simp
  omega
theorem run_si {P : Program} {w : World} {t : TypeId} {k : IntKind} {zs : List Int} {j : Nat} {z : Int} (ht : P.underlying t = some .string) (hz : zs[j]? = some z) (hb : 0 ≤ z ∧ z < 256) : (Instr.index t (.string (strOfNums zs)) (.int k (j : Int))).run P w = .ok (.int .u8 z) w := by
  have hlt : j < zs.length := (List.getElem?_eq_some_iff.1 hz).1
  have hsz := strOfNums_size zs
  rw [run_index_string w t (strOfNums zs) k (j : Int) ht, dif_pos ⟨by omega, by omega⟩, str_val hz hb _ (by omega)]

section
variable {hs : List Nat} {H : World → Prop} {full : Array Oper} {K : Env → World → Prop} {rest : List Oper} {env : Env} {w : World} {d : Tmp} {ty : TypeId} {pos : String} {af : Array Edge}
/-- A byte of a string. -/
theorem xsi {t : TypeId} {x i : Operand} {k : IntKind} {zs : List Int} {jz z : Int} (j : Nat) (ht : isS t = true) (hx : evo env x = some (.string (strOfNums zs))) (hi : evo env i = some (.int k jz)) (hj : jz = j) (hz : zs[j]? = some z) (hb : 0 ≤ z ∧ z < 256)
    (h : xs Try.prog isI isS hs H full K rest ((d, .int .u8 z) :: env) w) : xs Try.prog isI isS hs H full K (⟨some d, .index t x i, ty, pos, af, none⟩ :: rest) env w := by
  subst hj
  refine x_gen rfl (by simp [opsOK, Op.operands, hx, hi]) ⟨_, fun w' => ?_, h⟩
  have hr := run_si (P := Try.prog) (w := w') (t := t) (k := k) (str_spec ht) hz hb
  simp [execOp, ev_of hx, ev_of hi, hr]
end
end Eng
end Go.Proofs.Ytighkjohpmlemaa

/-! The reference's In: Left, Get; single. -/
namespace Go.Proofs.Ytighkjohpmlemaa
open Go.RowKit
namespace Eng
attribute [local irreducible] xs T

/-- Block g is the reference's In: these bytes, p bits taken. -/
structure RIn (w : World) (g : Nat) (zs : List Int) (p : Nat) : Prop where
  blk : Blk w g 51 #[.string (strOfNums zs), .int .i64 (p : Int)]
  byts : Byts zs
  le : p ≤ 8 * zs.length
theorem RIn.ext {w w' : World} {g : Nat} {zs : List Int} {p : Nat} (h : RIn w g zs p) (hf : Ext w w') : RIn w' g zs p := ⟨h.blk.ext hf, h.byts, h.le⟩

set_option maxRecDepth 20000 in
set_option maxHeartbeats 2000000 in
theorem rleft_does (w : World) (g : Nat) (zs : List Int) (p : Nat) (hi : RIn w g zs p) (hl : zs.length ≤ 2 ^ 40) :
    Does Try.prog 58 #[.pointer (some ⟨g, 0, none⟩)] w fun r w' => r = .int .i64 ((8 * zs.length - p : Nat) : Int) ∧ Ext w w' := by
  refine does1 Try.func58 rfl (by kernel_rfl) ?_
  have c0 : w.cell? ⟨g, 0, none⟩ = some (.string (strOfNums zs)) := hi.blk.cell 0
  have c1 : w.cell? ⟨g, 1, none⟩ = some (.int .i64 (p : Int)) := hi.blk.cell 1
  have hsz := strOfNums_size zs
  have hle := hi.le
  refine go ?_
  refine tret1 rfl rfl ⟨?_, Fr.drew _ _⟩
  congr 1
  omega

structure RgI (g : Nat) (zs : List Int) (p L : Nat) (w0 : World) (j : Nat) (w : World) : Prop where
  le : j ≤ L
  inr : RIn w g zs (p + j)
  fr : Fr (· = g) w0 w

set_option maxRecDepth 20000 in
set_option maxHeartbeats 4000000 in
theorem rget_does (w : World) (g : Nat) (zs : List Int) (p L : Nat) (hi : RIn w g zs p) (hL : L ≤ 32) (hp : L ≤ 8 * zs.length - p) (hl : zs.length ≤ 2 ^ 40) :
    Does Try.prog 59 #[.pointer (some ⟨g, 0, none⟩), .int .i64 (L : Int)] w fun r w' => r = .tuple #[.int .u64 (val (unpk zs p L) : Int), .int .i64 0] ∧ RIn w' g zs (p + L) ∧ Fr (· = g) w w' := by
  refine does2 Try.func59 rfl (by kernel_rfl) ?_
  have hle := hi.le
  refine go ?_
  refine xcall rfl rfl (rleft_does w g zs p hi hl) (fun r w1 h1 => ?_)
  obtain ⟨rfl, hE1⟩ := h1
  refine go ?_
  refine tloop (α := Nat) (fun j => [(0, .pointer (some ⟨g, 0, none⟩)), (1, .int .i64 (L : Int)), (6, .int .u64 (val (unpk zs p j) : Int)), (7, .int .i64 (j : Int))]) (RgI g zs p L w) (fun j => L - j) 0 (sub ⟨rfl, rfl, rfl, rfl⟩) ⟨Nat.zero_le _, hi.ext hE1, hE1.fr⟩ ?_
  rintro j w2 ⟨hj, hin, hF2⟩
  by_cases hlt : j < L
  · have c0 : w2.cell? ⟨g, 0, none⟩ = some (.string (strOfNums zs)) := hin.blk.cell 0
    have c1 : w2.cell? ⟨g, 1, none⟩ = some (.int .i64 ((p + j : Nat) : Int)) := hin.blk.cell 1
    have hq : (p + j) / 8 < zs.length := by omega
    obtain ⟨z, hz⟩ : ∃ z, zs[(p + j) / 8]? = some z := ⟨_, List.getElem?_eq_getElem hq⟩
    have hzb := hi.byts z (List.mem_of_getElem? hz)
    obtain ⟨m, rfl⟩ := Int.eq_ofNat_of_zero_le hzb.1
    have hv : val (unpk zs p j) < 2 ^ 63 := Nat.lt_of_lt_of_le (val_lt (bits_unpk zs p j)) (by rw [length_unpk]; exact Nat.pow_le_pow_right (by decide) (by omega))
    have hbit := bitAt_def zs (p + j) _ hz
    rw [Int.toNat_natCast] at hbit
    have hsucc : val (unpk zs p (j + 1)) = 2 * val (unpk zs p j) + m / 2 ^ (7 - (p + j) % 8) % 2 := by rw [unpk_succ, val_snoc, hbit]
    refine go ?_
    refine xshl (r := 2 * (val (unpk zs p j) : Int)) rfl rfl (by decide) (by decide) (by
      have e : (val (unpk zs p j) : Int) * 2 ^ (1 : Int).toNat = 2 * (val (unpk zs p j) : Int) := by show (val (unpk zs p j) : Int) * 2 = _; omega
      rw [e]; exact u64_in _ (by omega) (by omega)) ?_
    repeat' (first | refine xcvu rfl rfl rfl (by omega) (by omega) ?_ | refine xsi ((p + j) / 8) rfl rfl rfl (by omega) hz hzb ?_ | refine go1 ?_ | fail)
    refine xshr rfl rfl (by omega) (by simp [IntKind.bits]; omega) ?_
    refine xbits (r := bits .and .u8 ((m / 2 ^ (7 - (p + j) % 8) : Nat) : Int) 1) rfl rfl (.inl rfl) (by
      rw [show (7 - (((p + j : Nat) : Int)) % 8).toNat = 7 - (p + j) % 8 from by omega, shr_nat]) ?_
    refine xcv (r := IntKind.u64.wrap (bits .and .u8 ((m / 2 ^ (7 - (p + j) % 8) : Nat) : Int) 1)) rfl rfl rfl rfl ?_
    have hm8 : m / 2 ^ (7 - (p + j) % 8) < 256 := Nat.lt_of_le_of_lt (Nat.div_le_self _ _) (by omega)
    refine xbits (r := ((2 * val (unpk zs p j) + m / 2 ^ (7 - (p + j) % 8) % 2 : Nat) : Int)) rfl rfl (.inr (.inl rfl)) (bit_or8 _ _ hv hm8) ?_
    rw [← hsucc]
    refine go ?_
    refine xstb hin.blk rfl rfl rfl rfl rfl (fun w3 hB3 hF3 => ?_)
    refine go ?_
    exact tfin ⟨j + 1, sub ⟨rfl, rfl, rfl, rfl⟩, ⟨by omega, ⟨hB3, hi.byts, by omega⟩, hF2.t ((Fr.drew _ _).t hF3)⟩, (by show L - (j + 1) < L - j; omega)⟩
  · obtain rfl : j = L := by omega
    refine go ?_
    exact tret2 rfl rfl rfl ⟨rfl, hin, hF2⟩
end Eng
end Go.Proofs.Ytighkjohpmlemaa

/-! The reference's single. -/
namespace Go.Proofs.Ytighkjohpmlemaa
open Go.RowKit
namespace Eng
attribute [local irreducible] xs T

set_option maxRecDepth 20000 in
set_option maxHeartbeats 2000000 in
theorem rsingle_does (w : World) (v : Value) (zs : List Int) (hv : IRow w v zs) :
    Does Try.prog 60 #[v] w fun r w' => r = .bool (decide (npos zs = 1)) ∧ w = w' := by
  refine does1 Try.func60 rfl (by kernel_rfl) ?_
  obtain ⟨A, c, rfl, hcc, hcm, hA⟩ := hv.op
  refine go ?_
  refine tloop (α := Nat) (fun i => [(0, .slice A zs.length c), (3, .int .i64 (npos (zs.take i) : Int)), (4, .int .i64 (i : Int))]) (fun i w' => i ≤ zs.length ∧ w = w') (fun i => zs.length - i) 0 (sub ⟨rfl, rfl, rfl⟩) ⟨Nat.zero_le _, rfl⟩ ?_
  rintro i _ ⟨hi, rfl⟩
  have hnp := npos_le (zs.take i)
  rw [List.length_take] at hnp
  by_cases hlt : i < zs.length
  · obtain ⟨b, o, z, rfl, _, hz, hcell, _⟩ := hA.at_ hlt
    have t2 := npos_take hz
    by_cases hp : 0 < z
    · rw [if_pos hp] at t2
      refine go ?_
      exact tfin ⟨i + 1, sub ⟨rfl, ieq (by rw [t2]; omega), rfl⟩, ⟨by omega, rfl⟩, (by show zs.length - (i + 1) < zs.length - i; omega)⟩
    · rw [if_neg hp] at t2
      refine go ?_
      exact tfin ⟨i + 1, sub ⟨rfl, ieq (by rw [t2]; omega), rfl⟩, ⟨by omega, rfl⟩, (by show zs.length - (i + 1) < zs.length - i; omega)⟩
  · obtain rfl : i = zs.length := by omega
    rw [List.take_length]
    by_cases h1 : npos zs = 1
    · refine go ?_
      exact tret1 rfl rfl ⟨by simp [h1], rfl⟩
    · refine go ?_
      exact tret1 rfl rfl ⟨by simp [h1], rfl⟩
end Eng
end Go.Proofs.Ytighkjohpmlemaa

/-! Plain law: the search for a code, by its number among those of its length. -/
namespace Go.Proofs.Ytighkjohpmlemaa
open Go.RowKit
namespace Eng

/-- The k-th of a length is there. -/
theorem nth_of_count : ∀ (zs : List Int) (l : Int) (k : Nat), k < zs.count l → ∃ i : Nat, zs[i]? = some l ∧ (zs.take i).count l = k
  | [], l, k, h => by simp at h
  | z :: r, l, k, h => by
    by_cases e : z = l
    · subst e
      cases k with
      | zero => exact ⟨0, rfl, by simp⟩
      | succ k =>
        rw [List.count_cons_self] at h
        obtain ⟨i, h1, h2⟩ := nth_of_count r z k (by omega)
        exact ⟨i + 1, by simpa using h1, by rw [List.take_succ_cons, List.count_cons_self, h2]⟩
    · rw [List.count_cons_of_ne e] at h
      obtain ⟨i, h1, h2⟩ := nth_of_count r l k h
      exact ⟨i + 1, by simpa using h1, by rw [List.take_succ_cons, List.count_cons_of_ne e, h2]⟩

/-- Does a number fall among the codes of a length? -/
def hitB (zs : List Int) (l n : Nat) : Bool := decide (firstB zs l ≤ n) && decide (n - firstB zs l < manyB zs l)

theorem hit_at {zs : List Int} {l n : Nat} (hl : 0 < l) (h : hitB zs l n = true) : ∃ i : Nat, zs[i]? = some (l : Int) ∧ codeB zs i = n ∧ symB zs (l : Int) (n - firstB zs l) = i := by
  simp only [hitB, Bool.and_eq_true, decide_eq_true_eq] at h
  have hm : manyB zs l = zs.count (l : Int) := by unfold manyB; rw [if_neg (by omega)]
  obtain ⟨i, h1, h2⟩ := nth_of_count zs (l : Int) (n - firstB zs l) (by omega)
  exact ⟨i, h1, by rw [code_eq h1 hl, h2]; omega, by rw [← h2, symB_spec h1]⟩
theorem hit_not {zs : List Int} {l n i : Nat} (hl : 0 < l) (h : hitB zs l n = false) (hi : zs[i]? = some (l : Int)) : codeB zs i ≠ n := fun e => by
  have hb := code_bd hi hl
  have : hitB zs l n = true := by
    simp only [hitB, Bool.and_eq_true, decide_eq_true_eq]; omega
  rw [this] at h; cases h
theorem hit_one {zs : List Int} {l n i j : Nat} (hl : 0 < l) (hi : zs[i]? = some (l : Int)) (hj : zs[j]? = some (l : Int)) (ei : codeB zs i = n) (ej : codeB zs j = n) : i = j := by
  apply Classical.byContradiction
  intro hne
  have := code_free hi hj hl (Nat.le_refl _) hne
  rw [Nat.sub_self, Nat.pow_zero, Nat.div_one] at this
  exact this (by rw [ei, ej])

theorem ksum_flat (zs : List Int) (l : Nat) : ∀ k, (∀ j, l < j → j ≤ l + k → manyB zs j = 0) → ksum zs (l + k) = ksum zs l
  | 0, _ => rfl
  | k + 1, h => by
    show ksum zs (l + k) + manyB zs (l + k + 1) * _ = _
    rw [h (l + k + 1) (by omega) (by omega), Nat.zero_mul, Nat.add_zero, ksum_flat zs l k fun j h1 h2 => h j h1 (by omega)]
/-- A whole code: at the longest length every number falls among the codes. -/
theorem whole {zs : List Int} (hm : mayB zs = true) (hn : 2 ≤ npos zs) : firstB zs (maxL zs).toNat + manyB zs (maxL zs).toNat = 2 ^ (maxL zs).toNat := by
  have hne : zs ≠ [] := fun e => by rw [e] at hn; simp [npos] at hn
  have hb := may_lens hm _ (maxL_mem hne)
  obtain ⟨L, hL⟩ : ∃ L, L = (maxL zs).toNat := ⟨_, rfl⟩
  rw [← hL]
  have h1 := ksum_eq zs L (by omega)
  have h2 := ksum_flat zs L (12 - L) fun j h1 h2 => by
    unfold manyB
    rw [if_neg (by omega), List.count_eq_zero]
    intro hmem
    have := maxL_le hmem
    omega
  rw [show L + (12 - L) = 12 from by omega, ksum_all zs (may_lens hm)] at h2
  have h3 : (zs.map mg).sum = 4096 := by
    rcases may_cases hm with ⟨h, _⟩ | ⟨h, _⟩ | ⟨_, h⟩
    · omega
    · omega
    · exact h
  have h4 : 2 ^ (12 - L) * 2 ^ L = 4096 := by rw [← Nat.pow_add, show 12 - L + L = 12 from by omega]
  have h5 : 0 < 2 ^ (12 - L) := Nat.pow_pos (by decide)
  exact Nat.eq_of_mul_eq_mul_left h5 (by omega)
theorem one_top {zs : List Int} (hm : mayB zs = true) (hn : npos zs = 1) : maxL zs = 1 := by
  have hL := may_lens hm
  have h1 : (zs.map mg).sum = 2048 := by
    rcases may_cases hm with ⟨h, _⟩ | ⟨_, h⟩ | ⟨h, _⟩
    · omega
    · exact h
    · omega
  have h2 := (ones_mg zs hL hn).1 h1
  have hmem : (1 : Int) ∈ zs := List.count_pos_iff.1 (by omega)
  have hne : zs ≠ [] := fun e => by rw [e] at hmem; cases hmem
  have h3 := maxL_le hmem
  apply Classical.byContradiction
  intro hc
  have hmm := maxL_mem hne
  have : 2 ≤ npos zs := by
    unfold npos
    have hsub : ∀ (l : List Int) (a b : Int), a ∈ l → b ∈ l → a ≠ b → 0 < a → 0 < b → 2 ≤ l.countP fun z => decide (0 < z) := by
      intro l
      induction l with
      | nil => intro a b h; cases h
      | cons x r ih =>
        intro a b ha hb hab h1 h2
        rw [List.countP_cons]
        rcases List.mem_cons.1 ha with rfl | ha'
        · rcases List.mem_cons.1 hb with rfl | hb'
          · exact absurd rfl hab
          · have : 0 < r.countP fun z => decide (0 < z) := List.countP_pos_iff.2 ⟨b, hb', by simpa using h2⟩
            rw [if_pos (by simpa using h1)]; omega
        · rcases List.mem_cons.1 hb with rfl | hb'
          · have : 0 < r.countP fun z => decide (0 < z) := List.countP_pos_iff.2 ⟨a, ha', by simpa using h1⟩
            rw [if_pos (by simpa using h2)]; omega
          · have := ih a b ha' hb' hab h1 h2; omega
    exact hsub zs (maxL zs) 1 hmm hmem (fun e => hc e) (by omega) (by decide)
  omega
end Eng
end Go.Proofs.Ytighkjohpmlemaa
