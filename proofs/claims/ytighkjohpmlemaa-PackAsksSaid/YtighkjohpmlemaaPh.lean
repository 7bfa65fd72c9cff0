/-
  Package pack: squeeze, Put; bytes.Equal.
-/
import Derived.Test.YtighkjohpmlemaaNa
import Derived.Test.YtighkjohpmlemaaRp
namespace Go.Proofs.Ytighkjohpmlemaa
open Go.RowKit
namespace Eng
attribute [local irreducible] xs T

theorem ba_loop (bs : ByteArray) : ∀ (n i : Nat) (r : List UInt8), bs.size - i = n → ByteArray.toList.loop bs i r = r.reverse ++ bs.data.toList.drop i
  | 0, i, r, h => by
    rw [ByteArray.toList.loop, if_neg (by omega), List.drop_of_length_le (by have : bs.data.toList.length = bs.size := rfl; omega), List.append_nil]
  | n + 1, i, r, h => by
    have hi : i < bs.size := by omega
    have hl : i < bs.data.toList.length := hi
    rw [ByteArray.toList.loop, if_pos hi, ba_loop bs n (i + 1) _ (by omega), List.drop_eq_getElem_cons hl, List.reverse_cons, List.append_assoc]
    congr 1
    show bs.get! i :: _ = _ :: _
    congr 1
    show bs.data[i]! = _
    rw [getElem!_pos bs.data i hi]
    rfl
theorem ba_toList (bs : ByteArray) : bs.toList = bs.data.toList := by
  have := ba_loop bs bs.size 0 [] (by omega)
  simpa [ByteArray.toList] using this
theorem u8_inj {x y : Int} (hx : 0 ≤ x ∧ x < 256) (hy : 0 ≤ y ∧ y < 256) (h : UInt8.ofNat x.toNat = UInt8.ofNat y.toNat) : x = y := by
  have := congrArg UInt8.toNat h
  simp at this
  omega
theorem nums_inj : ∀ {a b : List Int}, Byts a → Byts b → (a.map fun n => UInt8.ofNat n.toNat) = (b.map fun n => UInt8.ofNat n.toNat) → a = b
  | [], [], _, _, _ => rfl
  | [], _ :: _, _, _, h => by simp at h
  | _ :: _, [], _, _, h => by simp at h
  | x :: a, y :: b, ha, hb, h => by
    rw [List.map_cons, List.map_cons, List.cons.injEq] at h
    rw [u8_inj (ha x (by simp)) (hb y (by simp)) h.1, nums_inj (fun z hz => ha z (by simp [hz])) (fun z hz => hb z (by simp [hz])) h.2]
/-- Strings of bytes are alike as the bytes are. -/
theorem str_eq {a b : List Int} (ha : Byts a) (hb : Byts b) : ((strOfNums a).toList == (strOfNums b).toList) = decide (a = b) := by
  rw [Bool.eq_iff_iff, decide_eq_true_eq, beq_iff_eq, ba_toList, ba_toList, strOfNums_data, strOfNums_data]
  exact ⟨nums_inj ha hb, fun h => by rw [h]⟩
theorem Own.of_blk {w : World} {b B n : Nat} {t : TypeId} {vs : List Value} (h : Blk w b t vs.toArray) (hB : B ≤ b) (hn : n = vs.length) (hm : n ≤ maxLen) : Own w B t (.slice (some ⟨b, 0, none⟩) n n) vs := by
  subst hn
  refine ⟨by simp, .inr ⟨b, vs.length, vs.toArray, rfl, hB, h, Nat.le_refl _, hm, by simp, ?_⟩⟩
  simp

set_option maxRecDepth 20000 in
set_option maxHeartbeats 2000000 in
theorem beq_does (w : World) (v v' : Value) (a b : List Int) (hv : BRow w v a) (hv' : BRow w v' b) (ha : Byts a) (hb : Byts b) :
    Does Try.prog 63 #[v, v'] w fun r w' => r = .bool (decide (a = b)) ∧ Ext w w' := by
  refine does2 Try.func63 rfl (by kernel_rfl) ?_
  have h1 := hv
  have h2 := hv'
  obtain ⟨A, c, rfl, hcc, hcm, hA⟩ := hv.op
  obtain ⟨A', c', rfl, hcc', hcm', hA'⟩ := hv'.op
  refine go ?_
  refine xcbs rfl h1 ?_
  refine go ?_
  refine xcbs rfl h2 ?_
  refine xseq rfl rfl ?_
  refine go ?_
  refine tret1 rfl rfl ⟨?_, Fr.refl _ _⟩
  congr 1
  exact str_eq ha hb

/-- The counts behind the first i tokens. -/
theorem cntB_take (ts : List Tkn) {i : Nat} {t : Tkn} (h : ts[i]? = some t) {s : Nat} (hs : (symT t).1 = (s : Int)) (hs2 : s < 320) : (cntB (ts.take i)).set s ((cntB (ts.take i)).getD s 0 + 1) = cntB (ts.take (i + 1)) := by
  have htk : ts.take (i + 1) = ts.take i ++ [t] := by rw [List.take_add_one, h]; rfl
  apply List.ext_getElem?
  intro k
  rw [List.getElem?_set]
  by_cases hk : k < 320
  · rw [cntB_get _ hk, cntB_get _ hk, htk, List.countP_append]
    by_cases e : s = k
    · subst e
      rw [if_pos rfl, if_pos (by rw [cntB_len]; exact hk), List.getD_eq_getElem?_getD, cntB_get _ hk]
      simp [hs]
    · rw [if_neg e]
      have : ¬ (symT t).1 = (k : Int) := by omega
      simp [this]
  · rw [if_neg (by omega), List.getElem?_eq_none (by rw [cntB_len]; omega), List.getElem?_eq_none (by rw [cntB_len]; omega)]
theorem cntB_nil : cntB [] = List.replicate 320 0 := by
  apply List.ext_getElem?
  intro k
  by_cases hk : k < 320
  · rw [cntB_get _ hk, List.getElem?_replicate, if_pos hk]; rfl
  · rw [List.getElem?_eq_none (by rw [cntB_len]; omega), List.getElem?_replicate, if_neg hk]

theorem tkBits_len {ts : List Tkn} {t : Tkn} (ht : t ∈ ts) (hm : mayT t = true) : (tkBits (lensOf ts) t).length ≤ 22 := by
  obtain ⟨s, q, hs, hs320, hq, hq0, hq12⟩ := lensOf_sym ht hm
  have hsb := symT_bd hm
  unfold tkBits
  rw [List.length_append, length_bitsOf, length_bitsOf, hs, Int.toNat_natCast, getD_of hq, Int.toNat_natCast]
  omega
theorem tkBits_sum {ts l : List Tkn} (hm : ∀ t ∈ ts, mayT t = true) (hs : ∀ t ∈ l, t ∈ ts) : (l.flatMap (tkBits (lensOf ts))).length ≤ 22 * l.length := by
  induction l with
  | nil => simp
  | cons t r ih =>
    have h1 := tkBits_len (hs t (by simp)) (hm t (hs t (by simp)))
    have h2 := ih fun t' ht' => hs t' (by simp [ht'])
    rw [List.flatMap_cons, List.length_append, List.length_cons]; omega

theorem okLen_cnt {ts : List Tkn} (h : ts.length ≤ 12000) : okLen (cntB ts) = true := by
  have hne : cntB ts ≠ [] := fun e => by have := cntB_len ts; rw [e] at this; cases this
  unfold okLen
  rw [cntB_len]
  have h1 := (cntB_bd ts _ (maxL_mem hne)).2
  have h2 := (cntB_bd ts _ (minL_mem hne)).1
  simp only [Bool.and_eq_true, decide_eq_true_eq]
  omega

end Eng
end Go.Proofs.Ytighkjohpmlemaa
