/-
  The library's search in strings for one byte, and package path: Name, May, Parent, Under, Less.
-/
import Derived.Test.YtalnkjpgnkfedaaGreatDoorXa
import Derived.Test.YtalnkjpgnkfedaaGreatDoorGo
namespace Go.Proofs.YtalnkjpgnkfedaaGreatDoor
open Go.RowKit
namespace Eng
attribute [local irreducible] xs T

/-- The first place of a byte, or -1. -/
def idxI (l : Str) (c : UInt8) : Int := match l.findIdx? (· == c) with
  | some i => i
  | none => -1

theorem firstIdx_eq (l : Str) (c : UInt8) : firstIdx (su l) c = idxI l c := by
  unfold firstIdx idxI
  rw [su_size]
  have hat : ∀ i, i < l.length → (su l)[i]! = l.getD i default := by
    intro i hi
    have h' : i < (su l).size := by rw [su_size]; exact hi
    rw [getElem!_pos (su l) i h']
    show (su l).data[i]'h' = _
    simp [su, hi]
  cases h : l.findIdx? (· == c) with
  | none =>
    have : (List.range l.length).find? (fun i => (su l)[i]! == c) = none := by
      rw [List.find?_eq_none]
      intro i hi
      have hi := List.mem_range.1 hi
      rw [hat i hi]
      rw [List.findIdx?_eq_none_iff] at h
      have := h (l[i]) (List.getElem_mem hi)
      rw [List.getD_eq_getElem?_getD, List.getElem?_eq_getElem hi]
      simpa using this
    rw [this]
  | some i =>
    obtain ⟨hi, h1, h2⟩ := List.findIdx?_eq_some_iff_getElem.1 h
    have : (List.range l.length).find? (fun i => (su l)[i]! == c) = some i := by
      rw [List.find?_range_eq_some]
      refine ⟨?_, List.mem_range.2 hi, fun j hj => ?_⟩
      · rw [hat i hi, List.getD_eq_getElem?_getD, List.getElem?_eq_getElem hi]; exact h1
      · rw [hat j (by omega), List.getD_eq_getElem?_getD, List.getElem?_eq_getElem (by omega)]
        have := h2 j hj
        simpa using this
    rw [this]

theorem idx_cut : ∀ l : Str, idxI l 47 = if (cut1 l).2.2 then ((cut1 l).1.length : Int) else -1
  | [] => rfl
  | c :: r => by
    have ih := idx_cut r
    unfold idxI at ih ⊢
    rw [List.findIdx?_cons]
    by_cases hc : c = 47
    · subst hc; simp [cut1]
    · have hb : (c == 47) = false := by simpa using hc
      simp only [cut1, if_neg hc, hb]
      cases h : r.findIdx? (· == 47) with
      | none => rw [h] at ih; simp only [Option.map_none] at ih ⊢; split at ih <;> rename_i hh <;> simp [hh] <;> omega
      | some i => rw [h] at ih; simp only [Option.map_some] at ih ⊢; split at ih <;> rename_i hh <;> simp [hh] <;> omega

set_option maxRecDepth 20000 in
set_option maxHeartbeats 2000000 in
theorem ixb_does (w : World) (l : Str) (c : UInt8) : Does Tryz.prog 89 #[.string (su l), .int .u8 (c.toNat : Int)] w fun r w' => r = .int .i64 (idxI l c) ∧ w = w' := by
  refine does2 Tryz.func89 rfl (by kernel_rfl) ?_
  refine goL ?_
  refine xext (e := Extern.BytealgIndexByte.indexByte) Tryz.func147 (by kernel_rfl) (by kernel_rfl) (by kernel_rfl) (by kernel_rfl) rfl (run_indexByte_string (su l) _ w) ?_
  refine goL ?_
  refine tret1 rfl rfl ⟨?_, rfl⟩
  rw [← firstIdx_eq]
  simp

set_option maxRecDepth 20000 in
set_option maxHeartbeats 2000000 in
theorem ix1_does (w : World) (l : Str) (c : UInt8) : Does Tryz.prog 39 #[.string (su l), .string (su [c])] w fun r w' => r = .int .i64 (idxI l c) ∧ w = w' := by
  refine does2 Tryz.func39 rfl (by kernel_rfl) ?_
  repeat' (first | refine xuln1 rfl rfl ?_ | refine xuln rfl rfl ?_ | refine go1L ?_ | fail)
  by_cases hc : [c] = l
  · subst hc
    repeat' (first | refine xucmp (op := .eql) (r := true) rfl rfl (by simp [cmpU]) ?_ | refine xuln1 rfl rfl ?_ | refine xuln rfl rfl ?_ | refine go1L ?_ | fail)
    exact tret1 rfl rfl ⟨by simp [idxI, List.findIdx?_cons], rfl⟩
  repeat' (first | refine xucmp (op := .eql) (r := false) rfl rfl (by simp [cmpU, hc]) ?_ | refine xui (z := c) 0 rfl rfl rfl rfl rfl ?_ | refine xuln1 rfl rfl ?_ | refine xuln rfl rfl ?_ | refine go1L ?_ | fail)
  refine xcall rfl rfl (ixb_does w l c) (fun r w1 h1 => ?_)
  obtain ⟨rfl, rfl⟩ := h1
  refine goL ?_
  exact tret1 rfl rfl ⟨rfl, rfl⟩

set_option maxRecDepth 20000 in
set_option maxHeartbeats 2000000 in
theorem slcut_does (w : World) (l : Str) (hl : l.length ≤ 1000000) : Does Tryz.prog 168 #[.string (su l), .string (su [47])] w fun r w' => r = .tuple #[.string (su (cut1 l).1), .string (su (cut1 l).2.1), .bool (cut1 l).2.2] ∧ Ext w w' := by
  refine does2 Tryz.func168 rfl (by kernel_rfl) ?_
  refine goL ?_
  refine xcall rfl rfl (ix1_does w l 47) (fun r w1 h1 => ?_)
  obtain ⟨rfl, rfl⟩ := h1
  have hi := idx_cut l
  cases hm : (cut1 l).2.2 with
  | false =>
    rw [hm, if_neg (by decide)] at hi
    rw [hi]
    obtain ⟨e1, e2⟩ := cut1_no l hm
    refine goL ?_
    exact tret3 rfl rfl rfl rfl ⟨by rw [e1, e2]; rfl, Fr.refl _ _⟩
  | true =>
    rw [hm, if_pos rfl] at hi
    rw [hi]
    have hlen := cut1_len l hm
    have happ := cut1_app l hm
    obtain ⟨a, ha⟩ : ∃ a, a = (cut1 l).1 := ⟨_, rfl⟩
    obtain ⟨b, hb⟩ : ∃ b, b = (cut1 l).2.1 := ⟨_, rfl⟩
    rw [← ha, ← hb] at hlen happ ⊢
    have e1 : l.take a.length = a := by rw [happ, List.take_left]
    have e2 : l.drop (a.length + 1) = b := by rw [happ, ← List.drop_drop, List.drop_left]; rfl
    repeat' (first | refine xusl0 a.length rfl rfl rfl rfl (by omega) ?_ | refine xusl1 (a.length + 1) rfl rfl rfl (by simp) (by omega) ?_ | refine xuln1 rfl rfl ?_ | refine xuln rfl rfl ?_ | refine go1L ?_ | fail)
    exact tret3 rfl rfl rfl rfl ⟨by rw [e1, e2], Fr.drew _ _⟩

set_option maxRecDepth 20000 in
set_option maxHeartbeats 2000000 in
theorem cut_does (w : World) (l : Str) (hl : l.length ≤ 1000000) : Does Tryz.prog 119 #[.string (su l), .string (su [47])] w fun r w' => r = .tuple #[.string (su (cut1 l).1), .string (su (cut1 l).2.1), .bool (cut1 l).2.2] ∧ Ext w w' := by
  refine does2 Tryz.func119 rfl (by kernel_rfl) ?_
  refine goL ?_
  refine xcall rfl rfl (slcut_does w l hl) (fun r w1 h1 => ?_)
  obtain ⟨rfl, hE⟩ := h1
  refine goL ?_
  exact tret3 rfl rfl rfl rfl ⟨rfl, hE⟩

/-! The program's Name and May. -/
/-- Neither a slash nor a nought. -/
def chrU (c : UInt8) : Bool := decide (c ≠ 47) && decide (c ≠ 0)
theorem nameU_eq (s : Str) : nameU s = (decide (1 ≤ s.length) && decide (s.length ≤ 20) && decide (s ≠ [46]) && decide (s ≠ [46, 46]) && s.all chrU) := rfl
theorem u8_eq {c : UInt8} {n : Nat} (hn : n < 256) : ((c.toNat : Int) = (n : Int)) ↔ c = UInt8.ofNat n := by
  constructor
  · intro h
    apply UInt8.toNat_inj.1
    rw [UInt8.toNat_ofNat']
    omega
  · rintro rfl
    rw [UInt8.toNat_ofNat']
    omega

set_option maxRecDepth 20000 in
set_option maxHeartbeats 2000000 in
theorem name_does (w : World) (l : Str) : Does Tryz.prog 120 #[.string (su l)] w fun r w' => r = .bool (nameU l) ∧ w = w' := by
  refine does1 Tryz.func120 rfl (by kernel_rfl) ?_
  rw [nameU_eq]
  by_cases h1 : ¬ 1 ≤ l.length
  · repeat' (first | refine xuln1 rfl rfl ?_ | refine xuln rfl rfl ?_ | refine go1L ?_ | fail)
    refine tscope0 ?_
    repeat' (first | refine xuln1 rfl rfl ?_ | refine xuln rfl rfl ?_ | refine go1L ?_ | fail)
    exact tret1 rfl rfl ⟨by simp only [decide_eq_false h1, Bool.false_and], rfl⟩
  by_cases h2 : ¬ l.length ≤ 20
  · repeat' (first | refine xuln1 rfl rfl ?_ | refine xuln rfl rfl ?_ | refine go1L ?_ | fail)
    refine tscope0 ?_
    repeat' (first | refine xuln1 rfl rfl ?_ | refine xuln rfl rfl ?_ | refine go1L ?_ | fail)
    exact tret1 rfl rfl ⟨by simp only [decide_eq_false h2, Bool.false_and, Bool.and_false], rfl⟩
  have h1 : 1 ≤ l.length := by omega
  have h2 : l.length ≤ 20 := by omega
  by_cases h3 : l = [46]
  · subst h3
    repeat' (first | refine xuln1 rfl rfl ?_ | refine xuln rfl rfl ?_ | refine go1L ?_ | fail)
    refine tscope0 ?_
    repeat' (first | refine xucmp (op := .eql) (b := [46]) (r := true) rfl rfl rfl ?_ | refine xuln1 rfl rfl ?_ | refine xuln rfl rfl ?_ | refine go1L ?_ | fail)
    exact tret1 rfl rfl ⟨rfl, rfl⟩
  by_cases h4 : l = [46, 46]
  · subst h4
    repeat' (first | refine xuln1 rfl rfl ?_ | refine xuln rfl rfl ?_ | refine go1L ?_ | fail)
    refine tscope0 ?_
    repeat' (first | refine xucmp (op := .eql) (b := [46]) (r := false) rfl rfl rfl ?_ | refine xucmp (op := .eql) (b := [46, 46]) (r := true) rfl rfl rfl ?_ | refine xuln1 rfl rfl ?_ | refine xuln rfl rfl ?_ | refine go1L ?_ | fail)
    exact tret1 rfl rfl ⟨rfl, rfl⟩
  have e : (decide (1 ≤ l.length) && decide (l.length ≤ 20) && decide (l ≠ [46]) && decide (l ≠ [46, 46]) && l.all chrU) = l.all chrU := by
    simp [h1, h2, h3, h4]
  rw [e]
  repeat' (first | refine xuln1 rfl rfl ?_ | refine xuln rfl rfl ?_ | refine go1L ?_ | fail)
  refine tscope1 (α := Nat) 0 rfl (fun i => [(0, .string (su l)), (3, .int .i64 (i : Int))]) (fun i w' => w = w' ∧ i ≤ l.length ∧ (l.drop i).all chrU = l.all chrU) (fun i => l.length - i) ?_ ?_
  · rintro i w' ⟨rfl, hi, hgo⟩
    by_cases hlt : i < l.length
    · obtain ⟨c, hc⟩ : ∃ c, l[i]? = some c := ⟨_, List.getElem?_eq_getElem hlt⟩
      have hdr : l.drop i = c :: l.drop (i + 1) := by
        rw [List.drop_eq_getElem_cons hlt]
        rw [List.getElem?_eq_getElem hlt] at hc
        injection hc with hc
        rw [hc]
      rw [hdr, List.all_cons] at hgo
      by_cases g1 : c = 47
      · have e1 : ((c.toNat : Int)) = 47 := by rw [g1]; rfl
        repeat' (first | refine xui (z := c) i rfl rfl rfl rfl hc ?_ | refine xuln1 rfl rfl ?_ | refine xuln rfl rfl ?_ | refine go1L ?_ | fail)
        exact tret1 rfl rfl ⟨by rw [← hgo, g1]; rfl, rfl⟩
      have e1 : ¬ ((c.toNat : Int)) = 47 := fun h => g1 ((u8_eq (n := 47) (by decide)).1 h)
      by_cases g2 : c = 0
      · have e2 : ((c.toNat : Int)) = 0 := by rw [g2]; rfl
        repeat' (first | refine xui (z := c) i rfl rfl rfl rfl hc ?_ | refine xuln1 rfl rfl ?_ | refine xuln rfl rfl ?_ | refine go1L ?_ | fail)
        exact tret1 rfl rfl ⟨by rw [← hgo, g2]; rfl, rfl⟩
      have e2 : ¬ ((c.toNat : Int)) = 0 := fun h => g2 ((u8_eq (n := 0) (by decide)).1 h)
      have hch : chrU c = true := by simp [chrU, g1, g2]
      rw [hch, Bool.true_and] at hgo
      repeat' (first | refine xui (z := c) i rfl rfl rfl rfl hc ?_ | refine xuln1 rfl rfl ?_ | refine xuln rfl rfl ?_ | refine go1L ?_ | fail)
      exact tgoto rfl ⟨_, (by show l.length - (i + 1) < l.length - i; omega), rfl, i + 1, sub ⟨rfl, rfl⟩, ⟨rfl, by omega, hgo⟩, rfl⟩
    · obtain rfl : i = l.length := by omega
      rw [List.drop_length] at hgo
      repeat' (first | refine xuln1 rfl rfl ?_ | refine xuln rfl rfl ?_ | refine go1L ?_ | fail)
      exact tret1 rfl rfl ⟨by rw [← hgo]; rfl, rfl⟩
  · intro H
    repeat' (first | refine xucmp (op := .eql) (b := [46]) (r := false) rfl rfl (by simp [cmpU, h3]) ?_ | refine xucmp (op := .eql) (b := [46, 46]) (r := false) rfl rfl (by simp [cmpU, h4]) ?_ | refine xuln1 rfl rfl ?_ | refine xuln rfl rfl ?_ | refine go1L ?_ | fail)
    refine tlabel ?_
    exact tweak (H 0 w ⟨rfl, Nat.zero_le _, rfl⟩) (sub ⟨rfl, rfl⟩)

/-- How many more names there may be, and are they all names? -/
def mayGo (k : Nat) (s : Str) : Bool := (cutU s).all nameU && decide ((cutU s).length ≤ k)
theorem mayGo_step (k : Nat) (s : Str) : mayGo (k + 1) s = (nameU (cut1 s).1 && (if (cut1 s).2.2 then mayGo k (cut1 s).2.1 else true)) := by
  unfold mayGo
  rw [cutU_cut s]
  cases (cut1 s).2.2 with
  | false => simp
  | true => simp [Bool.and_assoc]
theorem mayGo_no (s : Str) : mayGo 0 s = false := by
  unfold mayGo
  have : ¬ (cutU s).length ≤ 0 := fun h => cutU_ne s (List.length_eq_zero_iff.1 (by omega))
  simp only [decide_eq_false this, Bool.and_false]

set_option maxRecDepth 20000 in
set_option maxHeartbeats 2000000 in
theorem may_does (w : World) (l : Str) : Does Tryz.prog 61 #[.string (su l)] w fun r w' => r = .bool (mayP l) ∧ Ext w w' := by
  refine does1 Tryz.func61 rfl (by kernel_rfl) ?_
  by_cases h0 : l = []
  · subst h0
    repeat' (first | refine xuln1 rfl rfl ?_ | refine xuln rfl rfl ?_ | refine go1L ?_ | fail)
    refine tscope0 ?_
    repeat' (first | refine xucmp (op := .eql) (b := []) (r := true) rfl rfl rfl ?_ | refine xuln1 rfl rfl ?_ | refine xuln rfl rfl ?_ | refine go1L ?_ | fail)
    exact tret1 rfl rfl ⟨rfl, Fr.refl _ _⟩
  have e0 : mayP l = ((cutU l).all nameU && decide (l.length ≤ 100) && decide ((cutU l).length ≤ 8)) := by simp [mayP, h0]
  by_cases h1 : 100 < l.length
  · have e1 : mayP l = false := by rw [e0, decide_eq_false (by omega)]; simp
    repeat' (first | refine xuln1 rfl rfl ?_ | refine xuln rfl rfl ?_ | refine go1L ?_ | fail)
    refine tscope0 ?_
    repeat' (first | refine xucmp (op := .eql) (b := []) (r := false) rfl rfl (by simp [cmpU, h0]) ?_ | refine xuln1 rfl rfl ?_ | refine xuln rfl rfl ?_ | refine go1L ?_ | fail)
    exact tret1 rfl rfl ⟨by rw [e1], Fr.refl _ _⟩
  have e1 : mayP l = mayGo 8 l := by
    rw [e0, decide_eq_true (by omega : l.length ≤ 100), Bool.and_true]; rfl
  rw [e1]
  repeat' (first | refine xuln1 rfl rfl ?_ | refine xuln rfl rfl ?_ | refine go1L ?_ | fail)
  refine tscope1 (α := Nat × Str) 0 rfl (fun x => [(0, .string (su x.2)), (3, .int .i64 (x.1 : Int))]) (fun x w' => Ext w w' ∧ x.1 ≤ 8 ∧ x.2.length ≤ 100 ∧ mayGo (8 - x.1) x.2 = mayGo 8 l) (fun x => x.2.length) ?_ ?_
  · rintro ⟨i, s⟩ w' ⟨hE, hi, hs, hgo⟩
    dsimp only at hi hs hgo ⊢
    have hlen := cut1_len s
    repeat' (first | refine xuln1 rfl rfl ?_ | refine xuln rfl rfl ?_ | refine go1L ?_ | fail)
    refine xcall rfl rfl (cut_does w' s (by omega)) (fun r w1 h1 => ?_)
    obtain ⟨rfl, hE1⟩ := h1
    have hE := hE.t hE1
    repeat' (first | refine xuln1 rfl rfl ?_ | refine xuln rfl rfl ?_ | refine go1L ?_ | fail)
    refine xcall rfl rfl (name_does w1 _) (fun r w2 h1 => ?_)
    obtain ⟨rfl, rfl⟩ := h1
    by_cases h8 : i = 8
    · subst h8
      rw [Nat.sub_self, mayGo_no] at hgo
      cases hn : nameU (cut1 s).1 with
      | false =>
        repeat' (first | refine xuln1 rfl rfl ?_ | refine xuln rfl rfl ?_ | refine go1L ?_ | fail)
        exact tret1 rfl rfl ⟨by rw [← hgo], hE⟩
      | true =>
        repeat' (first | refine xuln1 rfl rfl ?_ | refine xuln rfl rfl ?_ | refine go1L ?_ | fail)
        exact tret1 rfl rfl ⟨by rw [← hgo], hE⟩
    rw [show 8 - i = (8 - (i + 1)) + 1 from by omega, mayGo_step] at hgo
    cases hn : nameU (cut1 s).1 with
    | false =>
      rw [hn, Bool.false_and] at hgo
      repeat' (first | refine xuln1 rfl rfl ?_ | refine xuln rfl rfl ?_ | refine go1L ?_ | fail)
      exact tret1 rfl rfl ⟨by rw [← hgo], hE⟩
    | true =>
      rw [hn, Bool.true_and] at hgo
      cases hm : (cut1 s).2.2 with
      | false =>
        rw [hm, if_neg (by decide)] at hgo
        repeat' (first | refine xuln1 rfl rfl ?_ | refine xuln rfl rfl ?_ | refine go1L ?_ | fail)
        exact tret1 rfl rfl ⟨by rw [← hgo], hE⟩
      | true =>
        rw [hm, if_pos rfl] at hgo
        have hlen := hlen hm
        repeat' (first | refine xuln1 rfl rfl ?_ | refine xuln rfl rfl ?_ | refine go1L ?_ | fail)
        exact tgoto rfl ⟨_, (by show (cut1 s).2.1.length < s.length; omega), rfl, (i + 1, (cut1 s).2.1), sub ⟨rfl, rfl⟩, ⟨hE, by dsimp only; omega, by dsimp only; omega, hgo⟩, rfl⟩
  · intro H
    repeat' (first | refine xucmp (op := .eql) (b := []) (r := false) rfl rfl (by simp [cmpU, h0]) ?_ | refine xuln1 rfl rfl ?_ | refine xuln rfl rfl ?_ | refine go1L ?_ | fail)
    refine tlabel ?_
    exact tweak (H (0, l) w ⟨Fr.refl _ _, Nat.zero_le _, by dsimp only; omega, rfl⟩) (sub ⟨rfl, rfl⟩)
end Eng
end Go.Proofs.YtalnkjpgnkfedaaGreatDoor
