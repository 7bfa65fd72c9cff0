/-
  Package huff: the comparison, a copy of ints, the taking of the lightest node.
-/
import Derived.Test.YtighkjohpmlemaaSa
import Derived.Test.YtighkjohpmlemaaHg
namespace Go.Proofs.Ytighkjohpmlemaa
open Go.RowKit
namespace Eng

section
variable {hs : List Nat} {H : World → Prop} {full : Array Oper} {K : Env → World → Prop} {rest : List Oper} {env : Env} {w : World} {d : Tmp} {dst : Option Tmp} {ty : TypeId} {pos : String} {af : Array Edge}

/-- An empty slice literal. -/
theorem xbs0 {t e : TypeId} {z : Value} {bytes : Nat} (hT : SlT t e z 1 bytes)
    (h : ∀ w', Blk w' w.heap.size e #[] → Ext w w' → w'.heap.size = w.heap.size + 1 → xs Try.prog isI isS hs H full K rest ((d, .slice (some ⟨w.heap.size, 0, none⟩) 0 0) :: env) w') (hH : ∀ w', Ext w w' → H w' := by intros; trivial) :
    xs Try.prog isI isS hs H full K (⟨some d, .buildSlice t 0 #[], ty, pos, af, none⟩ :: rest) env w := by
  obtain ⟨hu, i, hi, hz, hs, hby⟩ := hT
  refine xw (by simp [opsOK, Op.operands]) rfl (v := .slice (some ⟨w.heap.size, 0, none⟩) 0 0) (w' := w.alloc (.cells #[] e)) ?_ (h _ (Blk.new _ _ _) (Fr.alloc _ _ _) (by simp)) (hH _ (Fr.alloc _ _ _))
  simp [execOp, Instr.buildSlice, run_underlying hu, sizeOf, typeInfo, hi, Instr.fill, newRow]
  have : Array.map (fun _ : Nat => (default : Value)) (Array.range 0) = #[] := by simp
  first | rw [this] | simp

/-- Is a slice nil? -/
theorem xsn {t yt : TypeId} {x y : Operand} {A : Option Addr} {n c n' c' z : Nat} (hx : evo env x = some (.slice A n c)) (hy : evo env y = some (.slice none n' c')) (hz : es t = some z)
    (h : xs Try.prog isI isS hs H full K rest ((d, .bool A.isNone) :: env) w) : xs Try.prog isI isS hs H full K (⟨some d, .binOp .eql t x y yt, ty, pos, af, none⟩ :: rest) env w := by
  obtain ⟨e, i, hu, _, _⟩ := es_spec hz
  exact x_bin hx hy (eqGuard_at_slice ..) (fun w' => by rw [Lib.run_eql_slice_nil w' t e A n c n' c' hu]) h
end

def cmpZ (x y : Int) : Int := if x < y then -1 else if y < x then 1 else 0

set_option maxRecDepth 20000 in
set_option maxHeartbeats 1000000 in
theorem isNaN_does (w : World) (x : Int) : Does Try.prog 86 #[.int .i64 x] w fun r w' => r = .bool false ∧ w = w' := by
  refine does1 Try.func86 rfl (by kernel_rfl) ?_
  refine wk ?_
  exact tret1 rfl rfl ⟨rfl, rfl⟩

set_option maxRecDepth 20000 in
set_option maxHeartbeats 1000000 in
theorem compare_does (w : World) (x y : Int) : Does Try.prog 74 #[.int .i64 x, .int .i64 y] w fun r w' => r = .int .i64 (cmpZ x y) ∧ w = w' := by
  refine does2 Try.func74 rfl (by kernel_rfl) ?_
  refine wk ?_
  refine xcall rfl rfl (isNaN_does w x) ?_
  rintro r w1 ⟨rfl, rfl⟩
  refine wk ?_
  refine xcall rfl rfl (isNaN_does w y) ?_
  rintro r w1 ⟨rfl, rfl⟩
  by_cases h1 : x < y
  · refine wk ?_
    exact tret1 rfl rfl ⟨by unfold cmpZ; rw [if_pos h1], rfl⟩
  · by_cases h2 : y < x
    · refine wk ?_
      exact tret1 rfl rfl ⟨by unfold cmpZ; rw [if_neg h1, if_pos h2], rfl⟩
    · refine wk ?_
      exact tret1 rfl rfl ⟨by unfold cmpZ; rw [if_neg h1, if_neg h2], rfl⟩

theorem cmpZ_neg (x y : Int) : cmpZ x y < 0 ↔ x < y := by unfold cmpZ; split <;> (try split) <;> omega

set_option maxRecDepth 20000 in
set_option maxHeartbeats 1000000 in
theorem comp_does (w : World) (gb : Nat) (v : Value) (cs : List Int) (hb : w.cell? ⟨gb, 0, none⟩ = some v) (hv : IRow w v cs) (x y : Int) (hx : 0 ≤ x ∧ x < cs.length) (hy : 0 ≤ y ∧ y < cs.length) :
    Does Try.prog 73 #[.int .i64 x, .int .i64 y, .pointer (some ⟨gb, 0, none⟩)] w fun r w' => Ext w w' ∧ ∃ z, r = .int .i64 z ∧ (z < 0 ↔ cs.getD x.toNat 0 < cs.getD y.toNat 0) := by
  obtain ⟨i, rfl⟩ := Int.eq_ofNat_of_zero_le hx.1
  obtain ⟨j, rfl⟩ := Int.eq_ofNat_of_zero_le hy.1
  refine does3 Try.func73 rfl (by kernel_rfl) ?_
  obtain ⟨A, c, rfl, hc, hcm, hA⟩ := hv
  obtain ⟨b, o, z, rfl, hb1, hz, hcell, _⟩ := at_row hA (show i < cs.length by omega)
  obtain ⟨b', o', z', he, _, hz', hcell', _⟩ := at_row hA (show j < cs.length by omega)
  injection he with he; injection he with e1 e2; subst e1; subst e2
  refine wk ?_
  refine xcall rfl rfl (compare_does w.drew z z') ?_
  rintro r w1 ⟨rfl, rfl⟩
  refine wk ?_
  refine tret1 rfl rfl ⟨Fr.drew _ _, _, rfl, ?_⟩
  rw [cmpZ_neg, Int.toNat_natCast, Int.toNat_natCast, List.getD_eq_getElem?_getD, List.getD_eq_getElem?_getD, hz, hz']
  rfl

set_option maxRecDepth 20000 in
set_option maxHeartbeats 1000000 in
theorem clone_does (w : World) (v : Value) (zs : List Int) (hv : IRow w v zs) (hl : zs.length ≤ 2 ^ 30) :
    Does Try.prog 49 #[v] w fun r w' => Own w' w.heap.size 3 r (zs.map (Value.int .i64)) ∧ Ext w w' := by
  refine does1 Try.func49 rfl (by kernel_rfl) ?_
  obtain ⟨A, c, rfl, hc, hcm, hA⟩ := hv
  cases A with
  | none =>
    have h0 : zs = [] := by
      rcases zs with _ | ⟨z, zs⟩
      · rfl
      · obtain ⟨b, o, h, _⟩ := hA (by simp); cases h
    subst h0
    refine wk ?_
    refine xsn rfl rfl rfl ?_
    refine wk ?_
    exact tret1 rfl rfl ⟨Own.nil _ _ _, Fr.refl _ _⟩
  | some a =>
    refine wk ?_
    refine xsn rfl rfl rfl ?_
    refine wk ?_
    refine xbs0 sl_ints (fun w1 hB1 hE1 hs1 => ?_)
    refine wk ?_
    have hown : Own w1 w.heap.size 3 (.slice (some ⟨w.heap.size, 0, none⟩) 0 0) [] := ⟨rfl, .inr ⟨_, 0, #[], rfl, Nat.le_refl _, hB1, Nat.le_refl _, Nat.zero_le _, rfl, rfl⟩⟩
    refine xap sl_ints rfl rfl hown rfl (Row.ext (⟨some a, c, rfl, hc, hcm, hA⟩ : IRow w _ zs) hE1) (by simp) (fun u hu => by obtain ⟨z, _, rfl⟩ := List.mem_map.1 hu; rfl) (by unfold maxLen; simp; omega) (by simp; omega) (by omega) (fun v2 w2 hown2 hF2 _ => ?_)
    refine wk ?_
    refine tret1 rfl rfl ⟨by simpa using hown2, hE1.te hF2 fun j hj e => ?_⟩
    have : w.heap.size = j := by simpa [Value.ownBlock] using e
    omega

/-- Is the next leaf the lightest node? -/
def takeB (n leaf made : Nat) (sm : List Int) : Bool := decide (leaf < n) && (decide (made = sm.length) || decide (sm.getD leaf 0 ≤ sm.getD made 0))

/-- The block of a merge. -/
def HB (w : World) (g : Nat) (sv uv : Value) (n leaf made : Nat) : Prop := Blk w g 117 #[sv, uv, .int .i64 n, .int .i64 leaf, .int .i64 made]

set_option maxRecDepth 20000 in
set_option maxHeartbeats 2000000 in
theorem take_does (w : World) (g n leaf made : Nat) (sv uv : Value) (sm : List Int) (hB : HB w g sv uv n leaf made) (hv : IRow w sv sm) (h1 : leaf ≤ n) (h2 : n ≤ sm.length) (h3 : made ≤ sm.length) (hl : sm.length ≤ 10000) :
    Does Try.prog 75 #[.pointer (some ⟨g, 0, none⟩)] w fun r w' => r = .int .i64 (if takeB n leaf made sm then (leaf : Int) else made) ∧ HB w' g sv uv n (if takeB n leaf made sm then leaf + 1 else leaf) (if takeB n leaf made sm then made else made + 1) ∧ Fr (· = g) w w' := by
  refine does1 Try.func75 rfl (by kernel_rfl) ?_
  obtain ⟨A, c, rfl, hc, hcm, hA⟩ := hv
  have c0 : w.cell? ⟨g, 0, none⟩ = some (.slice A sm.length c) := by rw [Blk.cell hB]; rfl
  have c2 : w.cell? ⟨g, 2, none⟩ = some (.int .i64 n) := by rw [Blk.cell hB]; rfl
  have c3 : w.cell? ⟨g, 3, none⟩ = some (.int .i64 leaf) := by rw [Blk.cell hB]; rfl
  have c4 : w.cell? ⟨g, 4, none⟩ = some (.int .i64 made) := by rw [Blk.cell hB]; rfl
  by_cases hT : takeB n leaf made sm = true
  · rw [if_pos hT, if_pos hT, if_pos hT]
    have hT' := hT
    simp only [takeB, Bool.and_eq_true, Bool.or_eq_true, decide_eq_true_eq] at hT'
    obtain ⟨k1, k2⟩ := hT'
    have fin : ∀ w1 : World, HB w1 g (.slice A sm.length c) uv n (leaf + 1) made → w1.cell? ⟨g, 3, none⟩ = some (.int .i64 ((leaf : Int) + 1)) := fun w1 h => by rw [Blk.cell h]; simp
    by_cases k3 : made = sm.length
    · refine wk ?_
      refine xstb (cs := #[.slice A sm.length c, uv, .int .i64 n, .int .i64 leaf, .int .i64 made]) hB rfl rfl rfl rfl rfl (fun w1 hB1 hF1 => ?_)
      have hB2 : HB w1 g (.slice A sm.length c) uv n (leaf + 1) made := hB1
      have := fin w1 hB2
      refine wk ?_
      exact tret1 rfl rfl ⟨by congr 1; omega, hB2, (Fr.drew _ _).t hF1⟩
    · have k4 : sm.getD leaf 0 ≤ sm.getD made 0 := by omega
      obtain ⟨b, o, z, rfl, hb1, hz, hcell, _⟩ := at_row hA (show leaf < sm.length by omega)
      obtain ⟨b', o', z', he, _, hz', hcell', _⟩ := at_row hA (show made < sm.length by omega)
      injection he with he; injection he with e1 e2; subst e1; subst e2
      rw [List.getD_eq_getElem?_getD, List.getD_eq_getElem?_getD, hz, hz'] at k4
      simp only [Option.getD_some] at k4
      refine wk ?_
      refine xstb (cs := #[.slice _ sm.length c, uv, .int .i64 n, .int .i64 leaf, .int .i64 made]) hB rfl rfl rfl rfl rfl (fun w1 hB1 hF1 => ?_)
      have hB2 : HB w1 g (.slice _ sm.length c) uv n (leaf + 1) made := hB1
      have := fin w1 hB2
      refine wk ?_
      exact tret1 rfl rfl ⟨by congr 1; omega, hB2, (Fr.drew _ _).t hF1⟩
  · rw [if_neg hT, if_neg hT, if_neg hT]
    have hT' := hT
    simp only [takeB, Bool.and_eq_true, Bool.or_eq_true, decide_eq_true_eq] at hT'
    have fin : ∀ w1 : World, HB w1 g (.slice A sm.length c) uv n leaf (made + 1) → w1.cell? ⟨g, 4, none⟩ = some (.int .i64 ((made : Int) + 1)) := fun w1 h => by rw [Blk.cell h]; simp
    by_cases k1 : leaf < n
    · have k3 : ¬ made = sm.length := fun e => hT' ⟨k1, .inl e⟩
      have k4 : ¬ sm.getD leaf 0 ≤ sm.getD made 0 := fun e => hT' ⟨k1, .inr e⟩
      obtain ⟨b, o, z, rfl, hb1, hz, hcell, _⟩ := at_row hA (show leaf < sm.length by omega)
      obtain ⟨b', o', z', he, _, hz', hcell', _⟩ := at_row hA (show made < sm.length by omega)
      injection he with he; injection he with e1 e2; subst e1; subst e2
      rw [List.getD_eq_getElem?_getD, List.getD_eq_getElem?_getD, hz, hz'] at k4
      simp only [Option.getD_some] at k4
      refine wk ?_
      refine xstb (cs := #[.slice _ sm.length c, uv, .int .i64 n, .int .i64 leaf, .int .i64 made]) hB rfl rfl rfl rfl rfl (fun w1 hB1 hF1 => ?_)
      have hB2 : HB w1 g (.slice _ sm.length c) uv n leaf (made + 1) := hB1
      have := fin w1 hB2
      refine wk ?_
      exact tret1 rfl rfl ⟨by congr 1; omega, hB2, (Fr.drew _ _).t hF1⟩
    · refine wk ?_
      refine xstb (cs := #[.slice A sm.length c, uv, .int .i64 n, .int .i64 leaf, .int .i64 made]) hB rfl rfl rfl rfl rfl (fun w1 hB1 hF1 => ?_)
      have hB2 : HB w1 g (.slice A sm.length c) uv n leaf (made + 1) := hB1
      have := fin w1 hB2
      refine wk ?_
      exact tret1 rfl rfl ⟨by congr 1; omega, hB2, (Fr.drew _ _).t hF1⟩
end Eng
end Go.Proofs.Ytighkjohpmlemaa
