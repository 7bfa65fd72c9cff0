/-
  The tree's Part: the walk.
-/
import Derived.Test.YtleaanenpimanaaGreatDoorWu
import Derived.Test.YtleaanenpimanaaGreatDoorWt
import Derived.Test.YtleaanenpimanaaGreatDoorYa
namespace Go.Proofs.YtleaanenpimanaaGreatDoor
open Go.RowKit
namespace Eng
section
variable {hs : List Nat} {H : World → Prop} {full : Array Oper} {K : Env → World → Prop} {rest : List Oper} {env : Env} {w : World} {d : Tmp} {ty : TypeId} {pos : String} {af : Array Edge}
/-- A closure is made. -/
theorem xmkf {f : FuncId} {caps : List Operand} {vs : List Value} (hc : evs env caps = some vs) (h : xs Tryz.prog isI isS hs H full K rest ((d, .func (.func f) #[] vs.toArray) :: env) w) :
    xs Tryz.prog isI isS hs H full K (⟨some d, .makeFunc (.func f) #[] caps.toArray, ty, pos, af, none⟩ :: rest) env w := by
  obtain ⟨h1, h2⟩ := evs_spec hc
  refine x_gen rfl (by simpa [opsOK, Op.operands] using h2) ⟨_, fun w' => ?_, h⟩
  simp [execOp, Instr.makeFunc, h1]
end
attribute [local irreducible] xs T

/-- Rows whose elements begin with no slice lie in no block of slices. -/
def notSl : Value → Bool
  | .slice .. => false
  | _ => true
theorem Rw.slc {α : Type} {cf : α → List Value} {w w' : World} {v : Value} {l : List α} {g : Nat} {t : TypeId} {cs : Array Value} (h : Rw cf w v l) (hc : ∀ x, ∃ u r, cf x = u :: r ∧ notSl u = true) (hB : Blk w g t cs) (hcs : ∀ u ∈ cs.toList, notSl u = false) (hF : Fr (· = g) w w') : Rw cf w' v l := by
  obtain ⟨A, c, rfl, h1, h2, h3⟩ := h
  refine ⟨A, c, rfl, h1, h2, fun h0 => ?_⟩
  obtain ⟨b, o, rfl, hb, hcell⟩ := h3 h0
  have hne : ¬ b = g := fun e => by
    subst e
    cases l with
    | nil => simp at h0
    | cons x r =>
      obtain ⟨u, q, hu, hn⟩ := hc x
      have := hcell 0 u (by rw [List.flatMap_cons, hu]; rfl)
      rw [hB.cell] at this
      have hm : u ∈ cs.toList := by
        rw [← Array.getElem?_toList] at this
        exact List.mem_of_getElem? this
      rw [hcs u hm] at hn
      cases hn
  exact ⟨b, o, rfl, Nat.lt_of_lt_of_le hb hF.size, fun j u hu => hF.cell (hcell j u hu) hne⟩
theorem TrV.slc {w w' : World} {ve vn : Value} {l : List NdV} {t : Tre} {g : Nat} {ty : TypeId} {cs : Array Value} (h : TrV w ve vn l t) (hB : Blk w g ty cs) (hcs : ∀ u ∈ cs.toList, notSl u = false) (hF : Fr (· = g) w w') : TrV w' ve vn l t :=
  ⟨h.e.slc (fun _ => ⟨_, _, rfl, rfl⟩) hB hcs hF, h.n.slc (fun _ => ⟨_, _, rfl, rfl⟩) hB hcs hF, fun y hy => ⟨(h.i y hy).a.slc (fun _ => ⟨_, _, rfl, rfl⟩) hB hcs hF, (h.i y hy).c.slc (fun _ => ⟨_, _, rfl, rfl⟩) hB hcs hF, (h.i y hy).d.slc (fun _ => ⟨_, _, rfl, rfl⟩) hB hcs hF⟩, h.m⟩
theorem two_slc (A B : Option Addr) (n c n' c' : Nat) : ∀ u ∈ (#[Value.slice A n c, Value.slice B n' c']).toList, notSl u = false := fun u hu => by
  simp only [List.mem_cons, List.not_mem_nil, or_false] at hu
  rcases hu with rfl | rfl <;> rfl
theorem sl_bools : SlT 81 4 (.bool false) 1 1 := slT Tryz.underlying81 (by kernel_rfl)
theorem askL_nil (es : List En) : askL es [] = List.replicate es.length false := by
  unfold askL
  apply List.ext_getElem
  · simp
  · intro i h1 h2; simp
theorem askL_len (es : List En) (tops : List Str) : (askL es tops).length = es.length := by simp [askL]
theorem bools_rw {w : World} {g : Nat} {l : List Bool} (h : Blk w g 4 (l.map Value.bool).toArray) (hl : l.length ≤ maxLen) : Rw boC w (.slice (some ⟨g, 0, none⟩) l.length l.length) l := by
  refine blk_row h hl ?_
  have : ∀ l : List Bool, l.flatMap boC = l.map Value.bool := by
    intro l
    induction l with
    | nil => rfl
    | cons x l ih => rw [List.flatMap_cons, ih]; rfl
  rw [this]
/-- What Part answers. -/
def PartR (t : Tre) (tops : List Str) (w : World) (r : Value) (w' : World) : Prop := Ext w w' ∧ match partT t tops with
  | (none, e) => r = .tuple #[.agg #[.slice none 0 0, .slice none 0 0], .int .i64 e]
  | (some t', e) => ∃ ve vn nvs, r = .tuple #[.agg #[ve, vn], .int .i64 e] ∧ TrV w' ve vn nvs t'
theorem part_may {t : Tre} {tops : List Str} (h : mayT t = false) : partT t tops = (none, 1) := by unfold partT; rw [if_neg (by rw [h]; decide)]
theorem part_none {t : Tre} {tops : List Str} {q : Str} (h : mayT t = true) (hq : q ∈ tops) (hn : ∀ e ∈ t.es, e.path ≠ q) : partT t tops = (none, 7) := by
  unfold partT
  rw [if_pos h, if_neg]
  intro hh
  have := List.all_eq_true.1 hh q hq
  cases hf : findT t.es q with
  | none => rw [hf] at this; cases this
  | some k =>
    obtain ⟨e, he, hp, _⟩ := findT_mem hf
    exact hn e he hp
theorem part_norm {t : Tre} {tops : List Str} (h : mayT t = true) (hf : ∀ q ∈ tops, ∃ e ∈ t.es, e.path = q) : partT t tops = match normT ⟨t.es.filter (fun e => wantP tops e.path), t.ns⟩ with
    | some u => (some u, 0)
    | none => (none, 1) := by
  have hall : (tops.all fun q => (findT t.es q).isSome) = true := by
    rw [List.all_eq_true]
    intro q hq
    obtain ⟨e, he, hp⟩ := hf q hq
    cases hff : findT t.es q with
    | none => exact absurd hp (findT_none hff e he)
    | some k => rfl
  unfold partT
  rw [if_pos h, if_pos hall]
  rfl

structure PtS where
  i : Nat
  g6 : Nat
  g7 : Nat
structure PtI (t : Tre) (tops : List Str) (w0 : World) (x : PtS) (w : World) : Prop where
  may : mayT t = true
  ext : Ext w0 w
  le : x.i ≤ tops.length
  ask : Blk w x.g6 4 ((askL t.es (tops.take x.i)).map Value.bool).toArray
  ctr : Blk w x.g7 3 #[.int .i64 (x.i : Int)]
  fnd : ∀ q ∈ tops.take x.i, ∃ e ∈ t.es, e.path = q
  s : w0.heap.size ≤ x.g6 ∧ x.g6 < x.g7
structure PtS1 where
  i : Nat
  g6 : Nat
  g7 : Nat
  g9 : Nat
  B : Nat
  vp : Value
structure PtI1 (t : Tre) (tops : List Str) (vn : Value) (w0 : World) (x : PtS1) (w : World) : Prop where
  may : mayT t = true
  ext : Ext w0 w
  le : x.i ≤ t.es.length
  ask : Blk w x.g6 4 ((askL t.es tops).map Value.bool).toArray
  ctr : Blk w x.g7 3 #[.int .i64 (x.i : Int)]
  part : Blk w x.g9 25 #[x.vp, vn]
  own : Ow enC 2 w x.B 49 x.vp ((t.es.take x.i).filter fun e => wantP tops e.path)
  fnd : ∀ q ∈ tops, ∃ e ∈ t.es, e.path = q
  s : w0.heap.size ≤ x.g6 ∧ x.g6 < x.g7 ∧ x.g7 < x.g9 ∧ x.g9 < x.B ∧ x.B ≤ w.heap.size

set_option maxRecDepth 20000 in
set_option maxHeartbeats 8000000 in
theorem tpart_does (w : World) (ve vn vt : Value) (nvs : List NdV) (t : Tre) (tops : List Str) (hv : TrV w ve vn nvs t) (ht : Rw stC w vt tops) (hn : NsOK t.ns) (hL : ∀ n ∈ t.ns, NdL n) : Does Tryz.prog 16 #[.agg #[ve, vn], vt] w (PartR t tops w) := by
  refine does2 Tryz.func16 rfl (by kernel_rfl) ?_
  have hN : ∀ {a b c : World} {g : Nat}, Ext a b → Fr (· = g) b c → a.heap.size ≤ g → Ext a c := fun h1 h2 hg => h1.trans h2 fun j hj e => absurd hj (by omega)
  have hv0 := hv
  obtain ⟨A, c, rfl, hc1, hc2, hA⟩ := hv.e.op enC_len
  obtain ⟨A', c', rfl, hc1', hc2', hA'⟩ := hv.n.op ndC_len
  obtain ⟨AT, cT, rfl, hcT1, hcT2, hAT⟩ := ht.op stC_len
  have hlen := hv.len
  refine goL ?_
  refine xbox rfl (fun w1 hB1 hE1 hs1 => ?_)
  have hT1 : Blk w1 w.heap.size 25 #[.slice A t.es.length c, .slice A' nvs.length c'] := hB1
  refine goL ?_
  refine xbox rfl (fun w2 hB2 hE2 hs2 => ?_)
  have hS2 : Blk w2 w1.heap.size 26 #[.slice AT tops.length cT] := hB2
  refine goL ?_
  refine xalloc (z := .agg #[.slice none 0 0, .slice none 0 0]) (by kernel_rfl) (fun w3 hB3 hE3 hs3 => ?_)
  have hR3 : Blk w3 w2.heap.size 25 #[.slice none 0 0, .slice none 0 0] := hB3
  have hE13 : Ext w1 w3 := hE2.t hE3
  have hE03 : Ext w w3 := hE1.t hE13
  have hT3 := hT1.ext hE13
  have hS3 := hS2.ext hE3
  refine goL ?_
  refine tscope2 (α := PtS) (β := PtS1) 0 1 (by decide) rfl rfl
    (fun x => [(2, .pointer (some ⟨w.heap.size, 0, none⟩)), (3, .pointer (some ⟨w1.heap.size, 0, none⟩)), (4, .pointer (some ⟨w2.heap.size, 0, none⟩)), (6, .slice (some ⟨x.g6, 0, none⟩) t.es.length t.es.length), (7, .pointer (some ⟨x.g7, 0, none⟩))])
    (PtI t tops w3) (fun x => tops.length - x.i + 101)
    (fun x => [(2, .pointer (some ⟨w.heap.size, 0, none⟩)), (4, .pointer (some ⟨w2.heap.size, 0, none⟩)), (6, .slice (some ⟨x.g6, 0, none⟩) t.es.length t.es.length), (7, .pointer (some ⟨x.g7, 0, none⟩)), (9, .pointer (some ⟨x.g9, 0, none⟩))])
    (PtI1 t tops (.slice A' nvs.length c') w3) (fun x => t.es.length - x.i) ?_ ?_ ?_
  · rintro ⟨i, g6, g7⟩ w4 ⟨hmay, hE4, hi, hask, hctr, hfnd, hs⟩ hj
    dsimp only at hi hask hctr hfnd hs hj ⊢
    obtain ⟨s1, s2⟩ := hs
    have hE04 := hE03.t hE4
    have m0 : w4.cell? ⟨w.heap.size, 0, none⟩ = some (.slice A t.es.length c) := (hT3.ext hE4).cell 0
    have m1 : w4.cell? ⟨w.heap.size, 1, none⟩ = some (.slice A' nvs.length c') := (hT3.ext hE4).cell 1
    have m3 : w4.cell? ⟨w1.heap.size, 0, none⟩ = some (.slice AT tops.length cT) := (hS3.ext hE4).cell 0
    have m7 : w4.cell? ⟨g7, 0, none⟩ = some (.int .i64 (i : Int)) := hctr.cell 0
    have h100 : t.es.length ≤ 100 := (may_good hmay).len
    by_cases hlt : i < tops.length
    · obtain ⟨q, hq⟩ : ∃ q, tops[i]? = some q := ⟨_, List.getElem?_eq_getElem hlt⟩
      repeat' (first | refine xmkf rfl ?_ | refine go1L ?_ | fail)
      refine xcallE rfl rfl (indexFunc_does w4 _ t.es 53 _ (fun e => decide (e.path = q)) (hv0.e.ext hE04) (by kernel_rfl) (fun w' hE' e _ => part1_does w' e w1.heap.size g7 tops.length cT i AT tops q (hE'.cell m3) (ht.ext (hE04.t hE')) (hE'.cell m7) hq)) (fun r w5 h5 => ?_)
      obtain ⟨rfl, hE5⟩ := h5
      have hE05 := hE04.t hE5
      rcases idxF_spec (fun e => decide (e.path = q)) t.es 0 with ⟨h1, h2⟩ | ⟨k, x, h1, h2, h3⟩
      · rw [h1]
        have hno : partT t tops = (none, 7) := part_none hmay (List.mem_of_getElem? hq) fun e he hp => by
          have := h2 e he
          rw [hp] at this
          simp at this
        refine goL ?_
        refine xbd (parts := []) (cells := #[.slice none 0 0, .slice none 0 0]) rfl (by kernel_rfl) ?_
        refine goL ?_
        refine xsta (hR3.ext (hE4.t hE5)) rfl rfl (by kernel_rfl) rfl (one_cells (l := [.slice none 0 0, .slice none 0 0]) rfl) (fun w6 hB6 hF6 => ?_)
        refine goL ?_
        exact tretc2 rfl rfl rfl hB6 (by kernel_rfl) ⟨hN hE05 hF6 (by omega), by rw [hno]⟩
      · have h3' : idxF (fun e => decide (e.path = q)) t.es 0 = (k : Int) := by rw [h3]; simp
        rw [h3']
        have hkl := (List.getElem?_eq_some_iff.1 h1).1
        have hxq : x.path = q := of_decide_eq_true h2
        have hask5 := hask.ext hE5
        have hctr5 := hctr.ext hE5
        repeat' (first | refine xisq k k rfl rfl rfl rfl (by omega) hkl ?_ | refine go1L ?_ | fail)
        refine xstb hask5 rfl rfl (by kernel_rfl) rfl (by simp only [List.size_toArray, List.length_map, askL_len]; exact decide_eq_true hkl) (fun w6 hB6 hF6 => ?_)
        have hctr6 := hctr5.fr hF6 (show ¬ g7 = g6 by omega)
        have m76 : w6.cell? ⟨g7, 0, none⟩ = some (.int .i64 (i : Int)) := hctr6.cell 0
        refine goL ?_
        refine xstb hctr6 rfl rfl (by kernel_rfl) rfl rfl (fun w7 hB7 hF7 => ?_)
        refine goL ?_
        have hset : Blk w7 g6 4 ((askL t.es (tops.take (i + 1))).map Value.bool).toArray := by
          have hB6' := hB6.fr hF7 (show ¬ g6 = g7 by omega)
          rw [List.setIfInBounds_toArray] at hB6'
          have e2 := askL_snoc (tops := tops.take i) (may_good hmay).nd h1
          rw [List.take_add_one, hq, Option.toList_some, ← hxq, ← e2, List.map_set]
          exact hB6'
        refine tgoto rfl ⟨_, (by show tops.length - (i + 1) + 101 < tops.length - i + 101; omega), .inl ⟨rfl, ⟨i + 1, g6, g7⟩, sub ⟨rfl, rfl, rfl, rfl, rfl⟩, ⟨hmay, hN (hN (hE4.t hE5) hF6 s1) hF7 (by omega), hlt, hset, hB7, ?_, ⟨s1, s2⟩⟩, rfl⟩⟩
        intro q' hq'
        dsimp only at hq'
        rw [List.take_add_one, hq] at hq'
        rcases List.mem_append.1 hq' with hq' | hq'
        · exact hfnd q' hq'
        · have : q' = q := by simpa using hq'
          exact ⟨x, List.mem_of_getElem? h1, by rw [this]; exact hxq⟩
    · obtain rfl : i = tops.length := by omega
      rw [List.take_length] at hask hfnd
      refine goL ?_
      refine xbd (parts := [(1, .tmp 35)]) (cells := #[.slice none 0 0, .slice A' nvs.length c']) rfl (by first | rfl | kernel_rfl) ?_
      refine xalloc (z := .agg #[.slice none 0 0, .slice none 0 0]) (by kernel_rfl) (fun w5 hB5 hE5 hs5 => ?_)
      refine xsta hB5 rfl rfl (by kernel_rfl) rfl (one_cells (l := [.slice none 0 0, .slice A' nvs.length c']) rfl) (fun w6 hB6 hF6 => ?_)
      have hE46 : Ext w4 w6 := hN hE5 hF6 (Nat.le_refl _)
      have hctr6 := hctr.ext hE46
      refine goL ?_
      refine xstb hctr6 rfl rfl (by kernel_rfl) rfl rfl (fun w7 hB7 hF7 => ?_)
      refine goL ?_
      have h7lt := hctr.lt
      have z6 := hF6.size
      have z7 := hF7.size
      refine tlabel ?_
      exact tweak (hj ⟨0, g6, g7, w4.heap.size, w6.heap.size, .slice none 0 0⟩ w7 ⟨hmay, hN (hE4.t hE46) hF7 (by omega), Nat.zero_le _, (hask.ext hE46).fr hF7 (show ¬ g6 = g7 by omega), hB7, hB6.fr hF7 (show ¬ w4.heap.size = g7 by omega), Ow.nil _ _ _, hfnd, ⟨s1, s2, h7lt, (by dsimp only; omega), (by dsimp only; omega)⟩⟩ (by dsimp only; omega)) (sub ⟨rfl, rfl, rfl, rfl, rfl⟩)
  · rintro ⟨i, g6, g7, g9, B, vp⟩ w4 ⟨hmay, hE4, hi, hask, hctr, hpart, hown, hfnd, hs⟩ hj
    dsimp only at hi hask hctr hpart hown hfnd hs hj ⊢
    obtain ⟨s1, s2, s3, s4, s5⟩ := hs
    have hE04 := hE03.t hE4
    have h100 : t.es.length ≤ 100 := (may_good hmay).len
    obtain ⟨Ap, cp, rfl, _, _⟩ := hown.form
    have hfl := List.length_filter_le (fun e => wantP tops e.path) (t.es.take i)
    rw [List.length_take] at hfl
    have hT4 := hT3.ext hE4
    have m0 : w4.cell? ⟨w.heap.size, 0, none⟩ = some (.slice A t.es.length c) := hT4.cell 0
    have m7 : w4.cell? ⟨g7, 0, none⟩ = some (.int .i64 (i : Int)) := hctr.cell 0
    by_cases hlt : i < t.es.length
    · obtain ⟨b, o, e, rfl, _, he, _, hcell⟩ := hA.at_ hlt
      have m0d : w4.drew.cell? ⟨w.heap.size, 0, none⟩ = some (.slice (some ⟨b, o, none⟩) t.es.length c) := m0
      have m7d : w4.drew.cell? ⟨g7, 0, none⟩ = some (.int .i64 (i : Int)) := m7
      have hT4d : Blk w4.drew w.heap.size 25 #[.slice (some ⟨b, o, none⟩) t.es.length c, .slice A' nvs.length c'] := hT4
      have ep : w4.drew.cell? ⟨b, o + i * 2 + 0, none⟩ = some (.string (su e.path)) := hE04.ed.cell (hcell 0 _ rfl)
      have hrw : Rw boC w4.drew (.slice (some ⟨g6, 0, none⟩) t.es.length t.es.length) (askL t.es tops) := by
        have := bools_rw (w := w4.drew) hask (by rw [askL_len]; unfold maxLen; omega)
        rwa [askL_len] at this
      have htake : (t.es.take (i + 1)).filter (fun e => wantP tops e.path) = (t.es.take i).filter (fun e => wantP tops e.path) ++ if wantP tops e.path then [e] else [] := by
        rw [List.take_add_one, he, List.filter_append]
        congr 1
        by_cases hw : wantP tops e.path = true <;> simp [hw]
      repeat' (first | refine xlda (t := 25) hT4d rfl rfl ?_ | refine xizq i (o + i * 2) rfl rfl rfl rfl rfl hlt ?_ | refine go1L ?_ | fail)
      refine xcallE rfl rfl (wanted_does w4.drew _ _ _ t.es (askL t.es tops) e.path (hv0.e.ext hE04.ed) hrw (by rw [askL_len])) (fun r w5 h5 => ?_)
      obtain ⟨rfl, hE5⟩ := h5
      rw [wantG_ask hfnd]
      have hE45 : Ext w4 w5 := (Fr.drew _ _).t hE5
      have hctr5 := hctr.ext hE45
      have m75 : w5.cell? ⟨g7, 0, none⟩ = some (.int .i64 (i : Int)) := hctr5.cell 0
      cases hw : wantP tops e.path with
      | false =>
        refine goL ?_
        refine xstb hctr5 rfl rfl (by kernel_rfl) rfl rfl (fun w6 hB6 hF6 => ?_)
        refine goL ?_
        exact tgoto rfl ⟨_, (by show t.es.length - (i + 1) < t.es.length - i; omega), .inr ⟨rfl, ⟨i + 1, g6, g7, g9, B, .slice Ap _ cp⟩, sub ⟨rfl, rfl, rfl, rfl, rfl⟩, ⟨hmay, hN (hE4.t hE45) hF6 (by omega), hlt, (hask.ext hE45).fr hF6 (show ¬ g6 = g7 by omega), hB6, (hpart.ext hE45).fr hF6 (show ¬ g9 = g7 by omega), by dsimp only; rw [htake, hw]; simpa using (hown.ext hE45).fr hF6 (fun b hb => by have := (hown.blk hb).1; show ¬ b = g7; omega), hfnd, ⟨s1, s2, s3, s4, (by have := hE45.size; have := hF6.size; dsimp only; omega)⟩⟩, rfl⟩⟩
      | true =>
        have c90 : w5.drew.cell? ⟨g9, 0, none⟩ = some (.slice Ap ((t.es.take i).filter fun e => wantP tops e.path).length cp) := (hpart.ext hE45).cell 0
        have m05 : w5.drew.cell? ⟨w.heap.size, 0, none⟩ = some (.slice (some ⟨b, o, none⟩) t.es.length c) := hE45.ed.cell m0
        have m75d : w5.drew.cell? ⟨g7, 0, none⟩ = some (.int .i64 (i : Int)) := m75
        have hec : ∀ j u, (enC e)[j]? = some u → w5.drew.cell? ⟨b, o + i * 2 + j, none⟩ = some u := fun j u hu => (hE04.t hE45).ed.cell (hcell j u hu)
        refine goL ?_
        refine tdrawC 8 [52] (fun w' => w'.cell? ⟨g9, 0, none⟩ = some (.slice Ap ((t.es.take i).filter fun e => wantP tops e.path).length cp)) (by kernel_rfl) (by decide +kernel) c90 ?_
        repeat' (first | refine xldh rfl rfl (fun _ h => h) ?_ | refine xizq i (o + i * 2) rfl rfl rfl rfl rfl hlt ?_ | refine go1L ?_ | fail)
        refine xldz (cs := enC e) rfl rfl hec ?_
        refine xbz1 sl_ents rfl rfl (by decide) (by decide) (fun w6 hB6 hE6 hs6 => ?_) (fun w' he => he.cell c90)
        have hE56 : Ext w5 w6 := (Fr.drew _ _).t hE6
        have hE46 := hE45.t hE56
        have z6 := hE46.size
        refine xnil ?_
        refine xapz (B := B) (news := enC e) sl_ents rfl (by decide) rfl (hown.ext hE46) rfl (blk_row hB6 (by decide) rfl) rfl (fun u hu => enC_one [e] u (by simpa using hu)) (by unfold maxLen; omega) (by omega) (by omega) (fun v7 w7 hO7 hF7 _ => ?_)
        have hO7' : Ow enC 2 w7 B 49 v7 ((t.es.take i).filter (fun e => wantP tops e.path) ++ [e]) := Ow.ext1 (l' := [e]) (by simpa using hO7)
        obtain ⟨A7, c7, rfl, _, _⟩ := hO7'.form
        have hne7 : ∀ x, x < B → ¬ (Value.slice Ap ((t.es.take i).filter fun e => wantP tops e.path).length cp).ownBlock = some x := fun x hx h => by have := (hown.blk h).1; omega
        have hpart7 := (hpart.ext hE46).fr hF7 (hne7 g9 s4)
        refine goL ?_
        refine xstb hpart7 rfl rfl (by kernel_rfl) rfl rfl (fun w8 hB8 hF8 => ?_)
        have hctr8 : Blk w8 g7 3 #[.int .i64 (i : Int)] := ((hctr.ext hE46).fr hF7 (hne7 g7 (by omega))).fr hF8 (show ¬ g7 = g9 by omega)
        have m78 : w8.cell? ⟨g7, 0, none⟩ = some (.int .i64 (i : Int)) := hctr8.cell 0
        refine goL ?_
        refine xstb hctr8 rfl rfl (by kernel_rfl) rfl rfl (fun w9 hB9 hF9 => ?_)
        refine goL ?_
        have hE47 : Ext w3 w7 := (hE4.t hE46).trans hF7 fun j hj h => absurd h (hne7 j (by omega))
        have z9 := hF9.size
        have z8 := hF8.size
        have z7 := hF7.size
        exact tgoto rfl ⟨_, (by show t.es.length - (i + 1) < t.es.length - i; omega), .inr ⟨rfl, ⟨i + 1, g6, g7, g9, B, .slice A7 _ c7⟩, sub ⟨rfl, rfl, rfl, rfl, rfl⟩, ⟨hmay, hN (hN hE47 hF8 (by omega)) hF9 (by omega), hlt, (((hask.ext hE46).fr hF7 (hne7 g6 (by omega))).fr hF8 (show ¬ g6 = g9 by omega)).fr hF9 (show ¬ g6 = g7 by omega), hB9, hB8.fr hF9 (show ¬ g9 = g7 by omega), by dsimp only; rw [htake, hw]; simpa using (hO7'.fr hF8 (fun b hb => by have := (hO7'.blk hb).1; show ¬ b = g9; omega)).fr hF9 (fun b hb => by have := (hO7'.blk hb).1; show ¬ b = g7; omega), hfnd, ⟨s1, s2, s3, s4, (by dsimp only; omega)⟩⟩, rfl⟩⟩
    · obtain rfl : i = t.es.length := by omega
      rw [List.take_length] at hown hpart
      have hp := part_norm hmay hfnd
      have htr : TrV w4 (.slice Ap (t.es.filter fun e => wantP tops e.path).length cp) (.slice A' nvs.length c') nvs ⟨t.es.filter (fun e => wantP tops e.path), t.ns⟩ := ⟨hown.rw, (hv0.n).ext hE04, fun y hy => (hv0.i y hy).ext hE04, hv0.m⟩
      refine goL ?_
      refine xlda (t := 25) hpart rfl rfl ?_
      refine goL ?_
      refine xcallE rfl rfl (norm_does w4 _ _ nvs ⟨t.es.filter (fun e => wantP tops e.path), t.ns⟩ htr hn hL) (fun r w5 h5 => ?_)
      obtain ⟨hE5, h5⟩ := h5
      have hR5 := hR3.ext (hE4.t hE5)
      unfold PartR
      rw [hp]
      cases hno : normT ⟨t.es.filter (fun e => wantP tops e.path), t.ns⟩ with
      | none =>
        rw [hno] at h5
        dsimp only at h5
        subst h5
        refine goL ?_
        refine xsta hR5 rfl rfl (by kernel_rfl) rfl (one_cells (l := [.slice none 0 0, .slice none 0 0]) rfl) (fun w6 hB6 hF6 => ?_)
        refine goL ?_
        exact tretc2 rfl rfl rfl hB6 (by kernel_rfl) ⟨hN (hE04.t hE5) hF6 (by omega), rfl⟩
      | some u =>
        rw [hno] at h5
        dsimp only at h5
        obtain ⟨ve', vn', l', rfl, hT⟩ := h5
        obtain ⟨A1, c1, rfl, _, _, _⟩ := hT.e.op enC_len
        obtain ⟨N1, d1, rfl, _, _, _⟩ := hT.n.op ndC_len
        refine goL ?_
        refine xsta hR5 rfl rfl (by kernel_rfl) rfl (one_cells (l := [.slice A1 u.es.length c1, .slice N1 l'.length d1]) rfl) (fun w6 hB6 hF6 => ?_)
        refine goL ?_
        refine tretc2 rfl rfl rfl hB6 (by kernel_rfl) ⟨hN (hE04.t hE5) hF6 (by omega), ⟨_, _, l', rfl, hT.slc hR5 (two_slc _ _ _ _ _ _) hF6⟩⟩
  · intro H0 H1
    refine goL ?_
    refine xlda (t := 25) hT3 rfl rfl ?_
    refine goL ?_
    refine xcallE rfl rfl (tmay_does w3 _ _ nvs t (hv0.ext hE03) hn) (fun r w4 h4 => ?_)
    obtain ⟨rfl, hE4⟩ := h4
    cases hm : mayT t with
    | false =>
      refine goL ?_
      refine xbd (parts := []) (cells := #[.slice none 0 0, .slice none 0 0]) rfl (by kernel_rfl) ?_
      refine goL ?_
      refine xsta (hR3.ext hE4) rfl rfl (by kernel_rfl) rfl (one_cells (l := [.slice none 0 0, .slice none 0 0]) rfl) (fun w5 hB5 hF5 => ?_)
      refine goL ?_
      exact tretc2 rfl rfl rfl hB5 (by kernel_rfl) ⟨hN (hE03.t hE4) hF5 (by omega), by rw [part_may hm]⟩
    | true =>
      have h100 : t.es.length ≤ 100 := (may_good hm).len
      have m0 : w4.cell? ⟨w.heap.size, 0, none⟩ = some (.slice A t.es.length c) := (hT3.ext hE4).cell 0
      refine goL ?_
      refine xmk sl_bools rfl rfl rfl (by omega) (by omega) (by omega) (fun w5 hB5 hE5 hs5 => ?_)
      rw [Int.toNat_natCast] at hB5 ⊢
      refine goL ?_
      refine xalloc (z := .int .i64 0) (by kernel_rfl) (fun w6 hB6 hE6 hs6 => ?_)
      have hB6' : Blk w6 w5.heap.size 3 #[.int .i64 0] := hB6
      refine xstb hB6' rfl rfl (by kernel_rfl) rfl rfl (fun w7 hB7 hF7 => ?_)
      refine goL ?_
      have hE37 : Ext w3 w7 := hN (hE4.t (hE5.t hE6)) hF7 (by have := hE4.size; have := hE5.size; omega)
      have z4 := hE4.size
      refine tlabel ?_
      refine tweak (H0 ⟨0, w4.heap.size, w5.heap.size⟩ w7 ⟨hm, hE37, Nat.zero_le _, ?_, hB7, (fun q hq => by rw [List.take_zero] at hq; cases hq), ⟨z4, (by dsimp only; omega)⟩⟩) (sub ⟨rfl, rfl, rfl, rfl, rfl⟩)
      dsimp only
      rw [List.take_zero, askL_nil, List.map_replicate]
      have := (Blk.ext hB5 hE6).fr hF7 (show ¬ w4.heap.size = w5.heap.size by omega)
      simpa using this
end Eng
end Go.Proofs.YtleaanenpimanaaGreatDoor
