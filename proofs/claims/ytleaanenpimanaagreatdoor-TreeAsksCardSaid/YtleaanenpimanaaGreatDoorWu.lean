/-
  The tree's Part: the search for an entry by a closure, and what is wanted. Plain law: which entries a part asks for.
-/
import Derived.Test.YtleaanenpimanaaGreatDoorWo
/-! The tree's Part: the search for an entry by a closure, and what is wanted. -/
namespace Go.Proofs.YtleaanenpimanaaGreatDoor
open Go.RowKit
namespace Eng

/-- The first place where p holds, or -1. -/
def idxF (p : En → Bool) : List En → Nat → Int
  | [], _ => -1
  | x :: r, k => if p x then (k : Int) else idxF p r (k + 1)

set_option maxRecDepth 20000 in
set_option maxHeartbeats 2000000 in
theorem indexFunc_does (w : World) (v : Value) (l : List En) (f : FuncId) (cap : Array Value) (p : En → Bool) (hv : Rw enC w v l) (hf : bit m_cal f = true) (hp : ∀ w', Ext w w' → ∀ x ∈ l, Does Tryz.prog f (#[.agg (enC x).toArray] ++ cap) w' fun r w'' => r = .bool (p x) ∧ Ext w' w'') : Does Tryz.prog 52 #[v, .func (.func f) #[] cap] w fun r w' => r = .int .i64 (idxF p l 0) ∧ Ext w w' := by
  refine does2 Tryz.func52 rfl (by kernel_rfl) ?_
  obtain ⟨A, c, rfl, hc1, hc2, hA⟩ := hv.op enC_len
  refine goL ?_
  refine tloop (α := Nat) (fun i => [(0, .slice A l.length c), (1, .func (.func f) #[] cap), (7, .int .i64 (l.length : Int)), (8, .int .i64 (i : Int))]) (fun i w' => Ext w w' ∧ i ≤ l.length ∧ idxF p (l.drop i) i = idxF p l 0) (fun i => l.length - i) 0 (sub ⟨rfl, rfl, rfl, rfl⟩) ⟨Fr.refl _ _, Nat.zero_le _, rfl⟩ ?_
  rintro i w1 ⟨hE, hi, hgo⟩
  by_cases hlt : i < l.length
  · obtain ⟨b, o, x, rfl, _, hx, hdr, hcell⟩ := hA.at_ hlt
    rw [hdr, idxF] at hgo
    repeat' (first | refine xizq i (o + i * 2) rfl rfl rfl rfl rfl hlt ?_ | refine go1L ?_ | fail)
    refine xldz (cs := enC x) rfl (by kernel_rfl) (fun j u hu => hE.cell (hcell j u hu)) ?_
    refine xcallv (vs := [.agg (enC x).toArray]) rfl rfl hf (hp w1 hE x (List.mem_of_getElem? hx)) (fun r w2 h2 => ?_)
    obtain ⟨rfl, hE2⟩ := h2
    cases h : p x with
    | true =>
      rw [h, if_pos rfl] at hgo
      refine goL ?_
      exact tret1 rfl rfl ⟨by rw [← hgo], hE.t hE2⟩
    | false =>
      rw [h, if_neg (by decide)] at hgo
      refine goL ?_
      exact tfin ⟨i + 1, sub ⟨rfl, rfl, rfl, rfl⟩, ⟨hE.t hE2, by omega, hgo⟩, (by show l.length - (i + 1) < l.length - i; omega)⟩
  · obtain rfl : i = l.length := by omega
    rw [List.drop_length, idxF] at hgo
    refine goL ?_
    exact tret1 rfl rfl ⟨by rw [← hgo], hE⟩

set_option maxRecDepth 20000 in
set_option maxHeartbeats 2000000 in
theorem part1_does (w : World) (e : En) (g3 g7 n c i : Nat) (A : Option Addr) (l : List Str) (q : Str) (h3 : w.cell? ⟨g3, 0, none⟩ = some (.slice A n c)) (hl : Rw stC w (.slice A n c) l) (h7 : w.cell? ⟨g7, 0, none⟩ = some (.int .i64 i)) (hq : l[i]? = some q) : Does Tryz.prog 53 #[.agg (enC e).toArray, .pointer (some ⟨g3, 0, none⟩), .pointer (some ⟨g7, 0, none⟩)] w fun r w' => r = .bool (decide (e.path = q)) ∧ Ext w w' := by
  refine does3 Tryz.func53 rfl (by kernel_rfl) ?_
  obtain ⟨A', c', e1, hc1, hc2, hA⟩ := hl.op stC_len
  injection e1 with e1 e2 e3
  subst e1; subst e2; subst e3
  have hlt := (List.getElem?_eq_some_iff.1 hq).1
  obtain ⟨b, o, x, rfl, _, hx, _, hcell⟩ := hA.at_ hlt
  rw [hq] at hx
  injection hx with hx
  subst hx
  refine goL ?_
  refine xbox rfl (fun w1 hB1 hE1 hs1 => ?_)
  have hEd : Ext w w1.drew := hE1.d
  have k0 : w1.drew.cell? ⟨w.heap.size, 0, none⟩ = some (.string (su e.path)) := Blk.cell hB1 0
  have k3 : w1.drew.cell? ⟨g3, 0, none⟩ = some (.slice (some ⟨b, o, none⟩) l.length c) := hEd.cell h3
  have k7 : w1.drew.cell? ⟨g7, 0, none⟩ = some (.int .i64 i) := hEd.cell h7
  have kq : w1.drew.cell? ⟨b, o + i, none⟩ = some (.string (su q)) := by
    have := hEd.cell (hcell 0 _ rfl)
    rw [Nat.mul_one, Nat.add_zero] at this
    exact this
  repeat' (first | refine xisq i (o + i) rfl rfl rfl rfl rfl hlt ?_ | refine xucmp (op := .eql) rfl rfl rfl ?_ | refine go1L ?_ | fail)
  exact tret1 rfl rfl ⟨rfl, hEd⟩

def boC (b : Bool) : List Value := [.bool b]
theorem boC_len (b : Bool) : (boC b).length = 1 := rfl
/-- Is a path wanted, some entries being asked for? -/
def wantG (es : List En) (asked : List Bool) (p : Str) : Bool := ((es.zip asked).any fun x => x.2 && (underP p x.1.path || underP x.1.path p)) || decide (p = [])

set_option maxRecDepth 20000 in
set_option maxHeartbeats 4000000 in
theorem wanted_does (w : World) (ve vn va : Value) (es : List En) (asked : List Bool) (p : Str) (he : Rw enC w ve es) (ha : Rw boC w va asked) (hl : es.length = asked.length) : Does Tryz.prog 54 #[.agg #[ve, vn], va, .string (su p)] w fun r w' => r = .bool (wantG es asked p) ∧ Ext w w' := by
  refine does3 Tryz.func54 rfl (by kernel_rfl) ?_
  obtain ⟨A, c, rfl, hc1, hc2, hA⟩ := he.op enC_len
  obtain ⟨A', c', rfl, hc1', hc2', hA'⟩ := ha.op boC_len
  refine goL ?_
  refine xbox rfl (fun w1 hB1 hE1 hs1 => ?_)
  have k0 : w1.cell? ⟨w.heap.size, 0, none⟩ = some (.slice A es.length c) := Blk.cell hB1 0
  refine goL ?_
  refine tscope1 (α := Nat) 0 rfl (fun i => [(1, .slice A' asked.length c'), (2, .string (su p)), (3, .pointer (some ⟨w.heap.size, 0, none⟩)), (7, .int .i64 (i : Int))]) (fun i w' => Ext w1 w' ∧ i ≤ asked.length ∧ ((((es.zip asked).drop i).any fun x => x.2 && (underP p x.1.path || underP x.1.path p)) || decide (p = [])) = wantG es asked p) (fun i => asked.length - i) ?_ ?_
  · rintro i w2 ⟨hE, hi, hgo⟩
    have hE02 : Ext w w2 := hE1.t hE
    have j0 : w2.cell? ⟨w.heap.size, 0, none⟩ = some (.slice A es.length c) := hE.cell k0
    by_cases hlt : i < asked.length
    · obtain ⟨b, o, e, rfl, _, hx, _, hcell⟩ := hA.at_ (i := i) (by omega)
      obtain ⟨b', o', a, rfl, _, hx', _, hcell'⟩ := hA'.at_ hlt
      have hz : (es.zip asked)[i]? = some (e, a) := List.getElem?_zip_eq_some.2 ⟨hx, hx'⟩
      rw [drop_get hz, List.any_cons] at hgo
      have c0 : w2.cell? ⟨b, o + i * 2 + 0, none⟩ = some (.string (su e.path)) := hE02.cell (hcell 0 _ rfl)
      have c1 : w2.cell? ⟨b', o' + i, none⟩ = some (.bool a) := by
        have := hE02.cell (hcell' 0 _ rfl)
        rw [Nat.mul_one, Nat.add_zero] at this
        exact this
      cases a with
      | false =>
        simp only [Bool.false_and, Bool.false_or] at hgo
        repeat' (first | refine xizq i (o + i * 2) rfl rfl rfl rfl rfl (by omega) ?_ | refine xisq i (o' + i) rfl rfl rfl rfl rfl hlt ?_ | refine go1L ?_ | fail)
        exact tgoto rfl ⟨_, (by show asked.length - (i + 1) < asked.length - i; omega), rfl, i + 1, sub ⟨rfl, rfl, rfl, rfl⟩, ⟨hE, by omega, hgo⟩, rfl⟩
      | true =>
        simp only [Bool.true_and] at hgo
        repeat' (first | refine xizq i (o + i * 2) rfl rfl rfl rfl rfl (by omega) ?_ | refine xisq i (o' + i) rfl rfl rfl rfl rfl hlt ?_ | refine go1L ?_ | fail)
        refine xcallE rfl rfl (under_does w2 p e.path) (fun r w3 h3 => ?_)
        obtain ⟨rfl, hE3⟩ := h3
        cases h1 : underP p e.path with
        | true =>
          rw [h1] at hgo
          refine goL ?_
          exact tret1 rfl rfl ⟨by rw [← hgo]; simp, hE02.t hE3⟩
        | false =>
          rw [h1, Bool.false_or] at hgo
          refine goL ?_
          refine xcallE rfl rfl (under_does w3 e.path p) (fun r w4 h4 => ?_)
          obtain ⟨rfl, hE4⟩ := h4
          cases h2 : underP e.path p with
          | true =>
            rw [h2] at hgo
            refine goL ?_
            exact tret1 rfl rfl ⟨by rw [← hgo]; simp, (hE02.t hE3).t hE4⟩
          | false =>
            rw [h2, Bool.false_or] at hgo
            refine goL ?_
            exact tgoto rfl ⟨_, (by show asked.length - (i + 1) < asked.length - i; omega), rfl, i + 1, sub ⟨rfl, rfl, rfl, rfl⟩, ⟨hE.t (hE3.t hE4), by omega, hgo⟩, rfl⟩
    · have hiA : i = asked.length := by omega
      rw [List.drop_eq_nil_of_le (by rw [List.length_zip]; omega), List.any_nil, Bool.false_or] at hgo
      repeat' (first | refine xucmp (op := .eql) (b := []) rfl rfl rfl ?_ | refine go1L ?_ | fail)
      exact tret1 rfl rfl ⟨by rw [← hgo], hE02⟩
  · intro H
    refine goL ?_
    refine tlabel ?_
    exact tweak (H 0 w1 ⟨Fr.refl _ _, Nat.zero_le _, rfl⟩) (sub ⟨rfl, rfl, rfl, rfl⟩)
end Eng
end Go.Proofs.YtleaanenpimanaaGreatDoor

/-! Plain law: which entries a part asks for. -/
namespace Go.Proofs.YtleaanenpimanaaGreatDoor
open Go.RowKit
namespace Eng

theorem idxF_spec (p : En → Bool) : ∀ (l : List En) (k : Nat), (idxF p l k = -1 ∧ ∀ x ∈ l, p x = false) ∨ ∃ i x, l[i]? = some x ∧ p x = true ∧ idxF p l k = ((k + i : Nat) : Int)
  | [], _ => .inl ⟨rfl, fun x hx => by cases hx⟩
  | x :: r, k => by
    cases h : p x with
    | true => exact .inr ⟨0, x, rfl, h, by rw [idxF, if_pos h]; rfl⟩
    | false =>
      rw [idxF, if_neg (by rw [h]; decide)]
      rcases idxF_spec p r (k + 1) with ⟨h1, h2⟩ | ⟨i, y, h1, h2, h3⟩
      · exact .inl ⟨h1, fun y hy => (List.mem_cons.1 hy).elim (fun e => e ▸ h) (h2 y)⟩
      · exact .inr ⟨i + 1, y, by simpa using h1, h2, by rw [h3]; congr 1; omega⟩
/-- Which entries are asked for, the names being these. -/
def askL (es : List En) (tops : List Str) : List Bool := es.map fun e => decide (e.path ∈ tops)
theorem askL_snoc {es : List En} {tops : List Str} {i : Nat} {e : En} (hnd : (es.map (·.path)).Nodup) (he : es[i]? = some e) : (askL es tops).set i true = askL es (tops ++ [e.path]) := by
  unfold askL
  apply List.ext_getElem?
  intro j
  rw [List.getElem?_set, List.length_map]
  by_cases h : i = j
  · subst h
    have hl := (List.getElem?_eq_some_iff.1 he).1
    rw [if_pos rfl, if_pos hl, List.getElem?_map, he]
    simp
  · rw [if_neg h, List.getElem?_map, List.getElem?_map]
    cases hj : es[j]? with
    | none => rfl
    | some x =>
      have hne : ¬ x.path = e.path := fun hp => by
        have h1 : (es.map (·.path))[i]? = some e.path := by rw [List.getElem?_map, he]; rfl
        have h2 : (es.map (·.path))[j]? = some e.path := by rw [List.getElem?_map, hj, ← hp]; rfl
        exact h ((List.getElem?_inj (List.getElem?_eq_some_iff.1 h1).1 hnd).1 (h1.trans h2.symm))
      simp [hne]
theorem wantG_ask {es : List En} {tops : List Str} (h : ∀ q ∈ tops, ∃ e ∈ es, e.path = q) (p : Str) : wantG es (askL es tops) p = wantP tops p := by
  unfold wantG wantP askL
  rw [Bool.or_comm]
  congr 1
  rw [Bool.eq_iff_iff, List.any_eq_true, List.any_eq_true]
  have hz : es.zip (es.map fun e => decide (e.path ∈ tops)) = es.map fun e => (e, decide (e.path ∈ tops)) := by
    clear h
    induction es with
    | nil => rfl
    | cons x r ih => rw [List.map_cons, List.zip_cons_cons, ih, List.map_cons]
  rw [hz]
  constructor
  · rintro ⟨x, hx, hp⟩
    obtain ⟨e, he, rfl⟩ := List.mem_map.1 hx
    simp only [Bool.and_eq_true, decide_eq_true_eq] at hp
    exact ⟨e.path, hp.1, hp.2⟩
  · rintro ⟨q, hq, hp⟩
    obtain ⟨e, he, rfl⟩ := h q hq
    exact ⟨(e, decide (e.path ∈ tops)), List.mem_map.2 ⟨e, he, rfl⟩, by simp only [Bool.and_eq_true, decide_eq_true_eq]; exact ⟨hq, hp⟩⟩
end Eng
end Go.Proofs.YtleaanenpimanaaGreatDoor
