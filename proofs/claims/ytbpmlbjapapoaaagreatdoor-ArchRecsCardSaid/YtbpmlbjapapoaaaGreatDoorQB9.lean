/-
  Parts of the proof: Ab, Yl.
-/
import Derived.Lib.AppendStr
import Derived.Test.YtbpmlbjapapoaaaGreatDoorQB4
import Derived.Test.YtbpmlbjapapoaaaGreatDoorQB8
import Derived.Test.YtbpmlbjapapoaaaGreatDoorQWo
import Derived.Test.YtbpmlbjapapoaaaGreatDoorQWp
import Derived.Test.YtbpmlbjapapoaaaGreatDoorQWv
set_option maxRecDepth 100000
set_option maxHeartbeats 64000000
namespace Go.Proofs.YtbpmlbjapapoaaaGreatDoor.Eng
open Go.RowKit
section
open Go.RowKit Go.Lib
def bs (l : Str) : List Value := strCells (su l)
theorem bs_len (l : Str) : (bs l).length = l.length := by
 unfold bs
 rw [strCells_length, su_size]
theorem bs_app (l r : Str) : bs (l ++ r) = bs l ++ bs r := by
 unfold bs strCells su
 simp
theorem sl_by : SlT 29 5 (.int .u8 0) 1 1 := slT Tryz.underlying29 (by kernel_rfl)
section
variable {hs : List Nat} {H : World → Prop} {full : Array Oper} {K : Env → World → Prop} {rest : List Oper} {env : Env} {w : World} {d : Tmp} {dst : Option Tmp} {ty : TypeId} {pos : String} {af : Array Edge}
theorem xaps {s x : Operand} {v : Value} {B : Nat} {l r : Str} (hss : evo env s = some v) (hown : Own w B 5 v (bs l)) (hx : evo env x = some (.string (su r))) (hn : l.length + r.length ≤ 140737488355328) (hbase : B ≤ w.heap.size)
  (h : ∀ v' w', Own w' B 5 v' (bs (l ++ r)) → Fr (fun b => v.ownBlock = some b) w w' → xs Tryz.prog isI isS hs H full K rest ((d, v') :: env) w') (hH : ∀ w', Fr (fun b => v.ownBlock = some b) w w' → H w' := by intros; trivial) :
  xs Tryz.prog isI isS hs H full K (⟨some d, .call { callee := .builtin .append, args := ⟨[s, x]⟩, argTypes := ⟨[29, 9]⟩ }, ty, pos, af, none⟩ :: rest) env w := by
 obtain ⟨hu, i, hi, hz, hsz, hby⟩ := sl_by
 have hl := bs_len l
 have hr : (su r).size = r.length := su_size r
 obtain ⟨v', w', hrun, h2, h3, _⟩ := run_append_own_string (P := Tryz.prog) (w := w) B 29 9 ty 5 i hu (by kernel_rfl) hi hz hsz hby v (bs l).length (bs l) hown (su r) (by unfold maxLen; omega) (by omega) hbase
 have hF : Fr (fun b => v.ownBlock = some b) w w' := Fr.grown h3 fun k hk _ => hk
 refine xw (by simp [opsOK, Op.operands, Call.operands, hss, hx]) rfl (v := v') (w' := w') ?_ (h v' w' (by
  unfold Own
  rw [bs_app, List.length_append, show (bs r).length = (su r).size by rw [bs_len, hr]]
  exact h2) hF) (hH _ hF)
 simp [execOp, resolve, invoke, builtin, ev_of hss, ev_of hx, hrun]
end
def catP (l : List Pce) : Str := l.flatMap (·.data)
theorem catP_take {l : List Pce} {i : Nat} {p : Pce} (h : l[i]? = some p) : catP (l.take (i + 1)) = catP (l.take i) ++ p.data := by
 unfold catP
 rw [List.take_add_one, h]
 simp
theorem catP_le (l : List Pce) (i : Nat) : (catP (l.take i)).length ≤ (catP l).length := by
 have e : catP l = catP (l.take i) ++ catP (l.drop i) := by
  unfold catP
  rw [← List.flatMap_append, List.take_append_drop]
 rw [e, List.length_append]; omega
def Ty8 (w : World) (B : Nat) : Nat → Prop := fun b => B ≤ b ∧ ∃ cs, Blk w b 5 cs
theorem own_ty8 {w : World} {B : Nat} {v : Value} {l : List Value} (h : Own w B 5 v l) : ∀ b, v.ownBlock = some b → Ty8 w B b := fun b hb => by
 obtain ⟨_, h2⟩ := h
 rcases h2 with ⟨rfl, _⟩ | ⟨g, cap, cur, rfl, hg, hh, _⟩
 ·cases hb
 ·have hb : some g = some b := hb
  obtain rfl := Option.some.inj hb
  exact ⟨hg, cur, hh⟩
theorem Ty8.tr {w w1 w2 : World} {B : Nat} {v : Value} {l : List Value} (h : Fr (Ty8 w B) w w1) (hO : Own w1 B 5 v l) (h2 : Fr (fun b => v.ownBlock = some b) w1 w2) : Fr (Ty8 w B) w w2 := h.trans h2 fun j hj e => by
 obtain ⟨h3, cs, h4⟩ := own_ty8 hO j e
 refine ⟨h3, ?_⟩
 by_cases hq : Ty8 w B j
 ·exact hq.2
 ·have := h.block j hj hq
  exact ⟨cs, by unfold Blk at h4 ⊢; rw [← this]; exact h4⟩
theorem Ty8.ext {w0 w w1 : World} (hE : Ext w0 w) (h : Fr (Ty8 w w0.heap.size) w w1) : Ext w0 w1 := hE.trans h fun j hj e => absurd e.1 (by omega)
attribute [local irreducible] xs T
structure GatI (w0 w : World) (ps : List Pce) (l : Str) (y : Nat × Value) (w' : World) : Prop where
 le : y.1 ≤ ps.length
 o : Own w' w0.heap.size 5 y.2 (bs (l ++ catP (ps.take y.1)))
 fr : Fr (Ty8 w w0.heap.size) w w'
theorem gather_does (w0 w : World) (v vd : Value) (l : Str) (ps : List Pce) (hE : Ext w0 w) (hps : Rw pcC w0 vd ps) (hO : Own w w0.heap.size 5 v (bs l)) (hl : l.length + (catP ps).length ≤ 1000000000) : Does Tryz.prog 20 #[v, vd] w fun r w' => Own w' w0.heap.size 5 r (bs (l ++ catP ps)) ∧ Fr (Ty8 w w0.heap.size) w w' := by
 refine does2 Tryz.func20 rfl (by kernel_rfl) ?_
 obtain ⟨A, c, rfl, hc1, hc2, hA⟩ := hps.op pcC_len
 refine goL ?_
 refine tscope1 (α := Nat × Value) 0 rfl (fun y => [(0, y.2), (1, .slice A ps.length c), (5, .int .i64 (y.1 : Int))]) (GatI w0 w ps l) (fun y => ps.length - y.1) ?_ ?_
 ·rintro ⟨i, v'⟩ w' ⟨hi, ho, hF⟩
  dsimp only at hi ho ⊢
  have hE' := Ty8.ext hE hF
  by_cases hlt : i < ps.length
  ·obtain ⟨b, o, p, rfl, _, hp, _, hcell⟩ := hA.at_ hlt
   have k1 : w'.cell? ⟨b, o + i * 2 + 1, none⟩ = some (.string (su p.data)) := hE'.cell (hcell 1 _ rfl)
   have ht := catP_take hp
   have hle := catP_le ps (i + 1)
   rw [ht, List.length_append] at hle
   refine gz4 ?_
   refine xaps (B := w0.heap.size) rfl ho rfl (by rw [List.length_append]; omega) hE'.size (fun v2 w2 ho2 hF2 => ?_)
   have hF3 := Ty8.tr hF ho hF2
   refine goL ?_
   exact tgoto rfl ⟨_, (by show ps.length - (i + 1) < ps.length - i; omega), rfl, (i + 1, v2), sub ⟨rfl, rfl, ieq (by dsimp only; omega)⟩, ⟨by show i + 1 ≤ _; omega, by show Own _ _ _ v2 (bs (l ++ catP (ps.take (i + 1)))); rw [ht, ← List.append_assoc]; exact ho2, hF3⟩, rfl⟩
  ·obtain rfl : i = ps.length := by omega
   refine goL ?_
   exact tret1 rfl rfl ⟨by rw [List.take_length] at ho; exact ho, hF⟩
 ·intro H
  refine goL ?_
  refine tlabel ?_
  exact tweak (H (0, v) w ⟨Nat.zero_le _, by simpa [catP] using hO, Fr.refl _ _⟩) (sub ⟨rfl, rfl, rfl⟩)
end
section
theorem Fr.eel {a b : World} (h : Fr noneB a b) : Ext a b := h
attribute [local irreducible] xs T
def fewM (n : Nd) : Bool := n.attrs.all (fun a => decide (a.name.length ≤ 250) && decide (a.value.length ≤ 250)) && decide (n.attrs.length ≤ 12) && decide (n.acl.length ≤ 20)
def fewN (n : Nd) : Bool := n.data.all (fun p => decide (p.data.length ≤ 300)) && decide (n.data.length ≤ 20) && decide (n.target.length ≤ 300) && fewM n
def fewT (t : Tre) : Bool := t.es.all (fun e => decide (e.path.length ≤ 120)) && t.ns.all fewN && decide (t.es.length ≤ 30) && decide (t.ns.length ≤ 30)
theorem all_drop {α : Type} {p : α → Bool} {l : List α} {i : Nat} {x : α} (h : l[i]? = some x) : (l.drop i).all p = (p x && (l.drop (i + 1)).all p) := by
 rw [drop_get h, List.all_cons]
theorem few4_does (w : World) (x : NdV) (hx : NdIn w x) : Does Tryz.prog 37 #[.agg (mtC x).toArray] w fun r w' => r = .bool (fewM x.n) ∧ Ext w w' := by
 refine does1 Tryz.func37 rfl (by kernel_rfl) ?_
 obtain ⟨A, c, eva, hc1, hc2, hA⟩ := hx.a.op attC_len
 obtain ⟨A2, c2, evc, _, _, _⟩ := hx.c.op acC_len
 refine goL ?_
 refine xbox rfl (fun w1 hB1 hE1 hs1 => ?_)
 have hB : Blk w1 w.heap.size 44 (mtC x).toArray := hB1
 have k4 : w1.cell? ⟨w.heap.size, 4, none⟩ = some (.slice A x.n.attrs.length c) := by rw [← eva]; exact hB.cell 4
 have k5 : w1.cell? ⟨w.heap.size, 5, none⟩ = some (.slice A2 x.n.acl.length c2) := by rw [← evc]; exact hB.cell 5
 refine goL ?_
 refine tloop (α := Nat) (fun i => [(1, .pointer (some ⟨w.heap.size, 0, none⟩)), (3, .int .i64 (i : Int))]) (fun i w' => Ext w1 w' ∧ i ≤ x.n.attrs.length ∧ ((x.n.attrs.drop i).all (fun a => decide (a.name.length ≤ 250) && decide (a.value.length ≤ 250)) && decide (x.n.attrs.length ≤ 12) && decide (x.n.acl.length ≤ 20)) = fewM x.n) (fun i => x.n.attrs.length - i) 0 (sub ⟨rfl, rfl⟩) ⟨Fr.refl _ _, Nat.zero_le _, rfl⟩ ?_
 rintro i w2 ⟨hE2, hi, hgo⟩
 have m4 : w2.cell? ⟨w.heap.size, 4, none⟩ = some (.slice A x.n.attrs.length c) := hE2.cell k4
 have m5 : w2.cell? ⟨w.heap.size, 5, none⟩ = some (.slice A2 x.n.acl.length c2) := hE2.cell k5
 by_cases hlt : i < x.n.attrs.length
 ·obtain ⟨b, o, a, rfl, _, ha, _, hcell⟩ := hA.at_ hlt
  have c0 : w2.cell? ⟨b, o + i * 2 + 0, none⟩ = some (.string (su a.name)) := (hE1.t hE2).eel.cell (hcell 0 _ rfl)
  have c1 : w2.cell? ⟨b, o + i * 2 + 1, none⟩ = some (.string (su a.value)) := (hE1.t hE2).eel.cell (hcell 1 _ rfl)
  rw [all_drop ha] at hgo
  by_cases h1 : a.name.length ≤ 250
  ·rw [decide_eq_true h1] at hgo
   by_cases h2 : a.value.length ≤ 250
   ·rw [decide_eq_true h2] at hgo
    refine gz7 ?_
    exact tfin ⟨i + 1, sub ⟨rfl, rfl⟩, ⟨hE2, hlt, by rw [← hgo]; simp⟩, (by show x.n.attrs.length - (i + 1) < x.n.attrs.length - i; omega)⟩
   ·rw [decide_eq_false h2] at hgo
    exact y27
  ·rw [decide_eq_false h1] at hgo
   exact y27
 ·obtain rfl : i = x.n.attrs.length := by omega
  rw [List.drop_length, List.all_nil, Bool.true_and] at hgo
  by_cases h1 : x.n.attrs.length ≤ 12
  ·rw [decide_eq_true h1, Bool.true_and] at hgo
   by_cases h2 : x.n.acl.length ≤ 20
   ·rw [decide_eq_true h2] at hgo
    refine goL ?_
    exact y67
   ·rw [decide_eq_false h2] at hgo
    refine goL ?_
    exact y67
  ·rw [decide_eq_false h1, Bool.false_and] at hgo
   refine goL ?_
   exact y67
theorem few5_does (w : World) (x : NdV) (hx : NdIn w x) : Does Tryz.prog 16 #[.agg (ndC x).toArray] w fun r w' => r = .bool (fewN x.n) ∧ Ext w w' := by
 refine does1 Tryz.func16 rfl (by kernel_rfl) ?_
 obtain ⟨A, c, evd, hc1, hc2, hA⟩ := hx.d.op pcC_len
 refine goL ?_
 refine xbox rfl (fun w1 hB1 hE1 hs1 => ?_)
 have hB : Blk w1 w.heap.size 47 (ndC x).toArray := hB1
 have k8 : w1.cell? ⟨w.heap.size, 8, none⟩ = some (.slice A x.n.data.length c) := by rw [← evd]; exact hB.cell 8
 have k9 : w1.cell? ⟨w.heap.size, 9, none⟩ = some (.string (su x.n.target)) := hB.cell 9
 have hmt : ∀ j u, (mtC x)[j]? = some u → w1.cell? ⟨w.heap.size, 0 + 1 + j, none⟩ = some u := fun j u hu => by rw [Nat.zero_add, hB.cell]; exact mt_get hu
 refine goL ?_
 refine tloop (α := Nat) (fun i => [(1, .pointer (some ⟨w.heap.size, 0, none⟩)), (3, .int .i64 (i : Int))]) (fun i w' => Ext w1 w' ∧ i ≤ x.n.data.length ∧ ((x.n.data.drop i).all (fun p => decide (p.data.length ≤ 300)) && decide (x.n.data.length ≤ 20) && decide (x.n.target.length ≤ 300) && fewM x.n) = fewN x.n) (fun i => x.n.data.length - i) 0 (sub ⟨rfl, rfl⟩) ⟨Fr.refl _ _, Nat.zero_le _, rfl⟩ ?_
 rintro i w2 ⟨hE2, hi, hgo⟩
 have m8 : w2.cell? ⟨w.heap.size, 8, none⟩ = some (.slice A x.n.data.length c) := hE2.cell k8
 have m9 : w2.cell? ⟨w.heap.size, 9, none⟩ = some (.string (su x.n.target)) := hE2.cell k9
 by_cases hlt : i < x.n.data.length
 ·obtain ⟨b, o, a, rfl, _, ha, _, hcell⟩ := hA.at_ hlt
  have c1 : w2.cell? ⟨b, o + i * 2 + 1, none⟩ = some (.string (su a.data)) := (hE1.t hE2).eel.cell (hcell 1 _ rfl)
  rw [all_drop ha] at hgo
  by_cases h1 : a.data.length ≤ 300
  ·rw [decide_eq_true h1, Bool.true_and] at hgo
   refine gz7 ?_
   exact tfin ⟨i + 1, sub ⟨rfl, rfl⟩, ⟨hE2, hlt, hgo⟩, (by show x.n.data.length - (i + 1) < x.n.data.length - i; omega)⟩
  ·rw [decide_eq_false h1] at hgo
   exact y27
 ·obtain rfl : i = x.n.data.length := by omega
  rw [List.drop_length, List.all_nil, Bool.true_and] at hgo
  by_cases h1 : x.n.data.length ≤ 20
  ·rw [decide_eq_true h1, Bool.true_and] at hgo
   by_cases h2 : x.n.target.length ≤ 300
   ·rw [decide_eq_true h2, Bool.true_and] at hgo
    repeat' (first | refine xuln rfl rfl ?_ | refine go1L ?_ | fail)
    refine xldz (cs := mtC x) rfl rfl (fun j u hu => hE2.cell (hmt j u hu)) ?_
    refine goL ?_
    refine xcallE rfl rfl (few4_does w2 x (hx.ext (hE1.t hE2))) (fun r w3 h3 => ?_)
    obtain ⟨rfl, hE3⟩ := h3
    refine goL ?_
    exact tret1 rfl rfl ⟨by rw [← hgo], (hE1.t hE2).t hE3⟩
   ·rw [decide_eq_false h2, Bool.false_and] at hgo
    repeat' (first | refine xuln rfl rfl ?_ | refine go1L ?_ | fail)
    exact y67
  ·rw [decide_eq_false h1] at hgo
   repeat' (first | refine xuln rfl rfl ?_ | refine go1L ?_ | fail)
   exact tret1 rfl rfl ⟨by rw [← hgo]; simp, hE1.t hE2⟩
theorem few6_does (w : World) (ve vn : Value) (nvs : List NdV) (t : Tre) (hv : TrV w ve vn nvs t) : Does Tryz.prog 6 #[.agg #[ve, vn]] w fun r w' => r = .bool (fewT t) ∧ Ext w w' := by
 refine does1 Tryz.func6 rfl (by kernel_rfl) ?_
 have hv0 := hv
 obtain ⟨A, c, rfl, hc1, hc2, hA⟩ := hv.e.op enC_len
 obtain ⟨A', c', rfl, hc1', hc2', hA'⟩ := hv.n.op ndC_len
 have hlen := hv.len
 refine goL ?_
 refine xbox rfl (fun w1 hB1 hE1 hs1 => ?_)
 have hB : Blk w1 w.heap.size 25 #[.slice A t.es.length c, .slice A' nvs.length c'] := hB1
 have k0 : w1.cell? ⟨w.heap.size, 0, none⟩ = some (.slice A t.es.length c) := hB.cell 0
 have k1 : w1.cell? ⟨w.heap.size, 1, none⟩ = some (.slice A' t.ns.length c') := by rw [← hlen]; exact hB.cell 1
 refine goL ?_
 refine tloop (α := Nat) (fun i => [(1, .pointer (some ⟨w.heap.size, 0, none⟩)), (3, .int .i64 (i : Int))]) (fun i w' => Ext w1 w' ∧ i ≤ t.es.length ∧ ((t.es.drop i).all (fun e => decide (e.path.length ≤ 120)) && t.ns.all fewN && decide (t.es.length ≤ 30) && decide (t.ns.length ≤ 30)) = fewT t) (fun i => t.es.length - i) 0 (sub ⟨rfl, rfl⟩) ⟨Fr.refl _ _, Nat.zero_le _, rfl⟩ ?_
 rintro i w2 ⟨hE2, hi, hgo⟩
 have m0 : w2.cell? ⟨w.heap.size, 0, none⟩ = some (.slice A t.es.length c) := hE2.cell k0
 by_cases hlt : i < t.es.length
 ·obtain ⟨b, o, e, rfl, _, he, _, hcell⟩ := hA.at_ hlt
  have c0 : w2.cell? ⟨b, o + i * 2 + 0, none⟩ = some (.string (su e.path)) := (hE1.t hE2).eel.cell (hcell 0 _ rfl)
  rw [all_drop he] at hgo
  by_cases h1 : e.path.length ≤ 120
  ·rw [decide_eq_true h1, Bool.true_and] at hgo
   refine gz7 ?_
   exact tfin ⟨i + 1, sub ⟨rfl, rfl⟩, ⟨hE2, hlt, hgo⟩, (by show t.es.length - (i + 1) < t.es.length - i; omega)⟩
  ·rw [decide_eq_false h1] at hgo
   exact y27
 ·obtain rfl : i = t.es.length := by omega
  rw [List.drop_length, List.all_nil, Bool.true_and] at hgo
  refine goL ?_
  refine tloop (α := Nat) (fun i => [(1, .pointer (some ⟨w.heap.size, 0, none⟩)), (4, .int .i64 (i : Int))]) (fun i w' => Ext w1 w' ∧ i ≤ t.ns.length ∧ ((t.ns.drop i).all fewN && decide (t.es.length ≤ 30) && decide (t.ns.length ≤ 30)) = fewT t) (fun i => t.ns.length - i) 0 (sub ⟨rfl, rfl⟩) ⟨hE2, Nat.zero_le _, hgo⟩ ?_
  clear hgo m0 hE2 hi
  rintro i w3 ⟨hE3, hi, hgo⟩
  have m0 : w3.cell? ⟨w.heap.size, 0, none⟩ = some (.slice A t.es.length c) := hE3.cell k0
  have m1 : w3.cell? ⟨w.heap.size, 1, none⟩ = some (.slice A' t.ns.length c') := hE3.cell k1
  by_cases hlt : i < t.ns.length
  ·obtain ⟨b, o, y, rfl, _, hy, _, hcell⟩ := hA'.at_ (i := i) (by omega)
   have hyn := hv0.get hy
   rw [all_drop hyn] at hgo
   repeat' (first | refine xizq i (o + i * 12) rfl rfl rfl rfl rfl (by omega) ?_ | refine go1L ?_ | fail)
   refine xldz (cs := ndC y) rfl rfl (fun j u hu => (hE1.t hE3).eel.cell (hcell j u hu)) ?_
   refine xcallE rfl rfl (few5_does w3 y ((hv0.i y (List.mem_of_getElem? hy)).ext (hE1.t hE3))) (fun r w4 h4 => ?_)
   obtain ⟨rfl, hE4⟩ := h4
   cases hf : fewN y.n with
   | true =>
    rw [hf, Bool.true_and] at hgo
    refine goL ?_
    exact tfin ⟨i + 1, sub ⟨rfl, rfl⟩, ⟨hE3.t hE4, hlt, hgo⟩, (by show t.ns.length - (i + 1) < t.ns.length - i; omega)⟩
   | false =>
    rw [hf] at hgo
    refine goL ?_
    exact tret1 rfl rfl ⟨by rw [← hgo]; simp, (hE1.t hE3).t hE4⟩
  ·obtain rfl : i = t.ns.length := by omega
   rw [List.drop_length, List.all_nil, Bool.true_and] at hgo
   by_cases h1 : t.es.length ≤ 30
   ·rw [decide_eq_true h1, Bool.true_and] at hgo
    by_cases h2 : t.ns.length ≤ 30
    ·rw [decide_eq_true h2] at hgo
     exact y69
    ·rw [decide_eq_false h2] at hgo
     exact y69
   ·rw [decide_eq_false h1, Bool.false_and] at hgo
    exact y69
end
end Go.Proofs.YtbpmlbjapapoaaaGreatDoor.Eng
