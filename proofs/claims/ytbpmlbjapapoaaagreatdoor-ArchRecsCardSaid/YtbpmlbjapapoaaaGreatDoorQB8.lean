/-
  Parts of the proof: Ya, Aa, Yc.
-/
import Derived.Test.YtbpmlbjapapoaaaGreatDoorQB0a
import Derived.Test.YtbpmlbjapapoaaaGreatDoorQB4
import Derived.Test.YtbpmlbjapapoaaaGreatDoorQWd
import Derived.Test.YtbpmlbjapapoaaaGreatDoorQWk
import Derived.Test.YtbpmlbjapapoaaaGreatDoorQWm
set_option maxRecDepth 100000
set_option maxHeartbeats 64000000
namespace Go.Proofs.YtbpmlbjapapoaaaGreatDoor.Eng
open Go.RowKit
section
attribute [local irreducible] xs T
def digs : Str := [48, 49, 50, 51, 52, 53, 54, 55, 56, 57]
theorem digs_cut : ∀ l : Nat, l < 10 → (digs.drop l).take (l + 1 - l) = [dg l] := by decide
section
variable {hs : List Nat} {H : World → Prop} {full : Array Oper} {K : Env → World → Prop} {rest : List Oper} {env : Env} {w : World} {d : Tmp} {ty : TypeId} {pos : String} {af : Array Edge}
theorem xdg {t : TypeId} {x lo hi : Operand} {k k' : IntKind} {jl jh : Int} (l : Nat) (ht : isS t = true) (hx : evo env x = some (.string (su digs))) (hlo : evo env lo = some (.int k jl)) (hhi : evo env hi = some (.int k' jh)) (el : jl = l) (eh : jh = (l : Int) + 1) (hl : l < 10)
  (hc : xs Tryz.prog isI isS hs H full K rest ((d, .string (su [dg l])) :: env) w) :
  xs Tryz.prog isI isS hs H full K (⟨some d, .slice t x (some lo) (some hi) none, ty, pos, af, none⟩ :: rest) env w := by
 refine xusl2 l (l + 1) ht hx hlo hhi el (by omega) (by omega) (by show l + 1 ≤ 10; omega) ?_
 rw [digs_cut l hl]
 exact hc
end
theorem rdec_does (w : World) (n : Nat) (hn : n ≤ 9223372036854775807) : Does Tryz.prog 30 #[.int .i64 (n : Int)] w fun r w' => r = .string (su (decU n)) ∧ w = w' := by
 have hn0 : n < 10 ^ 21 := Nat.lt_of_le_of_lt hn (by decide)
 refine does1 Tryz.func30 rfl (by kernel_rfl) ?_
 refine goL ?_
 refine tloop (α := Nat × Nat × Str) (fun x => [(0, .int .i64 (x.2.1 : Int)), (3, .string (su x.2.2))]) (fun x w' => w = w' ∧ decF x.1 x.2.1 x.2.2 = decU n ∧ x.2.1 < 10 ^ (x.1 + 1) ∧ x.2.1 ≤ n ∧ x.2.2.length + x.1 ≤ 20) (fun x => x.2.1) (20, n, []) (sub ⟨rfl, rfl⟩) ⟨rfl, rfl, hn0, Nat.le_refl _, Nat.le_refl _⟩ ?_
 rintro ⟨k, m, s⟩ w1 ⟨rfl, hgo, hm, hmn, hs⟩
 dsimp only at hgo hm hmn hs ⊢
 by_cases h9 : 9 < m
 ·cases k with
  | zero => omega
  | succ k =>
   rw [decF, if_pos h9] at hgo
   have h10 : m % 10 < 10 := Nat.mod_lt _ (by decide)
   repeat' (first | refine xrem rfl rfl (by omega) (by omega) (by omega) ?_ | refine xquo rfl rfl (by omega) (by omega) (by omega) ?_ | refine xdg (m % 10) rfl rfl rfl rfl (by omega) (by omega) h10 ?_ | refine xuadd (a := [dg (m % 10)]) (b := s) rfl rfl (by simp only [List.length_cons, List.length_nil]; omega) ?_ | refine go1L ?_ | fail)
   exact tfin ⟨(k, m / 10, dg (m % 10) :: s), sub ⟨ieq (by dsimp only; omega), rfl⟩, ⟨rfl, hgo, (by dsimp only; rw [Nat.pow_succ] at hm; omega), (by dsimp only; omega), (by dsimp only [List.length_cons]; omega)⟩, (by show m / 10 < m; omega)⟩
 ·have hr : decU n = dg m :: s := by
   rw [← hgo]
   cases k with
   | zero => rfl
   | succ k => rw [decF, if_neg h9]
  rw [hr]
  repeat' (first | refine xdg m rfl rfl rfl rfl rfl rfl (by omega) ?_ | refine xuadd (a := [dg m]) (b := s) rfl rfl (by simp only [List.length_cons, List.length_nil]; omega) ?_ | refine go1L ?_ | fail)
  exact y2
end
section
section
variable {hs : List Nat} {H : World → Prop} {full : Array Oper} {K : Env → World → Prop} {rest : List Oper} {env : Env} {w : World} {d : Tmp} {ty : TypeId} {pos : String} {af : Array Edge}
end
theorem Ow.typ {α : Type} {cf : α → List Value} {z B : Nat} {w : World} {e : TypeId} {v : Value} {l : List α} (h : Ow cf z w B e v l) {b : Nat} (hb : v.ownBlock = some b) : ∃ cur, Blk w b e cur := by
 obtain ⟨_, h2⟩ := h
 rcases h2 with ⟨rfl, _⟩ | ⟨g, cap, cur, rfl, _, hh, _⟩
 ·cases hb
 ·have : g = b := by simpa [Value.ownBlock] using hb
  subst this
  exact ⟨cur, hh⟩
theorem Ow.apart {α β : Type} {cf : α → List Value} {cf' : β → List Value} {z z' B B' : Nat} {w : World} {e e' : TypeId} {v v' : Value} {l : List α} {l' : List β} (h : Ow cf z w B e v l) (h' : Ow cf' z' w B' e' v' l') (hne : e ≠ e') {b : Nat} (hb : v.ownBlock = some b) : ¬ v'.ownBlock = some b := fun hb' => by
 obtain ⟨c, h1⟩ := h.typ hb
 obtain ⟨c', h2⟩ := h'.typ hb'
 exact h1.ne_ h2 hne rfl
attribute [local irreducible] xs T
end
section
attribute [local irreducible] xs T
def PowT (w : World) : Prop := Lib.TabIs Tryz.prog w "internal/strconv.uint64pow10" .u64 Lib.pow10Tab
theorem PowT.ext {w w' : World} (h : PowT w) (hE : Ext w w') : PowT w' := by
 unfold PowT Lib.TabIs at h ⊢
 rw [← h]
 unfold World.var? at h ⊢
 cases hg : Tryz.prog.globalNamed "internal/strconv.uint64pow10" with
 | none => rfl
 | some g =>
  rw [hg] at h
  have hlt : g < w.heap.size := by
   rcases Nat.lt_or_ge g w.heap.size with hh | hh
   ·exact hh
   ·simp only [Option.bind_some, Array.getElem?_eq_none hh] at h
    cases h
  simp only [Option.bind_some, hE.block g hlt (fun hh => hh)]
def decS (n : Nat) : Str := Lib.itoa (n : Int)
theorem itoa_does (w : World) (n : Nat) (hn : n ≤ 9223372036854775807) (hP : PowT w) : Does Tryz.prog 50 #[.int .i64 (n : Int)] w fun r w' => r = .string (su (decS n)) ∧ Ext w w' := by
 refine Calls.mono (Any.strconv_Itoa laysItoa (n : Int) (by omega) (by omega) w hP) fun e w' ⟨he, k, os, hw⟩ => ?_
 refine ⟨_, he, rfl, ?_⟩
 subst hw
 refine ⟨rfl, rfl, rfl, by simp, fun j hj _ => ?_⟩
 exact Go.Sort.heap_grow_old _ _ (by simpa using hj)
theorem cla_does (w : World) (v : Value) (l : List Att) (hv : Rw attC w v l) (hl : l.length ≤ 1000000) : Does Tryz.prog 47 #[v] w fun r w' => Ow attC 2 w' w.heap.size 78 r l ∧ Ext w w' := by
 refine does1 Tryz.func47 rfl (by kernel_rfl) ?_
 obtain ⟨A, c, rfl, hc, hcm, hA⟩ := hv.op attC_len
 cases A with
 | none =>
  have h0 : l = [] := by
   rcases l with _ | ⟨z, l⟩
   ·rfl
   ·obtain ⟨b, o, h, _⟩ := hA (by simp); cases h
  exact y22
 | some a =>
  refine goL ?_
  refine xsn rfl rfl rfl ?_
  refine goL ?_
  refine xbz0 sl_atts (fun w1 hO1 hE1 hs1 => ?_)
  refine goL ?_
  refine xapz (B := w.heap.size) (news := l.flatMap attC) sl_atts rfl (by decide) rfl hO1 rfl (Row.ext hv hE1) (flat_len attC_len _) (attC_one _) (by unfold maxLen; omega) (by omega) (by omega) (fun v2 w2 hO2 hF2 _ => ?_)
  refine goL ?_
  refine tret1 rfl rfl ⟨by rw [Nat.zero_add] at hO2; exact hO2, hE1.te hF2 fun j hj e => ?_⟩
  have : w.heap.size = j := by simpa [Value.ownBlock] using e
  omega
theorem clc_does (w : World) (v : Value) (l : List Ac) (hv : Rw acC w v l) (hl : l.length ≤ 1000000) : Does Tryz.prog 48 #[v] w fun r w' => Ow acC 3 w' w.heap.size 80 r l ∧ Ext w w' := by
 refine does1 Tryz.func48 rfl (by kernel_rfl) ?_
 obtain ⟨A, c, rfl, hc, hcm, hA⟩ := hv.op acC_len
 cases A with
 | none =>
  have h0 : l = [] := by
   rcases l with _ | ⟨z, l⟩
   ·rfl
   ·obtain ⟨b, o, h, _⟩ := hA (by simp); cases h
  exact y22
 | some a =>
  refine goL ?_
  refine xsn rfl rfl rfl ?_
  refine goL ?_
  refine xbz0 sl_acs (fun w1 hO1 hE1 hs1 => ?_)
  refine goL ?_
  refine xapz (B := w.heap.size) (news := l.flatMap acC) sl_acs rfl (by decide) rfl hO1 rfl (Row.ext hv hE1) (flat_len acC_len _) (acC_one _) (by unfold maxLen; omega) (by omega) (by omega) (fun v2 w2 hO2 hF2 _ => ?_)
  refine goL ?_
  refine tret1 rfl rfl ⟨by rw [Nat.zero_add] at hO2; exact hO2, hE1.te hF2 fun j hj e => ?_⟩
  have : w.heap.size = j := by simpa [Value.ownBlock] using e
  omega
theorem cld_does (w : World) (v : Value) (l : List Pce) (hv : Rw pcC w v l) (hl : l.length ≤ 1000000) : Does Tryz.prog 49 #[v] w fun r w' => Ow pcC 2 w' w.heap.size 65 r l ∧ Ext w w' := by
 refine does1 Tryz.func49 rfl (by kernel_rfl) ?_
 obtain ⟨A, c, rfl, hc, hcm, hA⟩ := hv.op pcC_len
 cases A with
 | none =>
  have h0 : l = [] := by
   rcases l with _ | ⟨z, l⟩
   ·rfl
   ·obtain ⟨b, o, h, _⟩ := hA (by simp); cases h
  exact y22
 | some a =>
  refine goL ?_
  refine xsn rfl rfl rfl ?_
  refine goL ?_
  refine xbz0 sl_pcs (fun w1 hO1 hE1 hs1 => ?_)
  refine goL ?_
  refine xapz (B := w.heap.size) (news := l.flatMap pcC) sl_pcs rfl (by decide) rfl hO1 rfl (Row.ext hv hE1) (flat_len pcC_len _) (pcC_one _) (by unfold maxLen; omega) (by omega) (by omega) (fun v2 w2 hO2 hF2 _ => ?_)
  refine goL ?_
  refine tret1 rfl rfl ⟨by rw [Nat.zero_add] at hO2; exact hO2, hE1.te hF2 fun j hj e => ?_⟩
  have : w.heap.size = j := by simpa [Value.ownBlock] using e
  omega
def barP (p : Pce) : Pce := ⟨p.pos, decS p.data.length⟩
def ndZ : Nd := ⟨0, 0, 0, 0, 0, [], [], 0, [], [], 0, 0⟩
def bareN (n : Nd) : Nd := if nodeOK n = true then { n with data := n.data.map barP } else ndZ
def ndZV : NdV := ⟨ndZ, .slice none 0 0, .slice none 0 0, .slice none 0 0⟩
structure BarI (w : World) (x : NdV) (g : Nat) (y : Nat × NdV) (w' : World) : Prop where
 le : y.1 ≤ x.n.data.length
 n : y.2.n = { x.n with data := (x.n.data.take y.1).map barP ++ x.n.data.drop y.1 }
 B : Blk w' g 47 (ndC y.2).toArray
 R : Blk w' (g + 1) 47 (ndC ndZV).toArray
 a : Ow attC 2 w' (g + 2) 78 y.2.va y.2.n.attrs
 c : Ow acC 3 w' (g + 2) 80 y.2.vc y.2.n.acl
 d : Ow pcC 2 w' (g + 2) 65 y.2.vd y.2.n.data
 ext : Ext w w'
 ok : nodeOK x.n = true
theorem set_bar {α β : Type} (f : α → β) (k : β → α) : ∀ {l : List α} {i : Nat} {p : α}, l[i]? = some p → ((l.take i).map (fun a => k (f a)) ++ l.drop i).set i (k (f p)) = (l.take (i + 1)).map (fun a => k (f a)) ++ l.drop (i + 1)
 | [], i, p, h => by simp at h
 | a :: l, 0, p, h => by
  simp only [List.getElem?_cons_zero, Option.some.injEq] at h
  subst h; simp
 | a :: l, i + 1, p, h => by
  have ih := set_bar f k (l := l) (i := i) (p := p) (by simpa using h)
  simpa using ih
theorem bare_does (w : World) (x : NdV) (hx : NdIn w x) (hb : bytesP x.n.data ≤ 1000000) (la : x.n.attrs.length ≤ 1000000) (lc : x.n.acl.length ≤ 1000000) (ld : x.n.data.length ≤ 1000000) (hP : PowT w) : Does Tryz.prog 19 #[.agg (ndC x).toArray] w fun r w' => ∃ x' : NdV, r = .agg (ndC x').toArray ∧ x'.n = bareN x.n ∧ NdO w' w.heap.size x' ∧ Ext w w' := by
 refine does1 Tryz.func19 rfl (by kernel_rfl) ?_
 have hN : ∀ {a b c : World} {g : Nat}, Ext a b → Fr (· = g) b c → a.heap.size ≤ g → Ext a c := fun h1 h2 hg => h1.trans h2 fun j hj e => absurd hj (by omega)
 obtain ⟨Aa, ca, hva, _, _, _⟩ := hx.a.op attC_len
 obtain ⟨Ac, cc, hvc, _, _, _⟩ := hx.c.op acC_len
 obtain ⟨Ad, cd, hvd, _, _, _⟩ := hx.d.op pcC_len
 refine goL ?_
 refine xbox rfl (fun w1 hB1 hE1 hs1 => ?_)
 obtain ⟨g, hg⟩ : ∃ g, g = w.heap.size := ⟨_, rfl⟩
 rw [← hg] at hB1 hs1 ⊢
 refine goL ?_
 refine xalloc (z := .agg (ndC ndZV).toArray) (by kernel_rfl) (fun w2 hB2 hE2 hs2 => ?_)
 rw [hs1] at hB2 hs2 ⊢
 have hB : Blk w2 g 47 (ndC x).toArray := Blk.ext hB1 hE2
 have hE02 : Ext w w2 := hE1.t hE2
 refine goL ?_
 refine tscope1 (α := Nat × NdV) 0 rfl (fun y => [(1, .pointer (some ⟨g, 0, none⟩)), (2, .pointer (some ⟨g + 1, 0, none⟩)), (3, .int .i64 (y.1 : Int))]) (BarI w x g) (fun y => x.n.data.length - y.1) ?_ ?_
 ·rintro ⟨i, ⟨yn, ya, yc, yd⟩⟩ w' h
  obtain ⟨hi, hn, hB', hR, hOa, hOc, hOd, hE, hok⟩ := h
  dsimp only at hi hn hB' hR hOa hOc hOd ⊢
  have hyl : yn.data.length = x.n.data.length := by rw [hn]; simp; omega
  obtain ⟨A1, c1, rfl, _, _⟩ := hOa.form
  obtain ⟨A2, c2, rfl, _, _⟩ := hOc.form
  by_cases hlt : i < x.n.data.length
  ·obtain ⟨g3, c3, rfl, hg3, hg3l, _, _⟩ := hOd.go (by omega)
   have hlt' : i < yn.data.length := by omega
   obtain ⟨A, c, e3, _, _, hA⟩ := hOd.rw.op pcC_len
   injection e3 with e3 _ _
   subst e3
   obtain ⟨b, o, p, e4, _, hp, _, hcell⟩ := hA.at_ hlt'
   injection e4 with e4
   injection e4 with e4 e5 _
   subst e4; subst e5
   have hp0 : x.n.data[i]? = some p := by
    rw [hn] at hp
    have : ((x.n.data.take i).map barP ++ x.n.data.drop i)[i]? = some p := hp
    rw [List.getElem?_append_right (by simp; omega)] at this
    simpa [Nat.min_eq_left (Nat.le_of_lt hlt)] using this
   have hplen : p.data.length ≤ 1000000 := by
    have := bytesP_le x.n.data (i + 1)
    have h2 := bytesP_take hp0
    omega
   have hBd := hB'.ext (Fr.drew _ w')
   have k8 : w'.drew.cell? ⟨g, 8, none⟩ = some (.slice (some ⟨g3, 0, none⟩) yn.data.length c3) := hBd.cell 8
   have k1 : w'.drew.cell? ⟨g3, 0 + i * 2 + 1, none⟩ = some (.string (su p.data)) := Ext.cell (Fr.drew noneB w') (hcell 1 _ rfl)
   have hEd : Ext w w'.drew := hE.t (Fr.drew _ w')
   have k8w : w'.cell? ⟨g, 8, none⟩ = some (.slice (some ⟨g3, 0, none⟩) yn.data.length c3) := hB'.cell 8
   refine goL ?_
   refine tdrawH [31] (fun w'' => Blk w'' g 47 (ndC ⟨yn, .slice A1 yn.attrs.length c1, .slice A2 yn.acl.length c2, .slice (some ⟨g3, 0, none⟩) yn.data.length c3⟩).toArray) (by kernel_rfl) (by decide +kernel) hBd ?_
   refine goL ?_
   refine xldh (v := .slice (some ⟨g3, 0, none⟩) yn.data.length c3) rfl (by kernel_rfl) (fun w'' h => (Blk.cell h 8 : _)) ?_
   refine gz13 ?_
   refine gz1 ?_
   have hBall : ∀ {w3 : World}, Ext w'.drew w3 → Blk w3 g 47 (ndC ⟨yn, .slice A1 yn.attrs.length c1, .slice A2 yn.acl.length c2, .slice (some ⟨g3, 0, none⟩) yn.data.length c3⟩).toArray := fun h => hBd.ext h
   refine xcall rfl rfl (itoa_does w'.drew p.data.length (by omega) (hP.ext hEd)) (fun r w3 h3 => ?_) (fun r w3 h3 => hBall h3.2)
   obtain ⟨rfl, hE3⟩ := h3
   have z3 := hE3.size
   refine gz13 ?_
   have zd : w'.heap.size ≤ w'.drew.heap.size := (Fr.drew noneB w').size
   have hO3 := (hOd.ext (Fr.drew _ w')).ext hE3
   have hE03 : Ext w w3 := hEd.t hE3
   refine xstc pcC_len (x' := barP p) i 1 hO3 rfl rfl (by omega) (by omega) (by kernel_rfl) rfl hp rfl (fun w4 hO4 hF4 => ?_) (fun w4 hF4 => (hBall hE3).fr hF4 (show ¬ g = g3 by omega))
   have hB4 := (hBall hE3).fr hF4 (show ¬ g = g3 by omega)
   have hR4 := ((hR.ext (Fr.drew _ w')).ext hE3).fr hF4 (show ¬ g + 1 = g3 by omega)
   have ha4 := ((hOa.ext (Fr.drew _ w')).ext hE3).fr hF4 fun b hb e => by
    have e : b = g3 := e
    subst e
    exact Ow.apart hOa hOd (by decide) hb rfl
   have hc4 := ((hOc.ext (Fr.drew _ w')).ext hE3).fr hF4 fun b hb e => by
    have e : b = g3 := e
    subst e
    exact Ow.apart hOc hOd (by decide) hb rfl
   have hn4 : ({ yn with data := yn.data.set i (barP p) } : Nd) = { x.n with data := (x.n.data.take (i + 1)).map barP ++ x.n.data.drop (i + 1) } := by
    rw [hn]
    have := set_bar barP (fun a : Pce => a) hp0
    have hm : (x.n.data.take i).map barP ++ x.n.data.drop i = yn.data := by rw [hn]
    show ({ x.n with data := ((x.n.data.take i).map barP ++ x.n.data.drop i).set i (barP p) } : Nd) = _
    rw [show ((x.n.data.take i).map barP ++ x.n.data.drop i).set i (barP p) = (x.n.data.take (i + 1)).map barP ++ x.n.data.drop (i + 1) from this]
   have hlen4 : (yn.data.set i (barP p)).length = yn.data.length := List.length_set
   have hO4' : Ow pcC 2 w4 (g + 2) 65 (.slice (some ⟨g3, 0, none⟩) yn.data.length c3) (yn.data.set i (barP p)) := hO4
   refine goL ?_
   exact tgoto rfl ⟨_, (by show x.n.data.length - (i + 1) < x.n.data.length - i; omega), rfl, (i + 1, ⟨{ yn with data := yn.data.set i (barP p) }, .slice A1 yn.attrs.length c1, .slice A2 yn.acl.length c2, .slice (some ⟨g3, 0, none⟩) yn.data.length c3⟩), sub ⟨rfl, rfl, ieq (by dsimp only; omega)⟩, ⟨by show i + 1 ≤ _; omega, hn4, hB4, hR4, ha4, hc4, (by show Ow pcC 2 w4 (g + 2) _ _ _; exact hO4'), hN hE03 hF4 (by omega), hok⟩, rfl⟩
  ·obtain rfl : i = x.n.data.length := by omega
   obtain ⟨B3, d3, rfl, hd1, hd2⟩ := hOd.form
   have k8 : w'.cell? ⟨g, 8, none⟩ = some (.slice B3 yn.data.length d3) := hB'.cell 8
   rw [hyl] at k8
   refine goL ?_
   refine xlda (t := 47) hB' rfl rfl ?_
   refine xsta hR rfl rfl (by kernel_rfl) rfl (one_cells (l := ndC ⟨yn, .slice A1 yn.attrs.length c1, .slice A2 yn.acl.length c2, .slice B3 yn.data.length d3⟩) rfl) (fun w7 hB7 hF7 => ?_)
   refine goL ?_
   have ne : ∀ b, g + 2 ≤ b → ¬ b = g + 1 := fun b hb => by omega
   refine tretc rfl rfl hB7 (by kernel_rfl) ⟨_, rfl, ?_, ⟨OwnZ.mono (hOa.fr hF7 fun b hb => ne b (hOa.blk hb).1) (by omega), OwnZ.mono (hOc.fr hF7 fun b hb => ne b (hOc.blk hb).1) (by omega), OwnZ.mono (OwnZ.fr hOd hF7 fun b hb => ne b (OwnZ.blk hOd hb).1) (by omega)⟩, hN hE hF7 (by omega)⟩
   show yn = _
   unfold bareN
   rw [if_pos hok, hn, List.take_of_length_le (Nat.le_refl _), List.drop_eq_nil_of_le (Nat.le_refl _), List.append_nil]
 ·intro H
  have hx2 := hx.ext hE02
  refine goL ?_
  refine xlda (t := 47) hB rfl rfl ?_
  refine xcallE rfl rfl (nodemay_does w2 x hx2 hb) (fun r w3 h3 => ?_)
  obtain ⟨rfl, hE3⟩ := h3
  have hB3 := hB.ext hE3
  have hR3 : Blk w3 (g + 1) 47 (ndC ndZV).toArray := Blk.ext hB2 hE3
  have z2 := hE2.size; have z3 := hE3.size
  cases hok : nodeOK x.n with
  | false =>
   refine goL ?_
   refine xbd (cells := (ndC ndZV).toArray) rfl (by kernel_rfl) ?_
   refine xsta hR3 rfl rfl (by kernel_rfl) rfl (by kernel_rfl) (fun w7 hB7 hF7 => ?_)
   refine goL ?_
   refine tretc rfl rfl hB7 (by kernel_rfl) ⟨ndZV, rfl, ?_, ⟨Ow.nil _ _ _, Ow.nil _ _ _, Ow.nil _ _ _⟩, hN (hE02.t hE3) hF7 (by omega)⟩
   show ndZ = _
   unfold bareN
   rw [hok]; rfl
  | true =>
   have hx3 := hx2.ext hE3
   have k5 : w3.cell? ⟨g, 5, none⟩ = some (.slice Aa x.n.attrs.length ca) := by rw [← hva]; exact hB3.cell 5
   refine goL ?_
   have ha3 := hx3.a
   rw [hva] at ha3
   refine xcallE rfl rfl (cla_does w3 _ _ ha3 la) (fun r w4 h4 => ?_)
   obtain ⟨hOa4, hE4⟩ := h4
   obtain ⟨A1, c1, rfl, _, _⟩ := hOa4.form
   have z4 := hE4.size
   refine goL ?_
   refine xstb (hB3.ext hE4) rfl rfl (by kernel_rfl) rfl rfl (fun w5 hB5 hF5 => ?_)
   have hB5' : Blk w5 g 47 (ndC ⟨x.n, .slice A1 x.n.attrs.length c1, x.vc, x.vd⟩).toArray := hB5
   have hE5 : Ext w w5 := hN ((hE02.t hE3).t hE4) hF5 (by omega)
   have hR5 := (Blk.ext hR3 hE4).fr hF5 (show ¬ g + 1 = g by omega)
   have hOa5 := hOa4.fr hF5 fun b hb => by have := (hOa4.blk hb).1; show ¬ b = g; omega
   have z5 := hF5.size
   have k6 : w5.cell? ⟨g, 6, none⟩ = some (.slice Ac x.n.acl.length cc) := by rw [← hvc]; exact hB5'.cell 6
   have hc5 := hx.c.ext hE5
   rw [hvc] at hc5
   refine goL ?_
   refine xcallE rfl rfl (clc_does w5 _ _ hc5 lc) (fun r w6 h6 => ?_)
   obtain ⟨hOc6, hE6⟩ := h6
   obtain ⟨A2, c2, rfl, _, _⟩ := hOc6.form
   have z6 := hE6.size
   refine goL ?_
   refine xstb (hB5'.ext hE6) rfl rfl (by kernel_rfl) rfl rfl (fun w7 hB7 hF7 => ?_)
   have hB7' : Blk w7 g 47 (ndC ⟨x.n, .slice A1 x.n.attrs.length c1, .slice A2 x.n.acl.length c2, x.vd⟩).toArray := hB7
   have hE7 : Ext w w7 := hN (hE5.t hE6) hF7 (by omega)
   have hR7 := (Blk.ext hR5 hE6).fr hF7 (show ¬ g + 1 = g by omega)
   have hOc7 := hOc6.fr hF7 fun b hb => by have := (hOc6.blk hb).1; show ¬ b = g; omega
   have hOa7 := (hOa5.ext hE6).fr hF7 fun b hb => by have := ((hOa5.ext hE6).blk hb).1; show ¬ b = g; omega
   have z7 := hF7.size
   have k8 : w7.cell? ⟨g, 8, none⟩ = some (.slice Ad x.n.data.length cd) := by rw [← hvd]; exact hB7'.cell 8
   have hd7 := hx.d.ext hE7
   rw [hvd] at hd7
   refine goL ?_
   refine xcallE rfl rfl (cld_does w7 _ _ hd7 ld) (fun r w8 h8 => ?_)
   obtain ⟨hOd8, hE8⟩ := h8
   obtain ⟨A3, c3, rfl, _, _⟩ := hOd8.form
   have z8 := hE8.size
   refine goL ?_
   refine xstb (hB7'.ext hE8) rfl rfl (by kernel_rfl) rfl rfl (fun w9 hB9 hF9 => ?_)
   have hB9' : Blk w9 g 47 (ndC ⟨x.n, .slice A1 x.n.attrs.length c1, .slice A2 x.n.acl.length c2, .slice A3 x.n.data.length c3⟩).toArray := hB9
   have hE9 : Ext w w9 := hN (hE7.t hE8) hF9 (by omega)
   have hR9 := (Blk.ext hR7 hE8).fr hF9 (show ¬ g + 1 = g by omega)
   have hOd9 := hOd8.fr hF9 fun b hb => by have := (hOd8.blk hb).1; show ¬ b = g; omega
   have hOa9 := (hOa7.ext hE8).fr hF9 fun b hb => by have := ((hOa7.ext hE8).blk hb).1; show ¬ b = g; omega
   have hOc9 := (hOc7.ext hE8).fr hF9 fun b hb => by have := ((hOc7.ext hE8).blk hb).1; show ¬ b = g; omega
   refine goL ?_
   refine tlabel ?_
   exact tweak (H (0, ⟨x.n, .slice A1 x.n.attrs.length c1, .slice A2 x.n.acl.length c2, .slice A3 x.n.data.length c3⟩) w9 ⟨Nat.zero_le _, rfl, hB9', hR9, OwnZ.mono hOa9 (by omega), OwnZ.mono hOc9 (by omega), OwnZ.mono hOd9 (by omega), hE9, hok⟩) (sub ⟨rfl, rfl, rfl⟩)
end
section
attribute [local irreducible] xs T
theorem one_nd {w : World} {x : NdV} (hx : NdIn w x) : (ndC x).all (·.oneCell') = true := by
 obtain ⟨A1, c1, e1, _⟩ := hx.a
 obtain ⟨A2, c2, e2, _⟩ := hx.c
 obtain ⟨A3, c3, e3, _⟩ := hx.d
 unfold ndC
 rw [e1, e2, e3]
 rfl
structure NdTy (w : World) (x : NdV) : Prop where
 a : ∀ b, x.va.ownBlock = some b → ∃ cs, Blk w b 78 cs
 c : ∀ b, x.vc.ownBlock = some b → ∃ cs, Blk w b 80 cs
 d : ∀ b, x.vd.ownBlock = some b → ∃ cs, Blk w b 65 cs
theorem NdTy.ext {w w' : World} {x : NdV} (h : NdTy w x) (hE : Ext w w') : NdTy w' x :=
 ⟨fun b hb => by obtain ⟨cs, hc⟩ := h.a b hb; exact ⟨cs, hc.ext hE⟩, fun b hb => by obtain ⟨cs, hc⟩ := h.c b hb; exact ⟨cs, hc.ext hE⟩, fun b hb => by obtain ⟨cs, hc⟩ := h.d b hb; exact ⟨cs, hc.ext hE⟩⟩
def Away (w : World) (S : Nat → Prop) : Prop := ∀ b, S b → ∃ t cs, Blk w b t cs ∧ t ≠ 78 ∧ t ≠ 80 ∧ t ≠ 65
theorem Away.one {w : World} {g t : Nat} {cs : Array Value} (h : Blk w g t cs) (h1 : t ≠ 78 ∧ t ≠ 80 ∧ t ≠ 65) : Away w (· = g) := fun _ hb => ⟨t, cs, hb ▸ h, h1⟩
theorem Away.own {α : Type} {cf : α → List Value} {z B t : Nat} {w : World} {v : Value} {l : List α} (h : Ow cf z w B t v l) (h1 : t ≠ 78 ∧ t ≠ 80 ∧ t ≠ 65) : Away w (fun b => v.ownBlock = some b) := fun b hb => by
 obtain ⟨cs, hc⟩ := h.typ hb
 exact ⟨t, cs, hc, h1⟩
structure NdK (w : World) (x : NdV) : Prop where
 i : NdIn w x
 t : NdTy w x
theorem NdK.ext {w w' : World} {x : NdV} (h : NdK w x) (hE : Ext w w') : NdK w' x := ⟨h.i.ext hE, h.t.ext hE⟩
theorem NdK.fr {S : Nat → Prop} {w w' : World} {x : NdV} (h : NdK w x) (hF : Fr S w w') (hA : Away w S) : NdK w' x := by
 have key : ∀ b t cs, Blk w b t cs → (t = 78 ∨ t = 80 ∨ t = 65) → ¬ S b := fun b t _ hb ht hS => by
  obtain ⟨t', cs', hb', h1, h2, h3⟩ := hA b hS
  have : t = t' := by
   by_cases e : t = t'
   ·exact e
   ·exact absurd rfl (hb.ne_ hb' e)
  subst this
  rcases ht with ht | ht | ht
  ·exact h1 ht
  ·exact h2 ht
  ·exact h3 ht
 refine ⟨⟨h.i.a.fr hF fun b hb => ?_, h.i.c.fr hF fun b hb => ?_, h.i.d.fr hF fun b hb => ?_⟩, ⟨fun b hb => ?_, fun b hb => ?_, fun b hb => ?_⟩⟩
 ·obtain ⟨cs, hc⟩ := h.t.a b hb; exact key b _ cs hc (.inl rfl)
 ·obtain ⟨cs, hc⟩ := h.t.c b hb; exact key b _ cs hc (.inr (.inl rfl))
 ·obtain ⟨cs, hc⟩ := h.t.d b hb; exact key b _ cs hc (.inr (.inr rfl))
 ·obtain ⟨cs, hc⟩ := h.t.a b hb; exact ⟨cs, hc.fr hF (key b _ cs hc (.inl rfl))⟩
 ·obtain ⟨cs, hc⟩ := h.t.c b hb; exact ⟨cs, hc.fr hF (key b _ cs hc (.inr (.inl rfl)))⟩
 ·obtain ⟨cs, hc⟩ := h.t.d b hb; exact ⟨cs, hc.fr hF (key b _ cs hc (.inr (.inr rfl)))⟩
end
end Go.Proofs.YtbpmlbjapapoaaaGreatDoor.Eng
