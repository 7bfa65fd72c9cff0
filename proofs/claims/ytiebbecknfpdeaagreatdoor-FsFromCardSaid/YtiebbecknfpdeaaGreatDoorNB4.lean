/-
  Parts of the proof: Wr, Zg.
-/
import Derived.Laws.AppendOwn
import Derived.Laws.CopyRow
import Derived.Lib.AppendZerosOnto
import Derived.Test.YtiebbecknfpdeaaGreatDoorNB0a
import Derived.Test.YtiebbecknfpdeaaGreatDoorNB1
import Derived.Test.YtiebbecknfpdeaaGreatDoorNWd
set_option maxRecDepth 100000
set_option maxHeartbeats 64000000
namespace Go.Proofs.YtiebbecknfpdeaaGreatDoor.Eng
open Go.RowKit
section
theorem countP_lt {α : Type} {p q : α → Bool} (hpq : ∀ x, p x = true → q x = true) : ∀ l : List α, (∃ x ∈ l, q x = true ∧ p x = false) → l.countP p < l.countP q
 | [], h => by obtain ⟨x, hx, _⟩ := h; cases hx
 | y :: l, h => by
  obtain ⟨x, hx, h1, h2⟩ := h
  rw [List.countP_cons, List.countP_cons]
  have hle : l.countP p ≤ l.countP q := List.countP_mono_left fun x _ => hpq x
  rcases List.mem_cons.1 hx with rfl | hx
  ·rw [h1, h2]; simp only [if_true, Bool.false_eq_true, if_false]; omega
  ·have ih := countP_lt hpq l ⟨x, hx, h1, h2⟩
   cases hp : p y with
   | true => rw [hpq y hp]; simp only [if_true]; omega
   | false => simp only [Bool.false_eq_true, if_false]; omega
def cntL (O : List En) (x : En) : Nat := O.countP fun y => lessP y.path x.path
theorem cntL_lt {O : List En} {x : En} (hx : x ∈ O) (y : En) : lessP x.path y.path = true ↔ cntL O x < cntL O y := by
 unfold lessP
 constructor
 ·intro h
  exact countP_lt (fun z hz => by unfold lessP at *; exact lessL_trans _ _ _ hz h) O ⟨x, hx, h, lessL_irr _⟩
 ·intro h
  cases e : lessL (partsP x.path) (partsP y.path) with
  | true => rfl
  | false =>
   have : cntL O y ≤ cntL O x := List.countP_mono_left fun z _ hz => by
    unfold lessP at *
    rcases lessL_neg _ (partsP x.path) _ hz with g | g
    ·exact g
    ·rw [e] at g; cases g
   omega
def tagE (l : List En) : List Tg := l.zipIdx.map fun p => (p.2, p.1)
theorem tagE_snd (l : List En) : (tagE l).map Prod.snd = l := by
 unfold tagE
 rw [List.map_map]
 have : (Prod.snd ∘ fun p : En × Nat => (p.2, p.1)) = Prod.fst := rfl
 rw [this, List.zipIdx_map_fst]
theorem tagE_stb (l : List En) (c : Tg → Int) : (tagE l).Pairwise (stb c) := by
 unfold tagE
 rw [List.pairwise_map]
 have : ∀ (l : List En) (k : Nat), (l.zipIdx k).Pairwise fun a b => a.2 < b.2 := by
  intro l
  induction l with
  | nil => intro k; exact List.Pairwise.nil
  | cons x l ih =>
   intro k
   rw [List.zipIdx_cons, List.pairwise_cons]
   refine ⟨fun p hp => ?_, ih _⟩
   have := List.le_snd_of_mem_zipIdx hp
   show k < p.2
   omega
 exact (this l 0).imp fun {a b} h => (fun _ => h : stb c (a.2, a.1) (b.2, b.1))
theorem norm1_does (w : World) (a b : En) : Does Tryz.prog 116 #[.agg (enC a).toArray, .agg (enC b).toArray] w fun r w' => Ext w w' ∧ ∃ z, r = .int .i64 z ∧ (z < 0 ↔ lessP a.path b.path = true) := by
 refine does2 Tryz.func116 rfl (by kernel_rfl) ?_
 refine goL ?_
 refine xbox rfl (fun w1 hB1 hE1 hs1 => ?_)
 have k1 : w1.cell? ⟨w.heap.size, 0, none⟩ = some (.string (su a.path)) := Blk.cell hB1 0
 refine goL ?_
 refine xbox rfl (fun w2 hB2 hE2 hs2 => ?_)
 have k2 : w2.cell? ⟨w1.heap.size, 0, none⟩ = some (.string (su b.path)) := Blk.cell hB2 0
 have k3 : w2.cell? ⟨w.heap.size, 0, none⟩ = some (.string (su a.path)) := hE2.cell k1
 refine goL ?_
 refine xcallE rfl rfl (less_does w2 a.path b.path) (fun r w3 h3 => ?_)
 obtain ⟨rfl, hE3⟩ := h3
 have hE03 : Ext w w3 := hE1.t (hE2.t hE3)
 cases hl : lessP a.path b.path with
 | true =>
  refine goL ?_
  exact tret1 rfl rfl ⟨hE03, _, rfl, by simp⟩
 | false =>
  have k4 : w3.cell? ⟨w.heap.size, 0, none⟩ = some (.string (su a.path)) := hE3.cell k3
  have k5 : w3.cell? ⟨w1.heap.size, 0, none⟩ = some (.string (su b.path)) := hE3.cell k2
  refine goL ?_
  refine xcallE rfl rfl (less_does w3 b.path a.path) (fun r w4 h4 => ?_)
  obtain ⟨rfl, hE4⟩ := h4
  cases hl2 : lessP b.path a.path with
  | true =>
   refine goL ?_
   exact tret1 rfl rfl ⟨hE03.t hE4, _, rfl, by simp⟩
  | false =>
   refine goL ?_
   exact tret1 rfl rfl ⟨hE03.t hE4, _, rfl, by simp⟩
theorem norm1_cmp (O : List En) (g : Nat) (w : World) : CmpOK g w 116 #[] (fun x => x.2 ∈ O) (fun x => (cntL O x.2 : Int)) := by
 refine ⟨by kernel_rfl, fun w' _ x y hx hy => ?_⟩
 refine (norm1_does w' x.2 y.2).mono ?_
 rintro r w2 ⟨h1, z, h2, h3⟩
 refine ⟨h1, z, h2, h3.trans ?_⟩
 rw [cntL_lt hx]
 dsimp only
 omega
theorem sl_ents : SlT 26 54 (.agg #[.string ⟨#[]⟩, .int .i64 0]) 2 24 := slT Tryz.underlying26 (by kernel_rfl)
theorem sl_atts : SlT 61 101 (.agg #[.string ⟨#[]⟩, .string ⟨#[]⟩]) 2 32 := slT Tryz.underlying61 (by kernel_rfl)
theorem sl_acs : SlT 62 103 (.agg #[.int .i64 0, .int .i64 0, .int .i64 0]) 3 24 := slT Tryz.underlying62 (by kernel_rfl)
theorem sl_pcs : SlT 65 134 (.agg #[.int .i64 0, .string ⟨#[]⟩]) 2 24 := slT Tryz.underlying65 (by kernel_rfl)
def nd0 : Array Value := #[.int .i64 0, .int .i64 0, .int .i64 0, .int .i64 0, .int .i64 0, .slice none 0 0, .slice none 0 0, .int .i64 0, .slice none 0 0, .string ⟨#[]⟩, .int .i64 0, .int .i64 0]
theorem sl_nds : SlT 27 67 (.agg nd0) 12 152 := slT Tryz.underlying27 (by kernel_rfl)
theorem enC_one (l : List En) : ∀ u ∈ l.flatMap enC, u.oneCell' = true := fun u hu => by
 obtain ⟨x, _, hx⟩ := List.mem_flatMap.1 hu
 simp only [enC, List.mem_cons, List.not_mem_nil, or_false] at hx
 rcases hx with rfl | rfl <;> rfl
theorem attC_one (l : List Att) : ∀ u ∈ l.flatMap attC, u.oneCell' = true := fun u hu => by
 obtain ⟨x, _, hx⟩ := List.mem_flatMap.1 hu
 simp only [attC, List.mem_cons, List.not_mem_nil, or_false] at hx
 rcases hx with rfl | rfl <;> rfl
theorem acC_one (l : List Ac) : ∀ u ∈ l.flatMap acC, u.oneCell' = true := fun u hu => by
 obtain ⟨x, _, hx⟩ := List.mem_flatMap.1 hu
 simp only [acC, List.mem_cons, List.not_mem_nil, or_false] at hx
 rcases hx with rfl | rfl | rfl <;> rfl
theorem pcC_one (l : List Pce) : ∀ u ∈ l.flatMap pcC, u.oneCell' = true := fun u hu => by
 obtain ⟨x, _, hx⟩ := List.mem_flatMap.1 hu
 simp only [pcC, List.mem_cons, List.not_mem_nil, or_false] at hx
 rcases hx with rfl | rfl <;> rfl
structure NdL (n : Nd) : Prop where
 a : n.attrs.length ≤ 1000000
 c : n.acl.length ≤ 1000000
 d : n.data.length ≤ 1000000
def NdF (B : Nat) (x : NdV) : Prop := ∀ b, x.va.ownBlock = some b ∨ x.vc.ownBlock = some b ∨ x.vd.ownBlock = some b → B ≤ b
theorem NdIn.fr {S : Nat → Prop} {w w' : World} {x : NdV} {B : Nat} (h : NdIn w x) (hF : NdF B x) (hf : Fr S w w') (hS : ∀ b, B ≤ b → ¬ S b) : NdIn w' x := ⟨h.a.fr hf fun b hb => hS b (hF b (.inl hb)), h.c.fr hf fun b hb => hS b (hF b (.inr (.inl hb))), h.d.fr hf fun b hb => hS b (hF b (.inr (.inr hb)))⟩
structure NdO (w : World) (B : Nat) (x : NdV) : Prop where
 a : Ow attC 2 w B 101 x.va x.n.attrs
 c : Ow acC 3 w B 103 x.vc x.n.acl
 d : Ow pcC 2 w B 134 x.vd x.n.data
theorem NdO.in {w : World} {B : Nat} {x : NdV} (h : NdO w B x) : NdIn w x := ⟨h.a.rw, h.c.rw, h.d.rw⟩
theorem NdO.f {w : World} {B : Nat} {x : NdV} (h : NdO w B x) : NdF B x := fun b hb => by
 rcases hb with hb | hb | hb
 ·exact (h.a.blk hb).1
 ·exact (h.c.blk hb).1
 ·exact (h.d.blk hb).1
theorem NdO.fr {S : Nat → Prop} {w w' : World} {B : Nat} {x : NdV} (h : NdO w B x) (hf : Fr S w w') (hS : ∀ b, x.va.ownBlock = some b ∨ x.vc.ownBlock = some b ∨ x.vd.ownBlock = some b → ¬ S b) : NdO w' B x :=
 ⟨h.a.fr hf fun b hb => hS b (.inl hb), h.c.fr hf fun b hb => hS b (.inr (.inl hb)), h.d.fr hf fun b hb => hS b (.inr (.inr hb))⟩
theorem NdO.ext {w w' : World} {B : Nat} {x : NdV} (h : NdO w B x) (hf : Ext w w') : NdO w' B x := h.fr hf fun _ _ hh => hh
theorem NdO.mono {w : World} {B B' : Nat} {x : NdV} (h : NdO w B x) (hB : B' ≤ B) : NdO w B' x := ⟨h.a.mono hB, h.c.mono hB, h.d.mono hB⟩
structure TrO (w : World) (B : Nat) (ve vn : Value) (nvs : List NdV) (t : Tre) : Prop where
 e : Ow enC 2 w B 54 ve t.es
 n : Ow ndC 12 w B 67 vn nvs
 i : ∀ x ∈ nvs, NdO w B x
 m : nvs.map (·.n) = t.ns
theorem TrO.v {w : World} {B : Nat} {ve vn : Value} {nvs : List NdV} {t : Tre} (h : TrO w B ve vn nvs t) : TrV w ve vn nvs t := ⟨h.e.rw, h.n.rw, fun x hx => (h.i x hx).in, h.m⟩
theorem TrO.ext {w w' : World} {B : Nat} {ve vn : Value} {nvs : List NdV} {t : Tre} (h : TrO w B ve vn nvs t) (hf : Ext w w') : TrO w' B ve vn nvs t := ⟨h.e.ext hf, h.n.ext hf, fun x hx => (h.i x hx).ext hf, h.m⟩
theorem TrO.mono {w : World} {B B' : Nat} {ve vn : Value} {nvs : List NdV} {t : Tre} (h : TrO w B ve vn nvs t) (hB : B' ≤ B) : TrO w B' ve vn nvs t := ⟨h.e.mono hB, h.n.mono hB, fun x hx => (h.i x hx).mono hB, h.m⟩
theorem copyOf_doesO (w : World) (x : NdV) (hx : NdIn w x) (hL : NdL x.n) : Does Tryz.prog 118 #[.agg (ndC x).toArray] w fun r w' => ∃ x', r = .agg (ndC x').toArray ∧ NdO w' w.heap.size x' ∧ x'.n = x.n ∧ Ext w w' := by
 refine does1 Tryz.func118 rfl (by kernel_rfl) ?_
 obtain ⟨n, va, vc, vd⟩ := x
 obtain ⟨ha, hc, hd⟩ := hx
 obtain ⟨la, lc, ld⟩ := hL
 dsimp only at ha hc hd la lc ld ⊢
 obtain ⟨A1, c1, rfl, _, _, _⟩ := ha.op attC_len
 obtain ⟨A2, c2, rfl, _, _, _⟩ := hc.op acC_len
 obtain ⟨A3, c3, rfl, _, _, _⟩ := hd.op pcC_len
 refine goL ?_
 refine xbox rfl (fun w1 hB1 hE1 hs1 => ?_)
 refine goL ?_
 refine xalloc (z := .agg nd0) (by kernel_rfl) (fun w2 hB2 hE2 hs2 => ?_)
 have hB : Blk w2 w.heap.size 67 (ndC ⟨n, .slice A1 n.attrs.length c1, .slice A2 n.acl.length c2, .slice A3 n.data.length c3⟩).toArray := Blk.ext hB1 hE2
 have k1 : w2.cell? ⟨w.heap.size, 5, none⟩ = some (.slice A1 n.attrs.length c1) := hB.cell 5
 refine goL ?_
 refine xapz (B := w2.heap.size) (news := n.attrs.flatMap attC) sl_atts rfl (by decide) rfl (OwnZ.nil _ _ _ _) rfl (Row.ext ha (hE1.t hE2)) (flat_len attC_len _) (attC_one _) (by unfold maxLen; omega) (by omega) (Nat.le_refl _) (fun v1 w3 hO3 hF3 _ => ?_)
 have hE3 : Ext w2 w3 := hF3.mono fun _ _ h => by cases h
 have hN : ∀ {a b c : World} {g : Nat}, Ext a b → Fr (· = g) b c → a.heap.size ≤ g → Ext a c := fun h1 h2 hg => h1.trans h2 fun j hj e => absurd hj (by omega)
 obtain ⟨B1, d1, rfl, _, _⟩ := hO3.form
 rw [Nat.zero_add] at hO3
 refine goL ?_
 refine xstb (Blk.ext hB hE3) rfl rfl (by kernel_rfl) rfl rfl (fun w4 hB4 hF4 => ?_)
 have hE04 : Ext w w4 := hN (hE1.t (hE2.t hE3)) hF4 (Nat.le_refl _)
 have k2 : w4.cell? ⟨w.heap.size, 6, none⟩ = some (.slice A2 n.acl.length c2) := Blk.cell hB4 6
 refine goL ?_
 refine xapz (B := w4.heap.size) (news := n.acl.flatMap acC) sl_acs rfl (by decide) rfl (OwnZ.nil _ _ _ _) rfl (Row.ext hc hE04) (flat_len acC_len _) (acC_one _) (by unfold maxLen; omega) (by omega) (Nat.le_refl _) (fun v2 w5 hO5 hF5 _ => ?_)
 have hE5 : Ext w4 w5 := hF5.mono fun _ _ h => by cases h
 obtain ⟨B2, d2, rfl, _, _⟩ := hO5.form
 rw [Nat.zero_add] at hO5
 refine goL ?_
 refine xstb (Blk.ext hB4 hE5) rfl rfl (by kernel_rfl) rfl rfl (fun w6 hB6 hF6 => ?_)
 have hE06 : Ext w w6 := hN (hE04.t hE5) hF6 (Nat.le_refl _)
 have k3 : w6.cell? ⟨w.heap.size, 8, none⟩ = some (.slice A3 n.data.length c3) := Blk.cell hB6 8
 refine goL ?_
 refine xapz (B := w6.heap.size) (news := n.data.flatMap pcC) sl_pcs rfl (by decide) rfl (OwnZ.nil _ _ _ _) rfl (Row.ext hd hE06) (flat_len pcC_len _) (pcC_one _) (by unfold maxLen; omega) (by omega) (Nat.le_refl _) (fun v3 w7 hO7 hF7 _ => ?_)
 have hE7 : Ext w6 w7 := hF7.mono fun _ _ h => by cases h
 obtain ⟨B3, d3, rfl, _, _⟩ := hO7.form
 rw [Nat.zero_add] at hO7
 refine goL ?_
 refine xstb (Blk.ext hB6 hE7) rfl rfl (by kernel_rfl) rfl rfl (fun w8 hB8 hF8 => ?_)
 have hE08 : Ext w w8 := hN (hE06.t hE7) hF8 (Nat.le_refl _)
 have z1 := hE1.size; have z2 := hE2.size; have z3 := hE3.size; have z4 := hF4.size; have z5 := hE5.size; have z6 := hF6.size; have z7 := hE7.size
 have ne : ∀ {w' : World} {B : Nat} {e : TypeId} {z m : Nat} {v : Value} {vs : List Value}, OwnZ w' B e z v m vs → w.heap.size < B → ∀ b, v.ownBlock = some b → ¬ b = w.heap.size := fun h hlt b hb => by have := (h.blk hb).1; omega
 have hO3' := ((((hO3.fr hF4 (ne hO3 (by omega))).ext hE5).fr hF6 (ne hO3 (by omega))).ext hE7).fr hF8 (ne hO3 (by omega))
 have hO5' := ((hO5.fr hF6 (ne hO5 (by omega))).ext hE7).fr hF8 (ne hO5 (by omega))
 have hO7' := hO7.fr hF8 (ne hO7 (by omega))
 refine goL ?_
 have hB8' : Blk w8 w.heap.size 67 (ndC ⟨n, .slice B1 n.attrs.length d1, .slice B2 n.acl.length d2, .slice B3 n.data.length d3⟩).toArray := by
  simp only [Nat.zero_add] at hB8
  exact hB8
 refine xlda (t := 67) hB8' rfl rfl ?_
 have hB9 : Blk w8 w1.heap.size 67 (Value.agg nd0).cells := Blk.fr (Blk.ext (Blk.fr (Blk.ext (Blk.fr (Blk.ext hB2 hE3) hF4 (by omega)) hE5) hF6 (by omega)) hE7) hF8 (by omega)
 refine goL ?_
 refine xsta hB9 rfl rfl (by kernel_rfl) rfl (one_cells (l := ndC ⟨n, .slice B1 n.attrs.length d1, .slice B2 n.acl.length d2, .slice B3 n.data.length d3⟩) rfl) (fun w9 hB9 hF9 => ?_)
 have hE09 : Ext w w9 := hN hE08 hF9 (by omega)
 have ne' : ∀ {w' : World} {B : Nat} {e : TypeId} {z m : Nat} {v : Value} {vs : List Value}, OwnZ w' B e z v m vs → w1.heap.size < B → ∀ b, v.ownBlock = some b → ¬ b = w1.heap.size := fun h hlt b hb => by have := (h.blk hb).1; omega
 refine goL ?_
 exact tretc rfl rfl hB9 (by kernel_rfl) ⟨⟨n, _, _, _⟩, rfl, ⟨(hO3'.fr hF9 (ne' hO3 (by omega))).mono (by omega), (hO5'.fr hF9 (ne' hO5 (by omega))).mono (by omega), (hO7'.fr hF9 (ne' hO7 (by omega))).mono (by omega)⟩, rfl, hE09⟩
end
section
variable {hs : List Nat} {H : World → Prop} {full : Array Oper} {K : Env → World → Prop} {rest : List Oper} {env : Env} {w : World} {d : Tmp} {dst : Option Tmp} {ty : TypeId} {pos : String} {af : Array Edge}
theorem flat_put {α : Type} {cf : α → List Value} {z : Nat} (hz : ∀ x, (cf x).length = z) {l : List α} {L : List Value} {n i : Nat} (hn : n = l.length) (hL : L.take (n * z) = l.flatMap cf) (hlen : n * z ≤ L.length) (hi : i < l.length) (x : α) :
  (L.take (i * z) ++ cf x ++ L.drop (i * z + z)).take (n * z) = (l.set i x).flatMap cf := by
 subst hn
 have hsp : l = l.take i ++ l[i] :: l.drop (i + 1) := by rw [← List.drop_eq_getElem_cons hi, List.take_append_drop]
 have hA := flat_len hz (l.take i)
 rw [List.length_take, Nat.min_eq_left (by omega)] at hA
 have hC := flat_len hz (l.drop (i + 1))
 rw [List.length_drop] at hC
 have hLs : L = (l.take i).flatMap cf ++ (cf l[i] ++ ((l.drop (i + 1)).flatMap cf ++ L.drop (l.length * z))) := by
  conv => lhs; rw [← List.take_append_drop (l.length * z) L, hL]
  conv => lhs; arg 1; rw [hsp]
  rw [List.flatMap_append, List.flatMap_cons, List.append_assoc, List.append_assoc]
 have h1 : L.take (i * z) = (l.take i).flatMap cf := by rw [hLs, List.take_append_of_le_length (by omega), List.take_of_length_le (by omega)]
 have h2 : L.drop (i * z + z) = (l.drop (i + 1)).flatMap cf ++ L.drop (l.length * z) := by
  conv => lhs; rw [hLs]
  rw [List.drop_append, List.drop_eq_nil_of_le (by omega), List.nil_append, hA, show i * z + z - i * z = z from by omega, List.drop_append, List.drop_eq_nil_of_le (by rw [hz]; omega), List.nil_append, hz, Nat.sub_self, List.drop_zero]
 have hs : l.set i x = l.take i ++ x :: l.drop (i + 1) := by rw [List.set_eq_take_append_cons_drop, if_pos hi]
 rw [h1, h2, hs, List.flatMap_append, List.flatMap_cons]
 have hlen2 : ((l.take i).flatMap cf ++ cf x ++ (l.drop (i + 1)).flatMap cf).length = l.length * z := by
  rw [List.length_append, List.length_append, hA, hz, hC]
  have : l.length = i + 1 + (l.length - (i + 1)) := by omega
  conv => rhs; rw [this, Nat.add_mul, Nat.add_mul, Nat.one_mul]
 rw [← List.append_assoc, List.take_append_of_le_length (by omega), List.take_of_length_le (by omega), List.append_assoc]
theorem xstow {α : Type} {cf : α → List Value} {z B : Nat} (hz : ∀ x, (cf x).length = z) {t e : TypeId} {p y : Operand} {g n c q : Nat} {l : List α} {x : α} (i : Nat) (hO : Ow cf z w B e (.slice (some ⟨g, 0, none⟩) n c) l) (hx : evo env p = some (.pointer (some ⟨g, q, none⟩))) (hy : evo env y = some (.agg (cf x).toArray)) (hq : q = i * z) (ht : get l_agg t = some z) (h1 : ∀ u ∈ cf x, u.oneCell' = true) (hi : i < l.length)
  (h : ∀ w', Ow cf z w' B e (.slice (some ⟨g, 0, none⟩) n c) (l.set i x) → Fr (· = g) w w' → xs Tryz.prog isI isS hs H full K rest env w') (hH : ∀ w', Fr (· = g) w w' → H w' := by intros; trivial) : xs Tryz.prog isI isS hs H full K (⟨none, .store t p y, ty, pos, af, none⟩ :: rest) env w := by
 subst hq
 obtain ⟨_, it, h4, h5⟩ := agg_spec ht
 obtain ⟨_, hO⟩ := hO
 rcases hO with ⟨e1, _⟩ | ⟨g', cap, cur, e1, hg, hh, h7, h8, h9, h10⟩
 ·cases e1
 injection e1 with e1 e2 e3
 injection e1 with e1
 injection e1 with e1
 subst e1; subst e2; subst e3
 have hle : i * z + z ≤ l.length * z := by rw [← Nat.succ_mul]; exact Nat.mul_le_mul_right z hi
 have hle2 : l.length * z ≤ c * z := Nat.mul_le_mul_right z h7
 refine x_gen rfl (by simp [opsOK, Op.operands, hx, hy]) ?_
 have hr := run_storeCells_at (P := Tryz.prog) g (i * z) e (cf x) 0 cur w hh (by rw [hz]; omega) h1
 rw [Nat.add_zero, hz] at hr
 generalize hcs : (cur.toList.take (i * z) ++ cf x ++ cur.toList.drop (i * z + z)).toArray = cs at hr
 have hF : Fr (· = g) w (w.setRow g cs) := ⟨rfl, rfl, rfl, by simp [World.setRow], fun k hk hn => by simp only [World.setRow, Array.getElem?_modify]; rw [if_neg (fun e => hn e.symm)]⟩
 have hN : Blk (w.setRow g cs) g e cs := by
  unfold Blk
  simp [World.setRow, Array.getElem?_modify, hh]
 show out Tryz.prog ((execOp (ev env) ⟨none, .store t p y, ty, pos, af, none⟩).run Tryz.prog w) _
 have e : (execOp (ev env) ⟨none, .store t p y, ty, pos, af, none⟩).run Tryz.prog w = .ok .skip (w.setRow g cs) := by
  simp [execOp, ev_of hx, ev_of hy, Instr.storeAt, Instr.sureAddr, storeVar, Value.cells, sizeOf, typeInfo, h4, h5, hz, hr]
 rw [e]
 refine ⟨hH _ hF, h _ ?_ hF⟩
 unfold Ow
 rw [List.length_set]
 refine ⟨by rw [flat_len hz, List.length_set], .inr ⟨g, c, cs, rfl, hg, hN, h7, h8, ?_, ?_⟩⟩
 ·rw [← hcs]
  simp only [List.size_toArray, List.length_append, List.length_take, List.length_drop, hz, Array.length_toList, h9]
  omega
 ·rw [← hcs]
  exact flat_put hz (n := l.length) rfl h10 (by have : cur.toList.length = cur.size := Array.length_toList; omega) hi x
theorem flat_set1 : ∀ (l : List Tg) (i q : Nat) (s : Str) (o z : Int) (r : List Value), l[i]? = some (q, ⟨s, o⟩) → (l.flatMap tgC ++ r).set (i * 2 + 1) (.int .i64 z) = (l.set i (q, ⟨s, z⟩)).flatMap tgC ++ r
 | [], i, _, _, _, _, _, h => by simp at h
 | x :: l, 0, q, s, o, z, r, h => by
  simp only [List.getElem?_cons_zero, Option.some.injEq] at h
  subst h
  rfl
 | x :: l, i + 1, q, s, o, z, r, h => by
  have ih := flat_set1 l i q s o z r (by simpa using h)
  have e2 : ((x :: l).flatMap tgC ++ r).set ((i + 1) * 2 + 1) (.int .i64 z) = .string (su x.2.path) :: .int .i64 x.2.node :: ((l.flatMap tgC ++ r).set (i * 2 + 1) (.int .i64 z)) := by
   rw [show (i + 1) * 2 + 1 = i * 2 + 1 + 2 from by omega]
   rfl
  rw [e2, ih]
  rfl
theorem xsten {zs : Nat} {p y : Operand} {g i q k : Nat} {l : List Tg} {s : Str} {o z : Int} (hB : DB zs w g l) (hx : evo env p = some (.pointer (some ⟨g, k, none⟩))) (hy : evo env y = some (.int .i64 z)) (hk : k = i * 2 + 1) (hi : l[i]? = some (q, ⟨s, o⟩))
  (h : ∀ w', DB zs w' g (l.set i (q, ⟨s, z⟩)) → Fr (· = g) w w' → xs Tryz.prog isI isS hs H full K rest env w') (hH : ∀ w', Fr (· = g) w w' → H w' := by intros; trivial) : xs Tryz.prog isI isS hs H full K (⟨none, .store 3 p y, ty, pos, af, none⟩ :: rest) env w := by
 subst hk
 obtain ⟨r, hz, hB⟩ := hB
 have hl := flat_len tgC_len l
 have hlt := (List.getElem?_eq_some_iff.1 hi).1
 refine xstb hB hx hy (by kernel_rfl) rfl (by simp only [List.size_toArray, List.length_append, hl, decide_eq_true_eq]; omega) (fun w' hB' hF => h w' ⟨r, by rw [List.length_set]; exact hz, ?_⟩ hF) hH
 rw [List.setIfInBounds_toArray, flat_set1 l i q s o z r hi] at hB'
 exact hB'
theorem Dw.op {w : World} {B n c : Nat} {A : Option Addr} {l : List Tg} (h : Dw w B (.slice A n c) l) : n = l.length ∧ (l = [] ∨ ∃ g, A = some ⟨g, 0, none⟩ ∧ B ≤ g ∧ DB (c * 2) w g l) := by
 obtain ⟨A', c', e, _, _, h⟩ := h
 injection e with e1 e2 e3
 subst e1; subst e3
 exact ⟨e2, h⟩
end
section
variable {hs : List Nat} {H : World → Prop} {full : Array Oper} {K : Env → World → Prop} {rest : List Oper} {env : Env} {w : World} {d : Tmp} {dst : Option Tmp} {ty : TypeId} {pos : String} {af : Array Edge}
theorem flat_setc {α : Type} {cf : α → List Value} {z : Nat} (hz : ∀ x, (cf x).length = z) {j : Nat} {u : Value} (hj : j < z) : ∀ {l : List α} {i : Nat} {x x' : α}, l[i]? = some x → cf x' = (cf x).set j u → (l.flatMap cf).set (i * z + j) u = (l.set i x').flatMap cf
 | [], i, x, x', h, _ => by simp at h
 | y :: l, 0, x, x', h, h' => by
  simp only [List.getElem?_cons_zero, Option.some.injEq] at h
  subst h
  rw [Nat.zero_mul, Nat.zero_add, List.flatMap_cons, List.set_append_left _ _ (by rw [hz]; exact hj), List.set_cons_zero, List.flatMap_cons, h']
 | y :: l, i + 1, x, x', h, h' => by
  rw [List.getElem?_cons_succ] at h
  have ih := flat_setc hz hj h h'
  rw [List.flatMap_cons, List.set_append_right _ _ (by rw [hz, Nat.succ_mul]; omega), List.set_cons_succ, List.flatMap_cons, hz, Nat.succ_mul, show i * z + z + j - z = i * z + j from by omega, ih]
theorem xstc {α : Type} {cf : α → List Value} {z B : Nat} (hz : ∀ x, (cf x).length = z) {t e : TypeId} {p y : Operand} {g n c q : Nat} {l : List α} {x x' : α} {u : Value} (i j : Nat) (hO : Ow cf z w B e (.slice (some ⟨g, 0, none⟩) n c) l) (hx : evo env p = some (.pointer (some ⟨g, q, none⟩))) (hy : evo env y = some u) (hq : q = i * z + j) (hj : j < z) (ht : one t = true) (h1 : u.oneCell' = true) (hi : l[i]? = some x) (hx' : cf x' = (cf x).set j u)
  (h : ∀ w', Ow cf z w' B e (.slice (some ⟨g, 0, none⟩) n c) (l.set i x') → Fr (· = g) w w' → xs Tryz.prog isI isS hs H full K rest env w') (hH : ∀ w', Fr (· = g) w w' → H w' := by intros; trivial) : xs Tryz.prog isI isS hs H full K (⟨none, .store t p y, ty, pos, af, none⟩ :: rest) env w := by
 subst hq
 have hlt := (List.getElem?_eq_some_iff.1 hi).1
 obtain ⟨_, hO⟩ := hO
 rcases hO with ⟨e1, _⟩ | ⟨g', cap, cur, e1, hg, hh, h7, h8, h9, h10⟩
 ·cases e1
 injection e1 with e1 e2 e3
 injection e1 with e1
 injection e1 with e1
 subst e1; subst e2; subst e3
 have hle : i * z + z ≤ l.length * z := by rw [← Nat.succ_mul]; exact Nat.mul_le_mul_right z hlt
 have hle2 : l.length * z ≤ c * z := Nat.mul_le_mul_right z h7
 refine xstb hh hx hy ht h1 (by simp only [decide_eq_true_eq]; omega) (fun w' hB hF => h w' ?_ hF) hH
 unfold Ow
 rw [List.length_set]
 refine ⟨by rw [flat_len hz, List.length_set], .inr ⟨g, c, _, rfl, hg, hB, h7, h8, ?_, ?_⟩⟩
 ·simp only [Array.size_setIfInBounds]; exact h9
 ·rw [Array.toList_setIfInBounds, List.take_set, h10]
  exact flat_setc hz hj hi hx'
theorem OwnZ.grow {w : World} {B : Nat} {e : TypeId} {z g n c n' : Nat} {vs : List Value} (h : OwnZ w B e z (.slice (some ⟨g, 0, none⟩) n c) n vs) (h1 : n ≤ n') (h2 : n' ≤ c) : ∃ r, OwnZ w B e z (.slice (some ⟨g, 0, none⟩) n' c) n' (vs ++ r) := by
 obtain ⟨h3, h4⟩ := h
 rcases h4 with ⟨e1, _⟩ | ⟨g', cap, cur, e1, hg, hh, h7, h8, h9, h10⟩
 ·cases e1
 injection e1 with e1 _ e3
 injection e1 with e1
 injection e1 with e1
 subst e1; subst e3
 have hle : n * z ≤ n' * z := Nat.mul_le_mul_right z h1
 have hle2 : n' * z ≤ c * z := Nat.mul_le_mul_right z h2
 have hcl : cur.toList.length = c * z := by rw [Array.length_toList]; exact h9
 refine ⟨(cur.toList.take (n' * z)).drop (n * z), ?_, .inr ⟨g, c, cur, rfl, hg, hh, h2, h8, h9, ?_⟩⟩
 ·rw [List.length_append, h3, List.length_drop, List.length_take]; omega
 ·rw [← h10]
  have : (cur.toList.take (n' * z)).take (n * z) = cur.toList.take (n * z) := by rw [List.take_take]; congr 1; omega
  rw [← this, List.take_append_drop]
theorem xcpz {dT sT e : TypeId} {z B g o b so n c dLen dCap sLen sCap : Nat} {vs cs : List Value} {x y : Operand} (hz : es dT = some z) (hO : OwnZ w B e z (.slice (some ⟨g, 0, none⟩) n c) n vs) (hx : evo env x = some (.slice (some ⟨g, o, none⟩) dLen dCap)) (hy : evo env y = some (.slice (some ⟨b, so, none⟩) sLen sCap))
  (hn : cs.length = min sLen dLen * z) (hsrc : ∀ j u, cs[j]? = some u → w.cell? ⟨b, so + j, none⟩ = some u) (hfit : o + cs.length ≤ n * z) (h1 : ∀ u ∈ cs, u.oneCell' = true)
  (h : ∀ w', OwnZ w' B e z (.slice (some ⟨g, 0, none⟩) n c) n (vs.take o ++ cs ++ vs.drop (o + cs.length)) → Fr (· = g) w w' → xs Tryz.prog isI isS hs H full K rest (put env dst (goInt (min sLen dLen))) w') (hH : ∀ w', Fr (· = g) w w' → H w' := by intros; trivial) :
  xs Tryz.prog isI isS hs H full K (⟨dst, .call { callee := .builtin .copy, args := ⟨[x, y]⟩, argTypes := ⟨[dT, sT]⟩ }, ty, pos, af, none⟩ :: rest) env w := by
 obtain ⟨el, i, hu, hi', hsz⟩ := es_spec hz
 obtain ⟨h3, h4⟩ := hO
 rcases h4 with ⟨e1, _⟩ | ⟨g', cap, cur, e1, hg, hh, h7, h8, h9, h10⟩
 ·cases e1
 injection e1 with e1 _ e3
 injection e1 with e1
 injection e1 with e1
 subst e1; subst e3
 have hle2 : n * z ≤ c * z := Nat.mul_le_mul_right z h7
 have hcl : cur.toList.length = cur.size := Array.length_toList
 have hl := run_firstCells_some (P := Tryz.prog) w z (min sLen dLen) ⟨b, so, none⟩ sLen sCap cs hn (fun j u hu => by rw [Addr.add_lit]; exact hsrc j u hu)
 have hr := run_storeCells_at (P := Tryz.prog) g o e cs 0 cur w hh (by rw [Nat.add_zero, h9]; omega) h1
 rw [Nat.add_zero] at hr
 generalize hcs : (cur.toList.take o ++ cs ++ cur.toList.drop (o + cs.length)).toArray = nw at hr
 have hF : Fr (· = g) w (w.setRow g nw) := ⟨rfl, rfl, rfl, by simp [World.setRow], fun k hk hn => by simp only [World.setRow, Array.getElem?_modify]; rw [if_neg (fun e => hn e.symm)]⟩
 have hN : Blk (w.setRow g nw) g e nw := by
  unfold Blk
  simp [World.setRow, Array.getElem?_modify, hh]
 have hrun : (Builtin.copy_ #[dT, sT] ty #[.slice (some ⟨g, o, none⟩) dLen dCap, .slice (some ⟨b, so, none⟩) sLen sCap]).run Tryz.prog w = .ok (goInt (min sLen dLen)) (w.setRow g nw) := by
  have hmin : Nat.min sLen dLen = min sLen dLen := rfl
  simp [Builtin.copy_, run_underlying hu, Builtin.lenOf, sizeOf, typeInfo, hi', hsz, hmin, hl, hr]
  congr 1
  omega
 refine xw (v := goInt (min sLen dLen)) (w' := w.setRow g nw) (by simp [opsOK, Op.operands, Call.operands, hx, hy]) rfl ?_ (h _ ⟨?_, .inr ⟨g, c, nw, rfl, hg, hN, h7, h8, ?_, ?_⟩⟩ hF) (hH _ hF)
 ·simp [execOp, resolve, invoke, builtin, ev_of hx, ev_of hy, hrun]
 ·rw [List.length_append, List.length_append, List.length_take, List.length_drop, h3]; omega
 ·rw [← hcs, List.size_toArray, List.length_append, List.length_append, List.length_take, List.length_drop, hcl, h9]; omega
 ·rw [← hcs, ← h10, List.take_take, show min o (n * z) = o from by omega, List.append_assoc, List.append_assoc]
  show (cur.toList.take o ++ (cs ++ cur.toList.drop (o + cs.length))).take (n * z) = _
  rw [List.take_append, List.length_take, List.take_of_length_le (i := n * z) (by rw [List.length_take]; omega), List.take_append, List.take_of_length_le (i := n * z - min o cur.toList.length) (l := cs) (by omega), List.drop_take]
  congr 3
  omega
theorem xapq {t tn e : TypeId} {z : Value} {kn : IntKind} {size bytes n k cap b off : Nat} {s x : Operand} {olds : List Value} {kz : Int} (hT : SlT t e z size bytes) (htn : Tryz.prog.underlying tn = some (.int kn)) (hzc : z.cells.size = size) (hsz : 0 < size) (hss : evo env s = some (.slice (some ⟨b, off, none⟩) n cap)) (hlo : olds.length = n * size) (ho : ∀ j u, olds[j]? = some u → w.cell? ⟨b, off + j, none⟩ = some u) (hx : evo env x = some (.int .i64 kz)) (hk : kz = k)
  (h0 : 0 < k) (hg : cap < n + k) (h63 : n + k ≤ maxLen) (hbytes : (n + k) * bytes ≤ 140737488355328)
  (h : ∀ v' w' zs, OwnZ w' w.heap.size e size v' (n + k) (olds ++ zs) → zs.length = k * size → Ext w w' → xs Tryz.prog isI isS hs H full K rest ((d, v') :: env) w') (hH : ∀ w', Ext w w' → H w' := by intros; trivial) :
  xs Tryz.prog isI isS hs H full K (⟨some d, .call { callee := .builtin .append, args := ⟨[s, x]⟩, argTypes := ⟨[t, tn]⟩ }, ty, pos, af, none⟩ :: rest) env w := by
 subst hk
 obtain ⟨hu, i, hi, hz, hsi, hby⟩ := hT
 subst hsi; subst hby
 have h64 : n + k ≤ 9223372036854775807 := h63
 have hold := run_firstCells_some (P := Tryz.prog) w.drew i.size n ⟨b, off, none⟩ n cap olds hlo (fun j u hu => by rw [Addr.add_lit]; exact ho j u hu)
 have hkb : k * i.bytes ≤ (n + k) * i.bytes := Nat.mul_le_mul_right _ (by omega)
 have hrun := Lib.run_append_grow_zeros (P := Tryz.prog) w t tn ty e i z .i64 kn hu htn hi hz (some ⟨b, off, none⟩) n cap olds hold k h0 hsz hg (by omega) (by omega) (growslice_fits hg hbytes)
 have hlen : (olds ++ (Builtin.zeroCells z.cells k).toList).length = (n + k) * i.size := by rw [List.length_append, hlo, Array.length_toList, size_zeroCells, hzc, Nat.add_mul]
 have hge := grownCap_ge w (n + k) cap e
 have hcm : grownCap w (n + k) cap e ≤ maxLen := grownCap_le_maxLen w (n + k) cap e h63
 have hE : Ext w (w.drew.alloc (.cells (olds.toArray ++ Builtin.zeroCells z.cells k ++ Builtin.zeroCells z.cells (grownCap w (n + k) cap e - (n + k))) e)) := (Fr.drew noneB w).t (Fr.alloc _ _ _)
 refine xw (by simp [opsOK, Op.operands, Call.operands, hss, hx]) rfl (v := .slice (some ⟨w.heap.size, 0, none⟩) (n + k) (grownCap w (n + k) cap e)) (w' := _) ?_ (h _ _ (Builtin.zeroCells z.cells k).toList ⟨hlen, .inr ⟨w.heap.size, _, _, rfl, Nat.le_refl _, heap_alloc_new w.drew _, hge, hcm, ?_, ?_⟩⟩ (by rw [Array.length_toList, size_zeroCells, hzc]) hE) (hH _ hE)
 ·simp [execOp, resolve, invoke, builtin, ev_of hss, ev_of hx, hrun]
 ·simp only [Array.size_append, List.size_toArray, size_zeroCells, hzc, hlo, ← Nat.add_mul]
  congr 1
  omega
 ·have e : ∀ (b c : Array Value), (olds.toArray ++ b ++ c).toList = (olds ++ b.toList) ++ c.toList := fun b c => by simp
  rw [e, ← hlen]
  exact List.take_left
theorem xstk {t bt : TypeId} {x y : Operand} {g q : Nat} {cs nw : Array Value} {vs : List Value} (hB : Blk w g bt cs) (hx : evo env x = some (.pointer (some ⟨g, q, none⟩))) (hy : evo env y = some (.agg vs.toArray)) (ht : get l_agg t = some vs.length) (hi : q + vs.length ≤ cs.size) (h1 : ∀ u ∈ vs, u.oneCell' = true) (hn : nw = (cs.toList.take q ++ vs ++ cs.toList.drop (q + vs.length)).toArray)
  (h : ∀ w', Blk w' g bt nw → Fr (· = g) w w' → xs Tryz.prog isI isS hs H full K rest env w') (hH : ∀ w', Fr (· = g) w w' → H w' := by intros; trivial) : xs Tryz.prog isI isS hs H full K (⟨none, .store t x y, ty, pos, af, none⟩ :: rest) env w := by
 obtain ⟨_, it, h4, h5⟩ := agg_spec ht
 refine x_gen rfl (by simp [opsOK, Op.operands, hx, hy]) ?_
 have hr := run_storeCells_at (P := Tryz.prog) g q bt vs 0 cs w hB (by omega) h1
 rw [Nat.add_zero, ← hn] at hr
 have hF : Fr (· = g) w (w.setRow g nw) := ⟨rfl, rfl, rfl, by simp [World.setRow], fun k hk hn => by simp only [World.setRow, Array.getElem?_modify]; rw [if_neg (fun e => hn e.symm)]⟩
 have hN : Blk (w.setRow g nw) g bt nw := by
  unfold Blk at hB ⊢
  simp [World.setRow, Array.getElem?_modify, hB]
 show out Tryz.prog ((execOp (ev env) ⟨none, .store t x y, ty, pos, af, none⟩).run Tryz.prog w) _
 have e : (execOp (ev env) ⟨none, .store t x y, ty, pos, af, none⟩).run Tryz.prog w = .ok .skip (w.setRow g nw) := by
  simp [execOp, ev_of hx, ev_of hy, Instr.storeAt, Instr.sureAddr, storeVar, Value.cells, sizeOf, typeInfo, h4, h5, hr]
 rw [e]
 exact ⟨hH _ hF, h _ hN hF⟩
end
end Go.Proofs.YtiebbecknfpdeaaGreatDoor.Eng
