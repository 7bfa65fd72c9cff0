/-
  Parts of the proof: Ae.
-/
import Derived.Test.YtbpmlbjapapoaaaGreatDoorQB0b
import Derived.Test.YtbpmlbjapapoaaaGreatDoorQB10
import Derived.Test.YtbpmlbjapapoaaaGreatDoorQWy
import Derived.Test.YtbpmlbjapapoaaaGreatDoorQYe
set_option maxRecDepth 100000
set_option maxHeartbeats 64000000
namespace Go.Proofs.YtbpmlbjapapoaaaGreatDoor.Eng
open Go.RowKit
section
open Go.RowKit Go.Lib
def niC (k : Int) : List Value := [.int .i64 k]
theorem niC_len (k : Int) : (niC k).length = 1 := rfl
def nz (l : Str) : List Int := l.map fun b => (b.toNat : Int)
theorem bs_nz (l : Str) : bs l = (nz l).map (Value.int .u8) := by
 unfold bs strCells su nz
 simp
theorem own_brow {w : World} {B : Nat} {A : Option Addr} {n c : Nat} {l : Str} (h : Own w B 5 (.slice A n c) (bs l)) : BRow w (.slice A n c) (nz l) := by
 have h1 := Own.row h
 rw [bs_nz, List.length_map] at h1
 exact h1
structure FilI (t : Tre) (w0 w : World) (g : Nat) (ve vn : Value) (y : Nat × Value) (w' : World) : Prop where
 le : y.1 ≤ t.es.length
 o : Ow niC 1 w' w0.heap.size 3 y.2 (filT t.ns (t.es.take y.1))
 ext : Ext w w'
structure LkK (t : Tre) (k : Int) (vN : Value) (w0 : World) (y : Value × Nat) (w : World) : Prop where
 ext : Ext w0 w
 blk : Blk w y.2 25 #[y.1, vN]
 e : Ow enC 2 w w0.heap.size 53 y.1 (linkU t k).es
 g : w0.heap.size ≤ y.2
def ToldD22 : Prop := ∀ w : World, Does Tryz.prog 7 #[] w fun r w' => r = .bool true ∧ Ext w w'
section
variable {hs : List Nat} {H : World → Prop} {full : Array Oper} {K : Env → World → Prop} {rest : List Oper} {env : Env} {w : World} {d : Tmp} {ty : TypeId} {pos : String} {af : Array Edge}
theorem xseqt {t yt : TypeId} {x y : Operand} {a b : ByteArray} (hx : evo env x = some (.string a)) (hy : evo env y = some (.string b)) (hr : (a.toList == b.toList) = true)
  (h : xs Tryz.prog isI isS hs H full K rest ((d, .bool true) :: env) w) : xs Tryz.prog isI isS hs H full K (⟨some d, .binOp .eql t x y yt, ty, pos, af, none⟩ :: rest) env w := xseq hx hy (by rw [hr]; exact h)
end
theorem filT_len (ns : List Nd) (es : List En) : (filT ns es).length ≤ es.length := by
 unfold filT
 rw [List.length_map]
 exact List.length_filter_le _ _
theorem aeG {p q : Prop} (k : q) (h : Hid q → p := by intro hq; (repeat' (first | refine xldh rfl rfl (fun _ h => h.1.1) ?_ | refine xldh rfl rfl (fun _ h => h.1.2) ?_ | refine xldh rfl rfl (fun _ h => h.2) ?_ | refine xcv (r := ((uN za : Nat) : Int)) rfl rfl rfl (uN_eq za) ?_ | refine xizq ik (o + ik * 1) rfl rfl rfl hki rfl hikl ?_ | refine go1LU ?_ | fail)); exact hq.out) : p := h ⟨k⟩
theorem ae0 {p q : Prop} (k : q) (h : Hid q → p := by intro hq; (refine xbz0 sl_ents (fun b hO hE hs => ?_) (fun w' he => hH0 w' (fa.t he))); (obtain ⟨v, hx⟩ : ∃ x, x = Value.slice (some ⟨a.heap.size, 0, none⟩) 0 0 := ⟨_, rfl⟩); (rw [← hx]); (have f := fa.t hE); (have e : Ow enC 2 b w.heap.size 53 v [] := by rw [hx]; exact OwnZ.mono hO fa.size); (first | have o : Blk b O 53 (enC ⟨zz, k⟩).toArray ∧ ∀ j, v.ownBlock = some j → j ≠ O := ⟨Blk.ext oa.1 hE, fun j hj => by rw [hx] at hj; have := oa.1.lt; have hz : a.heap.size = j := Option.some.inj hj; omega⟩ | have o : b = b := rfl); (first | have c : Blk b C 25 #[.slice none 0 0, .slice none 0 0] ∧ w.heap.size ≤ C := ⟨Blk.ext ba.1 hE, ba.2⟩ | have c : b = b := rfl); (clear hx hO hE hs); (refine aeG ?_); (revert c o e f); (revert b); (revert v); exact hq.out) : p := h ⟨k⟩
theorem ae3 {p q : Prop} (k : q) (h : Hid q → p := by intro hq; (refine xapz (B := w.heap.size) (news := t.es.flatMap enC) sl_ents rfl (by decide) rfl ea rfl (hR.ext fa) (flat_len enC_len _) (enC_one _) (by simp only [List.length_nil]; unfold maxLen; omega) (by simp only [List.length_nil]; omega) fa.size (fun v b hO hF hn => ?_) (fun w' hF => hH0 w' (fa.trans hF fun j hj h => by have := (ea.blk h).1; omega))); (have f : Ext w b := fa.trans hF fun j hj h => by have := (ea.blk h).1; omega); (have e : Ow enC 2 b w.heap.size 53 v t.es := by have h := Ow.ext1 (cf := enC) (l := []) (l' := t.es) hO; rwa [List.nil_append] at h); (first | have o : Blk b O 53 (enC ⟨zz, k⟩).toArray ∧ ∀ j, v.ownBlock = some j → j ≠ O := ⟨Blk.fr oa.1 hF (fun e => oa.2 _ e rfl), fun j hj => hn.elim (fun hn => oa.2 j (hn.symm.trans hj)) fun hn => by have := oa.1.lt; rw [hn] at hj; have hz := Option.some.inj hj; omega⟩ | have o : b = b := rfl); (first | have c : Blk b C 25 #[.slice none 0 0, .slice none 0 0] ∧ w.heap.size ≤ C := ⟨Blk.fr ba.1 hF (fun e => by obtain ⟨cs, hc⟩ := ea.typ e; exact hc.ne_ ba.1 (by decide) rfl), ba.2⟩ | have c : b = b := rfl); (clear hO hF hn); (refine aeG ?_); (revert c o e f); (revert b); (revert v); exact hq.out) : p := h ⟨k⟩
theorem ae14 {p q : Prop} (k : q) (h : Hid q → p := by intro hq; (refine xbz1 sl_ents rfl rfl (by decide) (by decide) (fun b hB hE hs => ?_) (fun w' he => hH0 w' (fa.t he))); (obtain ⟨x, hx⟩ : ∃ x, x = a.heap.size := ⟨_, rfl⟩); (rw [← hx]); (have f := fa.t hE); (first | have e := Ow.ext ea hE | have e : b = b ∧ ve.ownBlock = none := ⟨rfl, ea.2⟩); (have o : Blk b x 53 (enC ⟨zz, k⟩).toArray ∧ ∀ j, ve.ownBlock = some j → j ≠ x := ⟨by rw [hx]; exact hB, by first | exact fun j hj => by have := (Ow.blk ea hj).2; omega | exact fun j hj => by rw [ea.2] at hj; cases hj⟩); (first | have c : Blk b C 25 #[.slice none 0 0, .slice none 0 0] ∧ w.heap.size ≤ C := ⟨Blk.ext ba.1 hE, ba.2⟩ | have c : b = b := rfl); (clear hB hE hs); (clear hx); (refine aeG ?_); (revert c o e f); (revert b); (revert x); exact hq.out) : p := h ⟨k⟩
theorem ae15 {p q : Prop} (k : q) (h : Hid q → p := by intro hq; (refine xapz (B := w.heap.size) (news := enC ⟨zz, k⟩) sl_ents rfl (by decide) rfl ea rfl (blk_row oa.1 (by decide) rfl) rfl (fun u hu => enC_one [_] u (by simpa using hu)) (by unfold maxLen; omega) (by omega) fa.size (fun v b hO hF hn => ?_) (fun w' hF => hH0 w' (fa.trans hF fun j hj h => by have := (ea.blk h).1; omega))); (have f : Ext w b := fa.trans hF fun j hj h => by have := (ea.blk h).1; omega); (have e : Ow enC 2 b w.heap.size 53 v (t.es ++ [⟨zz, k⟩]) := Ow.ext1 (l' := [(⟨zz, k⟩ : En)]) (by simpa using hO)); (have o : b = b := rfl); (first | have c : Blk b C 25 #[.slice none 0 0, .slice none 0 0] ∧ w.heap.size ≤ C := ⟨Blk.fr ba.1 hF (fun e => by obtain ⟨cs, hc⟩ := ea.typ e; exact hc.ne_ ba.1 (by decide) rfl), ba.2⟩ | have c : b = b := rfl); (clear hO hF hn); (refine aeG ?_); (revert c o e f); (revert b); (revert v); exact hq.out) : p := h ⟨k⟩
theorem ae18 {p q : Prop} (k : q) (h : Hid q → p := by intro hq; (obtain ⟨AF, cF, hv, h1, h2⟩ := ea.form); (have e := ea); (rw [hv] at e ⊢); (clear h1 h2); (refine xbd (cells := #[.slice AF (t.es ++ [(⟨zz, k⟩ : En)]).length cF, .slice N nvs.length d]) rfl (by kernel_rfl) ?_); (refine aeG ?_); (clear hv); (revert e); (revert AF cF); exact hq.out) : p := h ⟨k⟩
theorem ae19 {p q : Prop} (k : q) (h : Hid q → p := by intro hq; (refine xalloc (z := .agg #[.slice none 0 0, .slice none 0 0]) (by kernel_rfl) (fun b hB hE hs => ?_) (fun w' he => hH0 w' (fa.t he))); (obtain ⟨x, hx⟩ : ∃ x, x = a.heap.size := ⟨_, rfl⟩); (rw [← hx]); (have f := fa.t hE); (first | have e := Ow.ext ea hE | have e : b = b ∧ ve.ownBlock = none := ⟨rfl, ea.2⟩); (first | have o : Blk b O 53 (enC ⟨zz, k⟩).toArray ∧ ∀ j, ve.ownBlock = some j → j ≠ O := ⟨Blk.ext oa.1 hE, oa.2⟩ | have o : b = b := rfl); (have c : Blk b x 25 #[.slice none 0 0, .slice none 0 0] ∧ w.heap.size ≤ x := ⟨by rw [hx]; exact hB, by rw [hx]; exact fa.size⟩); (clear hB hE hs); (clear hx); (refine aeG ?_); (revert c o e f); (revert b); (revert x); exact hq.out) : p := h ⟨k⟩
theorem ae20 {p : Prop} (h : p := by (refine xsta ba.1 rfl rfl (by kernel_rfl) rfl (one_cells (l := [.slice AF (t.es ++ [(⟨zz, k⟩ : En)]).length cF, .slice N nvs.length d]) rfl) (fun b hB hF => ?_) (fun w' hF => hH0 w' (hN fa hF ba.2))); (have hfin : LkK t k (.slice N nvs.length d) w (.slice AF (t.es ++ [(⟨zz, k⟩ : En)]).length cF, C) b := ⟨hN fa hF ba.2, hB, ea.fr hF (fun j hj e => by obtain ⟨cs, hc⟩ := ea.typ hj; exact hc.ne_ ba.1 (by decide) e), ba.2⟩); (refine aeG ?_); (refine xg_end ?_); (exact tfin ⟨(.slice AF (t.es ++ [(⟨zz, k⟩ : En)]).length cF, C), sub ⟨rfl, rfl⟩, hfin⟩)) : p := h
attribute [local irreducible] xs T
theorem archLinks_core (mk : MkD) (htold : ToldD22) (w0 : World) (v : Value) (zs : List Int) (hv : IRow w0 v zs) (za : Int) (hP : PowT w0) : Does Tryz.prog 5 #[v, .int .i64 za] w0 fun r w' => r = .bool true ∧ Ext w0 w' := by
 refine does2 Tryz.func5 rfl (by kernel_rfl) ?_
 have hN : ∀ {a b c : World} {g : Nat}, Ext a b → Fr (· = g) b c → a.heap.size ≤ g → Ext a c := fun h1 h2 hg => h1.trans h2 fun j hj e => absurd hj (by omega)
 refine goL ?_
 refine xcallE rfl rfl (mk w0 v zs hv) (fun r w1 h1 => ?_)
 obtain ⟨ve, vn, nvs, rfl, hT1, hE1⟩ := h1
 have hmay := mkT_may (zs.map uN)
 have hlen26 := mkT_len (zs.map uN)
 have hlk := fun k => @mk_link (zs.map uN) k
 obtain ⟨t, ht⟩ : ∃ t, t = mkT (zs.map uN) := ⟨_, rfl⟩
 rw [← ht] at hT1 hmay hlen26
 have hlk : ∀ k, k ∈ filT t.ns t.es → mayT (linkU t k) = true := by rw [ht]; exact hlk
 have hns := may_ns hmay
 obtain ⟨ok1, ok2, ok3⟩ := may_ok hmay
 obtain ⟨A, c, rfl, hc1, hc2, hA⟩ := hT1.e.op enC_len
 obtain ⟨N, d, rfl, hd1, hd2, hAN⟩ := hT1.n.op ndC_len
 have hlen := hT1.len
 refine goL ?_
 refine xalloc (z := .agg #[.slice none 0 0, .slice none 0 0]) (by kernel_rfl) (fun w2 hB2 hE2 hs2 => ?_)
 refine xsta hB2 rfl rfl (by kernel_rfl) rfl (one_cells (l := [.slice A t.es.length c, .slice N nvs.length d]) rfl) (fun w3 hB3 hF3 => ?_)
 have hE13 : Ext w1 w3 := hN hE2 hF3 (Nat.le_refl _)
 have hE03 := hE1.t hE13
 obtain ⟨g5, hg5⟩ : ∃ g5, g5 = w1.heap.size := ⟨_, rfl⟩
 rw [← hg5] at hB3 ⊢
 have hT3 := hT1.ext hE13
 refine goL ?_
 refine tloop (α := Nat × Value) (fun y => [(1, .int .i64 za), (5, .pointer (some ⟨g5, 0, none⟩)), (6, y.2), (7, .int .i64 (y.1 : Int))]) (FilI t w3 w3 g5 (.slice A t.es.length c) (.slice N nvs.length d)) (fun y => t.es.length - y.1) (0, .slice none 0 0) (sub ⟨rfl, rfl, rfl, rfl⟩) ⟨Nat.zero_le _, Ow.nil _ _ _, Fr.refl _ _⟩ ?_
 rintro ⟨i, vf⟩ w ⟨hi, ho, hE3⟩
 dsimp only at hi ho ⊢
 have hB := hB3.ext hE3
 have hT := hT3.ext hE3
 have hE0 := hE03.t hE3
 have k0 : w.cell? ⟨g5, 0, none⟩ = some (.slice A t.es.length c) := hB.cell 0
 have k1 : w.cell? ⟨g5, 1, none⟩ = some (.slice N nvs.length d) := hB.cell 1
 have hA' := (hA.ext hE13).ext hE3
 have hAN' := (hAN.ext hE13).ext hE3
 have m0 : w.drew.cell? ⟨g5, 0, none⟩ = some (.slice A t.es.length c) := k0
 have m1 : w.drew.cell? ⟨g5, 1, none⟩ = some (.slice N nvs.length d) := k1
 by_cases hlt : i < t.es.length
 ·obtain ⟨b, o, e, rfl, _, he, _, hce⟩ := hA'.at_ hlt
  have hein := (may_good hmay).inr e (List.mem_of_getElem? he)
  obtain ⟨kn, hkn⟩ := Int.eq_ofNat_of_zero_le hein.1
  obtain ⟨b', o', x, rfl, _, hx, _, hcx⟩ := hAN'.at_ (i := kn) (by omega)
  have m2 : w.drew.cell? ⟨b, o + i * 2 + 1, none⟩ = some (.int .i64 (kn : Int)) := by rw [← hkn]; exact hce 1 _ rfl
  have m3 : w.drew.cell? ⟨b', o' + kn * 12 + 0, none⟩ = some (.int .i64 x.n.kind) := hcx 0 _ rfl
  have hkd : kindAt t.ns e.node = x.n.kind := by
   unfold kindAt
   rw [hkn, Int.toNat_natCast, hT1.getD hx]
  have hft := filT_take (ns := t.ns) he
  obtain ⟨Af, cf, rfl, _, _⟩ := ho.form
  have hfl := filT_len t.ns (t.es.take i)
  rw [List.length_take] at hfl
  by_cases hk2 : x.n.kind = 2
  ·rw [hkd, if_pos hk2] at hft
   refine gz19 ?_
   refine xbs (vs := niC (kn : Int)) sl_ints rfl rfl (by decide) (by decide) (fun u hu => by rw [List.mem_singleton.1 hu]; rfl) (fun w4 hB4 hE4 hs4 => ?_)
   have ho4 := ho.ext ((Fr.drew (fun _ => False) w).t hE4)
   have hE34 : Ext w3 w4 := hE3.t ((Fr.drew _ _).t hE4)
   refine xapz (B := w3.heap.size) (news := niC (kn : Int)) sl_ints rfl (by decide) rfl ho4 rfl (blk_row hB4 (by decide) rfl) rfl (fun u hu => by rw [List.mem_singleton.1 hu]; rfl) (by unfold maxLen; omega) (by omega) hE34.size (fun v5 w5 hO5 hF5 _ => ?_)
   have hO5' : Ow niC 1 w5 w3.heap.size 3 v5 (filT t.ns (t.es.take (i + 1))) := by
    rw [hft, hkn]; exact Ow.ext1 (l' := [(kn : Int)]) (by simpa using hO5)
   have hE35 : Ext w3 w5 := hE34.trans hF5 fun j hj h => by have := (ho4.blk h).1; omega
   refine goL ?_
   exact tfin ⟨(i + 1, v5), sub ⟨rfl, rfl, rfl, rfl⟩, ⟨hlt, hO5', hE35⟩, (by show t.es.length - (i + 1) < t.es.length - i; omega)⟩
  ·rw [hkd, if_neg hk2, List.append_nil] at hft
   refine gz19 ?_
   exact tfin ⟨(i + 1, _), sub ⟨rfl, rfl, rfl, rfl⟩, ⟨hlt, by dsimp only; rw [hft]; exact ho.ext (Fr.drew _ _), hE3.t (Fr.drew _ _)⟩, (by show t.es.length - (i + 1) < t.es.length - i; omega)⟩
 ·have hi : i = t.es.length := by omega
  subst hi
  rw [List.take_length] at ho
  clear m0 m1 hlt
  obtain ⟨fl, hfl⟩ : ∃ fl, fl = filT t.ns t.es := ⟨_, rfl⟩
  have hfl26 := filT_len t.ns t.es
  rw [← hfl] at ho hfl26
  obtain ⟨Af, cf, rfl, hf1, hf2, hfA⟩ := ho.rw.op niC_len
  by_cases hz : fl.length = 0
  ·refine goL ?_
   refine xcall rfl rfl (htold w) (fun r w4 h4 => ?_)
   obtain ⟨rfl, hE4⟩ := h4
   refine goL ?_
   exact tret1 rfl rfl ⟨rfl, hE0.t hE4⟩
  obtain ⟨ik, hik⟩ : ∃ ik, ik = uN za % fl.length := ⟨_, rfl⟩
  have hikl : ik < fl.length := hik ▸ Nat.mod_lt _ (by omega)
  have hki : ((uN za : Nat) : Int) % (fl.length : Int) = (ik : Int) := by rw [hik]; exact (Int.natCast_emod ..).symm
  have hua := uN_lt za
  obtain ⟨b, o, k, rfl, _, hk, _, hck⟩ := hfA.at_ hikl
  have hkm : k ∈ filT t.ns t.es := hfl ▸ List.mem_of_getElem? hk
  have hmayu := hlk k hkm
  obtain ⟨q0, q1, q2⟩ := filT_mem hmay hkm
  obtain ⟨j, hj, hjw⟩ := recs_link hmay q1
  have hR : Row w (.slice A t.es.length c) t.es.length (t.es.flatMap enC) := hT.e
  have hH0 : ∀ w', Ext w w' → (w'.cell? ⟨g5, 0, none⟩ = some (.slice A t.es.length c) ∧ w'.cell? ⟨g5, 1, none⟩ = some (.slice N nvs.length d)) ∧ w'.cell? ⟨b, o + ik * 1, none⟩ = some (.int .i64 k) := fun w' hE => ⟨⟨(hB.ext hE).cell 0, (hB.ext hE).cell 1⟩, hE.cell (hck 0 _ rfl)⟩
  refine goL ?_
  refine tcut (α := Value × Nat) (fun y => [(5, .pointer (some ⟨g5, 0, none⟩)), (8, .pointer (some ⟨y.2, 0, none⟩))]) (LkK t k (.slice N nvs.length d) w) ?_ ?_
  ·refine tdrawQ 21 [52, 62, 67] (fun w' => (w'.cell? ⟨g5, 0, none⟩ = some (.slice A t.es.length c) ∧ w'.cell? ⟨g5, 1, none⟩ = some (.slice N nvs.length d)) ∧ w'.cell? ⟨b, o + ik * 1, none⟩ = some (.int .i64 k)) rfl (by kernel_rfl) (by decide +kernel) (hH0 _ (Fr.drew _ _)) (fun hR' => ?_)
   have hRR := hR'
   clear hR'
   obtain ⟨a, ha0⟩ : ∃ a, a = w.drew := ⟨_, rfl⟩
   have fa : Ext w a := by rw [ha0]; exact Fr.drew _ _
   rw [← ha0]
   clear ha0
   obtain ⟨ve, O, C, ea, oa, ba⟩ : ∃ (v : Value) (_ _ : Nat), (a = a ∧ v.ownBlock = none) ∧ a = a ∧ a = a := ⟨.nilFunc, 0, 0, ⟨rfl, rfl⟩, rfl, rfl⟩
   refine grun [1, 2, 4, 5, 6, 7, 8, 9, 10, 11, 12, 13, 16, 17] [0, 3, 14, 15, 18, 19, 20] hRR (by decide +kernel) (by decide +kernel) rfl ?_
   refine aeG ?_
   refine xbd (cells := (enC ⟨zz, k⟩).toArray) rfl (by kernel_rfl) ?_
   refine aeG ?_
   refine gb3 0 14 19 [3, 14, 15, 18, 19, 20] [0, 3, 15, 18, 19, 20] [0, 3, 14, 15, 18, 20] hRR ?_ ?_ ?_
   ·skip
    refine aeG ?_
    refine ae0 ?_
    intro ve a fa ea oa ba
    refine gb3 3 14 19 [14, 15, 18, 19, 20] [3, 15, 18, 19, 20] [3, 14, 15, 18, 20] hRR ?_ ?_ ?_
    ·skip
     refine aeG ?_
     refine ae3 ?_
     intro ve a fa ea oa ba
     refine gb2 14 19 [15, 18, 19, 20] [14, 15, 18, 20] hRR ?_ ?_
     ·skip
      refine aeG ?_
      refine ae14 ?_
      intro O a fa ea oa ba
      refine gb2 15 19 [18, 19, 20] [15, 18, 20] hRR ?_ ?_
      ·exact y4
      ·exact y11
     ·skip
      refine aeG ?_
      refine ae19 ?_
      intro C a fa ea oa ba
      exact y15
    ·skip
     refine aeG ?_
     refine ae14 ?_
     intro O a fa ea oa ba
     refine gb2 3 19 [15, 18, 19, 20] [3, 15, 18, 20] hRR ?_ ?_
     ·skip
      refine aeG ?_
      refine ae3 ?_
      intro ve a fa ea oa ba
      refine gb2 15 19 [18, 19, 20] [15, 18, 20] hRR ?_ ?_
      ·exact y4
      ·exact y11
     ·skip
      refine aeG ?_
      refine ae19 ?_
      intro C a fa ea oa ba
      exact y8
    ·skip
     refine aeG ?_
     refine ae19 ?_
     intro C a fa ea oa ba
     refine gb2 3 14 [14, 15, 18, 20] [3, 15, 18, 20] hRR ?_ ?_
     ·skip
      refine aeG ?_
      refine ae3 ?_
      intro ve a fa ea oa ba
      exact y15
     ·skip
      refine aeG ?_
      refine ae14 ?_
      intro O a fa ea oa ba
      exact y8
   ·skip
    refine aeG ?_
    refine ae14 ?_
    intro O a fa ea oa ba
    refine gb2 0 19 [3, 15, 18, 19, 20] [0, 3, 15, 18, 20] hRR ?_ ?_
    ·skip
     refine aeG ?_
     refine ae0 ?_
     intro ve a fa ea oa ba
     refine gb2 3 19 [15, 18, 19, 20] [3, 15, 18, 20] hRR ?_ ?_
     ·skip
      refine aeG ?_
      refine ae3 ?_
      intro ve a fa ea oa ba
      refine gb2 15 19 [18, 19, 20] [15, 18, 20] hRR ?_ ?_
      ·exact y4
      ·exact y11
     ·skip
      refine aeG ?_
      refine ae19 ?_
      intro C a fa ea oa ba
      exact y8
    ·skip
     refine aeG ?_
     refine ae19 ?_
     intro C a fa ea oa ba
     exact y24
   ·skip
    refine aeG ?_
    refine ae19 ?_
    intro C a fa ea oa ba
    refine gb2 0 14 [3, 14, 15, 18, 20] [0, 3, 15, 18, 20] hRR ?_ ?_
    ·skip
     refine aeG ?_
     refine ae0 ?_
     intro ve a fa ea oa ba
     refine gb2 3 14 [14, 15, 18, 20] [3, 15, 18, 20] hRR ?_ ?_
     ·skip
      refine aeG ?_
      refine ae3 ?_
      intro ve a fa ea oa ba
      exact y15
     ·skip
      refine aeG ?_
      refine ae14 ?_
      intro O a fa ea oa ba
      exact y8
    ·skip
     refine aeG ?_
     refine ae14 ?_
     intro O a fa ea oa ba
     exact y24
  rintro ⟨v4, C⟩ w4 ⟨hE4, hB4, hO4, hC⟩
  dsimp only at hB4 hO4 hC ⊢
  have hum : (linkU t k).es.length = t.es.length + 1 := by show (t.es ++ [_]).length = _; rw [List.length_append]; rfl
  have hun : (linkU t k).ns = t.ns := rfl
  obtain ⟨u, hu⟩ : ∃ u, u = linkU t k := ⟨_, rfl⟩
  rw [← hu] at hO4 hmayu hj hjw hum hun
  obtain ⟨A4, c4, rfl, _, _⟩ := hO4.form
  obtain ⟨uk1, uk2, uk3⟩ := may_ok hmayu
  have hT4 : TrV w4 (.slice A4 u.es.length c4) (.slice N nvs.length d) nvs u := ⟨hO4.rw, hT.n.ext hE4, fun y hy => (hT.i y hy).ext hE4, by rw [hun]; exact hT.m⟩
  refine goL ?_
  refine xlda (t := 25) hB4 rfl rfl ?_
  refine goL ?_
  refine xcall rfl rfl (rnorm_doesO w4 _ _ nvs u hT4 uk3 (by omega) (by rw [hun]; omega)) ?_
  rintro r w5 ⟨hE5, hr⟩
  rw [norm_same hmayu] at hr
  obtain ⟨ve5, vn5, nvs5, rfl, hT5, hoe, hon, hys⟩ := hr
  obtain ⟨A5, c5, rfl, _, _⟩ := hoe.form
  obtain ⟨A6, c6, rfl, _, _⟩ := hon.form
  have hB5 := hB4.ext hE5
  refine goL ?_
  refine xsta hB5 rfl rfl (by kernel_rfl) rfl (one_cells (l := [.slice A5 u.es.length c5, .slice A6 nvs5.length c6]) rfl) (fun w6 hB6 hF6 => ?_)
  have z0 := hE0.size
  have hE05 : Ext w0 w5 := (hE0.t hE4).t hE5
  have hE06 : Ext w0 w6 := hN hE05 hF6 (by omega)
  have hEw6 : Ext w w6 := hN (hE4.t hE5) hF6 hC
  have hTu : TrV w6 (.slice A5 u.es.length c5) (.slice A6 nvs5.length c6) nvs5 u := ⟨(hoe.fr hF6 (fun b hb e => by obtain ⟨cs, hc⟩ := hoe.typ hb; exact hc.ne_ hB5 (by decide) e)).rw, (hon.fr hF6 (fun b hb e => by obtain ⟨cs, hc⟩ := hon.typ hb; exact hc.ne_ hB5 (by decide) e)).rw, fun y hy => (hT.i y (hys y hy)).ext hEw6, hT5.m⟩
  refine goL ?_
  refine xlda (t := 25) (hB.ext hEw6) rfl rfl ?_
  refine goL ?_
  refine xcallE rfl rfl (recs_does w6 _ _ nvs t (hT.ext hEw6) ok1 ok2 (hP.ext hE06)) (fun r w7 h7 => ?_)
  obtain ⟨hE7, h7⟩ := h7
  rw [if_pos hmay] at h7
  obtain ⟨vr7, vw7, rl7, rfl, hR7, hp7, _, hw7⟩ := h7
  obtain ⟨A7, c7, rfl, _, _⟩ := hR7.form
  obtain ⟨W7, d7, rfl⟩ := own_form hw7
  refine goL ?_
  refine xlda (t := 25) (hB6.ext hE7) rfl rfl ?_
  refine goL ?_
  refine xcallE rfl rfl (recs_does w7 _ _ nvs5 u (hTu.ext hE7) uk1 uk2 (hP.ext (hE06.t hE7))) (fun r w8 h8 => ?_)
  obtain ⟨hE8, h8⟩ := h8
  rw [if_pos hmayu] at h8
  obtain ⟨vr8, vw8, rl8, rfl, hR8, hp8, _, hw8⟩ := h8
  obtain ⟨A8, c8, rfl, _, _, hC8⟩ := hR8.rw.op rcC_len
  rw [hjw] at hw8
  obtain ⟨W8, d8, rfl⟩ := own_form hw8
  have hl8 : rl8.length = rl7.length + 1 := by
   have e1 := congrArg List.length hp8
   have e2 := congrArg List.length hp7
   rw [hj, List.length_append, List.length_map] at e1
   rw [List.length_map] at e2
   rw [e1, ← e2]; rfl
  obtain ⟨b8, o8, x8, rfl, _, hx8, _, hc8⟩ := hC8.at_ (i := rl7.length) (by omega)
  have hx8p : x8.p = ⟨zz, j, ndZ, 0⟩ := by
   have e1 : (rl8.map RcV.p)[rl7.length]? = some x8.p := by rw [List.getElem?_map, hx8]; rfl
   have e2 := congrArg List.length hp7
   rw [List.length_map] at e2
   rw [hp8, hj, e2, List.getElem?_append_right (Nat.le_refl _), Nat.sub_self] at e1
   exact (Option.some.inj e1).symm
  have hx8a : x8.path = zz := congrArg RcP.path hx8p
  have hx8b : x8.nd.n = ndZ := congrArg RcP.nd hx8p
  refine goL ?_
  refine xcall rfl rfl (htold w8) (fun r w9 h9 => ?_)
  obtain ⟨rfl, hE9⟩ := h9
  have e0 : w9.cell? ⟨b8, o8 + rl7.length * 15 + 0, none⟩ = some (.string (su zz)) := by rw [← hx8a]; exact hE9.cell (hc8 0 _ rfl)
  have e2 : w9.cell? ⟨b8, o8 + rl7.length * 15 + 2 + 0, none⟩ = some (.int .i64 0) := by
   have := hE9.cell (hc8 2 (.int .i64 x8.nd.n.kind) rfl)
   rw [hx8b] at this; exact this
  have hw79 : Own w9 w6.heap.size 5 _ (bs (recsM t).whole) := Own.ext hw7 (hE8.t hE9)
  have hw89 : Own w9 w7.heap.size 5 _ (bs (recsM t).whole) := Own.ext hw8 hE9
  refine goL ?_
  refine xcbs rfl (own_brow hw79) ?_
  refine goL ?_
  refine xcbs rfl (own_brow hw89) ?_
  refine goL ?_
  refine xseqt rfl rfl (by simp) ?_
  repeat' (first | refine xizq rl7.length (o8 + rl7.length * 15) rfl rfl rfl (by omega) rfl (by omega) ?_ | refine go1L ?_ | fail)
  refine xseqt rfl rfl (by show ((su zz).toList == (su zz).toList) = true; simp) ?_
  repeat' (first | refine xizq rl7.length (o8 + rl7.length * 15) rfl rfl rfl (by omega) rfl (by omega) ?_ | refine go1L ?_ | fail)
  exact tret1 rfl rfl ⟨rfl, ((hE06.t hE7).t hE8).t hE9⟩
end
end Go.Proofs.YtbpmlbjapapoaaaGreatDoor.Eng
