/-
  Parts of the proof: Wt.
-/
import Derived.Test.YtiebbecknfpdeaaGreatDoorNB4
import Derived.Test.YtiebbecknfpdeaaGreatDoorNWo
set_option maxRecDepth 100000
set_option maxHeartbeats 64000000
namespace Go.Proofs.YtiebbecknfpdeaaGreatDoor.Eng
open Go.RowKit
section
structure NmS where
 i : Nat
 X : List Tg
 seen : List Int
 v5 : Value
 nv : List NdV
 S : List En
 v4 : Value
 gm : Nat
 B4 : Nat
 B5 : Nat
structure NmI (t : Tre) (g g2 : Nat) (vn : Value) (w0 : World) (x : NmS) (w : World) : Prop where
 perm : x.S.Perm t.es
 srt : x.S.Pairwise leE
 ext : Ext w0 w
 box : w.cell? ⟨g, 1, none⟩ = some vn
 res : Blk w g2 29 #[.slice none 0 0, .slice none 0 0]
 le : x.i ≤ x.S.length
 len : x.X.length = x.S.length
 rst : (x.X.map Prod.snd).drop x.i = x.S.drop x.i
 go : ((x.X.map Prod.snd).take x.i ++ (renG x.seen (x.S.drop x.i)).1, (renG x.seen (x.S.drop x.i)).2) = renG [] x.S
 inr : (x.S.drop x.i).all (inR t.ns.length) = x.S.all (inR t.ns.length)
 dw : Dw w x.B4 x.v4 x.X
 mp : MpB w x.gm (seenM x.seen)
 own : Ow ndC 12 w x.B5 67 x.v5 x.nv
 sl : x.seen.length ≤ x.i
 nd : x.nv.map (·.n) = x.seen.map fun k => t.ns.getD k.toNat default
 ndi : ∀ y ∈ x.nv, NdIn w0 y ∧ y.n ∈ t.ns
 s1 : w0.heap.size ≤ g2 ∧ g < g2 ∧ g2 < x.B4 ∧ g2 < x.gm ∧ x.gm < x.B5 ∧ x.B5 ≤ w.heap.size
 s2 : ∀ b, x.v4.ownBlock = some b → x.X ≠ [] → b < x.gm
structure NmS1 where
 j : Nat
 v5 : Value
 nv : List NdV
 v4 : Value
 g11 : Nat
 B5 : Nat
 t' : Tre
structure NmI1 (t : Tre) (g2 : Nat) (w0 : World) (x : NmS1) (w : World) : Prop where
 nt : normT t = some x.t'
 ext : Ext w0 w
 res : Blk w g2 29 #[.slice none 0 0, .slice none 0 0]
 tre : Blk w x.g11 29 #[x.v4, x.v5]
 le : x.j ≤ x.nv.length
 l100 : x.nv.length ≤ 100
 re : Ow enC 2 w w0.heap.size 54 x.v4 x.t'.es
 own : Ow ndC 12 w x.B5 67 x.v5 x.nv
 nd : x.nv.map (·.n) = x.t'.ns
 ndi : ∀ y ∈ x.nv, (NdIn w0 y ∨ NdIn w y ∧ NdF x.g11 y) ∧ y.n ∈ t.ns
 s1 : w0.heap.size ≤ g2 ∧ g2 < x.B5 ∧ g2 < x.g11
 s2 : ∀ b, x.v4.ownBlock = some b → g2 < b ∧ b < x.B5
 s3 : ∀ b, x.v5.ownBlock = some b → b < x.g11
 cp : ∀ i y, i < x.j → x.nv[i]? = some y → NdO w x.g11 y
theorem ndC_one {w : World} {y : NdV} (h : NdIn w y) : ∀ u ∈ ndC y, u.oneCell' = true := fun u hu => by
 obtain ⟨A1, c1, e1, _⟩ := h.a
 obtain ⟨A2, c2, e2, _⟩ := h.c
 obtain ⟨A3, c3, e3, _⟩ := h.d
 unfold ndC at hu
 rw [e1, e2, e3] at hu
 simp only [List.mem_cons, List.not_mem_nil, or_false] at hu
 rcases hu with rfl | rfl | rfl | rfl | rfl | rfl | rfl | rfl | rfl | rfl | rfl | rfl <;> rfl
theorem list_set_same {α : Type} {l : List α} {j : Nat} {a : α} (h : l[j]? = some a) : l.set j a = l := by
 obtain ⟨hl, rfl⟩ := List.getElem?_eq_some_iff.1 h
 exact List.set_getElem_self hl
theorem take_put {α : Type} {l : List α} {i : Nat} (h : i < l.length) (a : α) : (l.set i a).take (i + 1) = l.take i ++ [a] := by
 rw [List.take_add_one, List.getElem?_set_self h, List.take_set_of_le (Nat.le_refl _)]
 rfl
theorem zv_int (w : World) : (zeroValue 3).run Tryz.prog w = .ok (.int .i64 0) w := by
 have hz : (Tryz.prog.info? 3).bind (·.zero) = some (.int .i64 0) := by kernel_rfl
 cases hi : Tryz.prog.info? 3 with
 | none => rw [hi] at hz; cases hz
 | some i =>
  rw [hi] at hz
  simp only [Option.bind_some] at hz
  simp [zeroValue, typeInfo, hi, hz]
theorem Dw.put {w w' : World} {B n c g : Nat} {l l' : List Tg} (h : Dw w B (.slice (some ⟨g, 0, none⟩) n c) l) (h0 : l ≠ []) (hl : l'.length = l.length) (hd : DB (c * 2) w' g l') : Dw w' B (.slice (some ⟨g, 0, none⟩) n c) l' := by
 obtain ⟨A, c', e, h1, h2, h3⟩ := h
 injection e with e1 e2 e3
 subst e1; subst e3
 obtain ⟨g', e4, h5, _⟩ := h3.resolve_left h0
 injection e4 with e4
 injection e4 with e4
 subst e4
 exact ⟨_, c, by rw [hl, e2], by rw [hl]; exact h1, h2, .inr ⟨g, rfl, h5, hd⟩⟩
def NormO (t : Tre) (w : World) (r : Value) (w' : World) : Prop := Ext w w' ∧ match normT t with
 | none => r = .tuple #[.agg #[.slice none 0 0, .slice none 0 0], .int .i64 1]
 | some t' => ∃ ve vn nvs, r = .tuple #[.agg #[ve, vn], .int .i64 0] ∧ TrO w' w.heap.size ve vn nvs t'
theorem norm_doesO (w : World) (ve vn : Value) (nvs : List NdV) (t : Tre) (hv : TrV w ve vn nvs t) (hn : NsOK t.ns) (hL : ∀ n ∈ t.ns, NdL n) : Does Tryz.prog 57 #[.agg #[ve, vn]] w (NormO t w) := by
 refine does1 Tryz.func57 rfl (by kernel_rfl) ?_
 have hv0 := hv
 obtain ⟨A, c, rfl, hc1, hc2, hA⟩ := hv.e.op enC_len
 obtain ⟨A', c', rfl, hc1', hc2', hA'⟩ := hv.n.op ndC_len
 have hlen := hv.len
 rw [hlen] at hc1'
 refine goL ?_
 refine xbox rfl (fun w1 hB1 hE1 hs1 => ?_)
 have hB : Blk w1 w.heap.size 29 #[.slice A t.es.length c, .slice A' nvs.length c'] := hB1
 have k0 : w1.cell? ⟨w.heap.size, 0, none⟩ = some (.slice A t.es.length c) := hB.cell 0
 have k1 : w1.cell? ⟨w.heap.size, 1, none⟩ = some (.slice A' t.ns.length c') := by rw [← hlen]; exact hB.cell 1
 refine goL ?_
 refine xalloc (z := .agg #[.slice none 0 0, .slice none 0 0]) (by kernel_rfl) (fun w2 hB2 hE2 hs2 => ?_)
 have j0 : w2.cell? ⟨w.heap.size, 0, none⟩ = some (.slice A t.es.length c) := hE2.cell k0
 have j1 : w2.cell? ⟨w.heap.size, 1, none⟩ = some (.slice A' t.ns.length c') := hE2.cell k1
 have hE02 : Ext w w2 := hE1.t hE2
 have hB2' : Blk w2 w1.heap.size 29 #[.slice none 0 0, .slice none 0 0] := hB2
 have hN : ∀ {a b c : World} {g : Nat}, Ext a b → Fr (· = g) b c → a.heap.size ≤ g → Ext a c := fun h1 h2 hg => h1.trans h2 fun j hj e => absurd hj (by omega)
 refine goL ?_
 by_cases g1 : 100 < t.es.length
 ·refine tscope0 ?_
  refine goL ?_
  refine xbd (parts := []) (cells := #[.slice none 0 0, .slice none 0 0]) rfl (by kernel_rfl) ?_
  refine goL ?_
  refine xsta hB2' rfl rfl (by kernel_rfl) rfl (one_cells (l := [.slice none 0 0, .slice none 0 0]) rfl) (fun w3 hB3 hF3 => ?_)
  refine goL ?_
  exact tretc2 rfl rfl rfl hB3 (by kernel_rfl) ⟨hN hE02 hF3 (by omega), by first | (rw [norm_bad g1]; done) | (rw [norm_bad g1]; exact rfl)⟩
 have hT1 : ∀ (b : Bool) (S : List En), S.Perm t.es → S.Pairwise leE → (S.all (inR t.ns.length) && mayT (renT t.ns S)) = b → normT t = if b then some (renT t.ns S) else none := fun b S h1 h2 h3 => by rw [← norm_any h1 h2, h3]
 refine tscope2 (α := NmS) (β := NmS1) 0 1 (by decide) rfl rfl
  (fun x => [(1, .pointer (some ⟨w.heap.size, 0, none⟩)), (2, .pointer (some ⟨w1.heap.size, 0, none⟩)), (4, x.v4), (5, x.v5), (6, .map (some x.gm)), (7, .int .i64 (x.i : Int))])
  (NmI t w.heap.size w1.heap.size (.slice A' t.ns.length c') w) (fun x => x.S.length - x.i + 101)
  (fun x => [(2, .pointer (some ⟨w1.heap.size, 0, none⟩)), (5, x.v5), (7, .int .i64 (x.j : Int)), (11, .pointer (some ⟨x.g11, 0, none⟩))])
  (NmI1 t w1.heap.size w) (fun x => x.nv.length - x.j) ?_ ?_ ?_
 ·rintro ⟨i, X, seen, v5, nv, S, v4, gm, B4, B5⟩ w3 ⟨hperm, hsrt, hE3, hbox, hres, hle, hlenX, hrst, hgo, hinr, hdw, hmp, hown, hsl, hnd, hndi, hs1', hs2'⟩ hj
  dsimp only at hperm hsrt hE3 hbox hres hle hlenX hrst hgo hinr hdw hmp hown hsl hnd hndi hs1' hs2' hj ⊢
  obtain ⟨q1, q2, q3, q4, q5, q6⟩ := hs1'
  have hv4 : ∃ A4 n4 c4, v4 = .slice A4 n4 c4 := by obtain ⟨A, c, e, _⟩ := hdw; exact ⟨_, _, _, e⟩
  obtain ⟨A4, n4, c4, rfl⟩ := hv4
  obtain ⟨hn4, hdw'⟩ := hdw.op
  obtain ⟨A5, c5, rfl, hc51, hc52⟩ := hown.form
  have hSl : S.length = t.es.length := hperm.length_eq
  have hnvl : nv.length = seen.length := by have := congrArg List.length hnd; simpa using this
  by_cases hlt : i < S.length
  ·obtain ⟨e, he⟩ : ∃ e, S[i]? = some e := ⟨_, List.getElem?_eq_getElem hlt⟩
   have hXi : ∃ q, X[i]? = some (q, e) := by
    have h1 : ((X.map Prod.snd).drop i)[0]? = (S.drop i)[0]? := by rw [hrst]
    rw [List.getElem?_drop, List.getElem?_drop, Nat.add_zero, he, List.getElem?_map] at h1
    cases hx : X[i]? with
    | none => rw [hx] at h1; cases h1
    | some y => rw [hx] at h1; injection h1 with h1; exact ⟨y.1, by rw [← h1]⟩
   obtain ⟨q, hq⟩ := hXi
   obtain ⟨path, node⟩ := e
   have hX0 : X ≠ [] := by rintro rfl; simp at hq
   obtain ⟨g4, rfl, hg4, hdb⟩ := hdw'.resolve_left hX0
   have hb4 := hs2' g4 rfl hX0
   have c1 : w3.cell? ⟨g4, i * 2 + 1, none⟩ = some (.int .i64 node) := hdb.cell hq (j := 1) rfl
   have hdS : S.drop i = ⟨path, node⟩ :: S.drop (i + 1) := drop_get he
   by_cases n0 : node < 0
   ·have hbad : inR t.ns.length ⟨path, node⟩ = false := by unfold inR; rw [decide_eq_false (by dsimp only; omega)]; rfl
    exact y17
   by_cases n1 : (t.ns.length : Int) ≤ node
   ·have hbad : inR t.ns.length ⟨path, node⟩ = false := by unfold inR; rw [decide_eq_false (p := node < (t.ns.length : Int)) (by omega), Bool.and_false]
    exact y17
   have hgood : inR t.ns.length ⟨path, node⟩ = true := by unfold inR; rw [decide_eq_true (by dsimp only; omega), decide_eq_true (by dsimp only; omega)]; rfl
   rw [hdS, List.all_cons, hgood, Bool.true_and] at hinr
   rw [hdS, renG] at hgo
   have hrst' : (X.map Prod.snd).drop (i + 1) = S.drop (i + 1) := by
    have := congrArg (List.drop 1) hrst
    rwa [List.drop_drop, List.drop_drop] at this
   have hXl : i < (X.map Prod.snd).length := by rw [List.length_map]; omega
   by_cases hm : node ∈ seen
   ·rw [if_pos hm] at hgo
    refine gz14 ?_
    refine xlk Tryz.underlying144 Tryz.underlying3 zv_int hmp rfl rfl ?_
    rw [asc_seen, if_pos hm]
    simp only [Option.getD_some, Option.isSome_some]
    refine gz14 ?_
    refine xsten hdb rfl rfl (by omega) hq (fun w4 hB4 hF4 => ?_)
    refine goL ?_
    exact tgoto rfl ⟨_, (by show S.length - (i + 1) + 101 < S.length - i + 101; omega), .inl ⟨rfl, ⟨i + 1, X.set i (q, ⟨path, (seen.idxOf node : Int)⟩), seen, _, nv, S, _, gm, B4, B5⟩, sub ⟨rfl, rfl, rfl, rfl, rfl, rfl⟩, ⟨hperm, hsrt, hN hE3 hF4 (by omega), hF4.cell hbox (show ¬ w.heap.size = g4 by omega), hres.fr hF4 (show ¬ w1.heap.size = g4 by omega), hlt, (by rw [List.length_set]; exact hlenX), (by dsimp only; rw [List.map_set, List.drop_set, if_pos (by omega)]; exact hrst'), (by dsimp only; rw [← hgo, List.map_set, take_put hXl, List.append_assoc]; rfl), hinr, hdw.put hX0 (List.length_set ..) hB4, hmp.fr hF4 (show ¬ gm = g4 by omega), hown.fr hF4 (fun b hb => by have := (hown.blk hb).1; show ¬ b = g4; omega), (by dsimp only; omega), hnd, hndi, ⟨q1, q2, q3, q4, q5, by have := hF4.size; dsimp only; omega⟩, fun b hb _ => hs2' b hb hX0⟩, rfl⟩⟩
   ·rw [if_neg hm] at hgo
    obtain ⟨k, hk⟩ := Int.eq_ofNat_of_zero_le (show 0 ≤ node by omega)
    obtain ⟨b3, o3, n, e5, _, hny, _, hcy⟩ := hA'.at_ (i := k) (by omega)
    subst e5
    refine gz14 ?_
    refine xlk Tryz.underlying144 Tryz.underlying3 zv_int hmp rfl rfl ?_
    rw [asc_seen, if_neg hm]
    simp only [Option.getD_none, Option.isSome_none]
    refine goL ?_
    refine xmup Tryz.underlying144 Tryz.underlying3 hmp (by rw [asc_seen, if_neg hm]) rfl rfl rfl (fun w4 hM4 hF4 => ?_)
    rw [hnvl, ← seenM_snoc] at hM4
    have hE4 : Ext w w4 := hN hE3 hF4 (by omega)
    have m1 : w4.cell? ⟨w.heap.size, 1, none⟩ = some (.slice (some ⟨b3, o3, none⟩) t.ns.length c') := hF4.cell hbox (show ¬ w.heap.size = gm by omega)
    have hnc : ∀ q u, (ndC n)[q]? = some u → w4.cell? ⟨b3, o3 + k * 12 + q, none⟩ = some u := fun q u hu => hE4.cell (hcy q u hu)
    repeat' (first | refine xizq k (o3 + k * 12) rfl rfl rfl hk rfl (by omega) ?_ | refine go1L ?_ | fail)
    refine xldz (cs := ndC n) rfl rfl hnc ?_
    refine goL ?_
    refine xbz1 sl_nds rfl rfl (by decide) (by decide) (fun w5 hB5 hE5 hs5 => ?_)
    refine goL ?_
    have hown5 := (hown.fr hF4 (fun b hb => by have := (hown.blk hb).1; show ¬ b = gm; omega)).ext hE5
    have hin := hv0.i n (List.mem_of_getElem? hny)
    have z4 := hF4.size
    refine xapz (B := B5) (news := ndC n) sl_nds rfl (by decide) rfl hown5 rfl (blk_row hB5 (by decide) rfl) rfl (ndC_one hin) (by unfold maxLen; omega) (by omega) (by omega) (fun v6 w6 hO6 hF6 _ => ?_)
    have hne6 : ∀ x, x < B5 → ¬ (Value.slice A5 nv.length c5).ownBlock = some x := fun x hx h => by have := (hown.blk h).1; omega
    have hO6' : Ow ndC 12 w6 B5 67 v6 (nv ++ [n]) := Ow.ext1 (l' := [n]) (by simpa using hO6)
    obtain ⟨A6, c6, rfl, _, _⟩ := hO6.form
    have hE6 : Ext w w6 := (hE4.t hE5).trans hF6 fun j hj h => by have := (hown.blk h).1; omega
    have hdb6 := ((hdb.fr hF4 (show ¬ g4 = gm by omega)).ext hE5).fr hF6 (hne6 g4 (by omega))
    refine gz14 ?_
    refine xsten hdb6 rfl rfl (by omega) hq (fun w7 hB7 hF7 => ?_)
    have z7 := hF7.size
    have z6 := hF6.size
    refine goL ?_
    refine tgoto rfl ⟨_, (by show S.length - (i + 1) + 101 < S.length - i + 101; omega), .inl ⟨rfl, ⟨i + 1, X.set i (q, ⟨path, (nv.length : Int)⟩), seen ++ [node], _, nv ++ [n], S, _, gm, B4, B5⟩, sub ⟨rfl, rfl, rfl, rfl, rfl, rfl⟩, ⟨hperm, hsrt, hN hE6 hF7 (by omega), hF7.cell (hF6.cell (hE5.cell m1) (hne6 w.heap.size (by omega))) (show ¬ w.heap.size = g4 by omega), (((hres.fr hF4 (show ¬ w1.heap.size = gm by omega)).ext hE5).fr hF6 (hne6 _ (by omega))).fr hF7 (show ¬ w1.heap.size = g4 by omega), hlt, (by rw [List.length_set]; exact hlenX), (by dsimp only; rw [List.map_set, List.drop_set, if_pos (by omega)]; exact hrst'), (by dsimp only; rw [← hgo, List.map_set, take_put hXl, List.append_assoc, hnvl]; rfl), hinr, hdw.put hX0 (List.length_set ..) hB7, ((hM4.ext hE5).fr hF6 (hne6 _ (by omega))).fr hF7 (show ¬ gm = g4 by omega), hO6'.fr hF7 (fun b hb => by have := (hO6'.blk hb).1; show ¬ b = g4; omega), (by dsimp only; rw [List.length_append]; simp only [List.length_cons, List.length_nil]; omega), (by dsimp only; rw [List.map_append, List.map_append, hnd]; congr 1; simp only [List.map_cons, List.map_nil, hk, Int.toNat_natCast, hv0.getD hny]), ?_, ⟨q1, q2, q3, q4, q5, by dsimp only; omega⟩, fun b hb _ => hs2' b hb hX0⟩, rfl⟩⟩
    intro y hy
    rcases List.mem_append.1 hy with hy | hy
    ·exact hndi y hy
    ·rw [List.mem_singleton.1 hy]; exact ⟨hin, List.mem_of_getElem? (hv0.get hny)⟩
  ·have hiS : i = S.length := by omega
   subst hiS
   have hR : renG [] S = (X.map Prod.snd, seen) := by
    rw [← hgo, List.drop_length, renG, List.append_nil, List.take_of_length_le (by rw [List.length_map]; omega)]
   rw [List.drop_length, List.all_nil] at hinr
   have hT : renT t.ns S = ⟨X.map Prod.snd, seen.map fun k => t.ns.getD k.toNat default⟩ := by unfold renT; rw [hR]
   refine goL ?_
   refine xbd (parts := [(0, .tmp 70), (1, .tmp 71)]) (cells := #[.slice A4 n4 c4, .slice A5 nv.length c5]) rfl (by first | rfl | kernel_rfl) ?_
   refine goL ?_
   refine xalloc (z := .agg #[.slice none 0 0, .slice none 0 0]) (by kernel_rfl) (fun w4 hB4 hE4 hs4 => ?_)
   have hB4' : Blk w4 w3.heap.size 29 #[.slice none 0 0, .slice none 0 0] := hB4
   refine goL ?_
   refine xsta hB4' rfl rfl (by kernel_rfl) rfl (one_cells (l := [.slice A4 n4 c4, .slice A5 nv.length c5]) rfl) (fun w5 hB5 hF5 => ?_)
   have hE35 : Ext w3 w5 := hN hE4 hF5 (Nat.le_refl _)
   refine goL ?_
   refine xlda (t := 29) hB5 rfl rfl ?_
   have hTr : ∀ w', Ext w3 w' → TrV w' (.slice A4 n4 c4) (.slice A5 nv.length c5) nv (renT t.ns S) := fun w' hE => by
    rw [hT]
    exact ⟨hdw.rw.ext hE, hown.rw.ext hE, fun y hy => (hndi y hy).1.ext (hE3.t hE), hnd⟩
   have hNs : NsOK (renT t.ns S).ns := by
    rw [hT, ← hnd]
    intro m hm
    obtain ⟨y, hy, rfl⟩ := List.mem_map.1 hm
    exact hn _ (hndi y hy).2
   refine goL ?_
   refine xcallE rfl rfl (tmay_does w5 _ _ nv (renT t.ns S) (hTr w5 hE35) hNs) (fun r w6 h6 => ?_)
   obtain ⟨rfl, hE6⟩ := h6
   have hE36 := hE35.t hE6
   cases hm : mayT (renT t.ns S) with
   | false =>
    have hno : normT t = none := by have := hT1 false S hperm hsrt (by rw [hm, Bool.and_false]); simpa using this
    refine goL ?_
    refine xbd (parts := []) (cells := #[.slice none 0 0, .slice none 0 0]) rfl (by kernel_rfl) ?_
    refine goL ?_
    refine xsta (hres.ext hE36) rfl rfl (by kernel_rfl) rfl (one_cells (l := [.slice none 0 0, .slice none 0 0]) rfl) (fun w7 hB7 hF7 => ?_)
    refine goL ?_
    exact tretc2 rfl rfl rfl hB7 (by kernel_rfl) ⟨hN (hE3.t hE36) hF7 (by omega), by first | (rw [hno]; done) | (rw [hno]; exact rfl)⟩
   | true =>
    have hnt : normT t = some (renT t.ns S) := by have := hT1 true S hperm hsrt (by rw [hm, ← hinr]; rfl); simpa using this
    have hX0 : X ≠ [] := by rintro rfl; rw [hT] at hm; simp [mayT] at hm
    have hTr6 := hTr w6 hE36
    refine goL ?_
    refine tlabel ?_
    exact tweak (hj ⟨0, .slice A5 nv.length c5, nv, .slice A4 n4 c4, w3.heap.size, B5, renT t.ns S⟩ w6 ⟨hnt, hE3.t hE36, hres.ext hE36, Blk.ext hB5 hE6, Nat.zero_le _, (by dsimp only; omega), (by show Ow enC 2 w6 w.heap.size 54 _ (renT t.ns S).es; rw [hT]; exact ((hdw.ow hX0).ext hE36).mono (by omega)), hown.ext hE36, hTr6.m, (fun y hy => ⟨.inl (hndi y hy).1, (hndi y hy).2⟩), ⟨q1, by dsimp only; omega, by dsimp only; omega⟩, (fun b hb => by have h1 := (hdw.blk hX0 hb).1; have h2 := hs2' b hb hX0; dsimp only at *; omega), (fun b hb => (hown.blk hb).2), fun i y hi => absurd hi (Nat.not_lt_zero _)⟩ (by dsimp only; omega)) (sub ⟨rfl, rfl, rfl, rfl⟩)
 ·rintro ⟨j, v5, nv, v4, g11, B5, t'⟩ w3 ⟨hnt, hE3, hres, htre, hle, hl100, hre, hown, hnd, hndi, hs1', hs2', hs3', hcp⟩ hj
  dsimp only at hnt hE3 hres htre hle hl100 hre hown hnd hndi hs1' hs2' hs3' hcp hj ⊢
  obtain ⟨q1, q2, q3⟩ := hs1'
  obtain ⟨A5, c5, rfl, hc51, hc52⟩ := hown.form
  obtain ⟨A4, c4, rfl, hc41, hc42⟩ := hre.form
  have h11 := htre.lt
  by_cases hlt : j < nv.length
  ·obtain ⟨gN, c6, e6, hgN, hgN2, _, _, hcell⟩ := OwnZ.go hown (by omega)
   injection e6 with e6
   subst e6
   have hgN3 := hs3' gN rfl
   have hx := List.getElem?_eq_getElem hlt
   generalize nv[j] = y at hx
   have hyn := hndi y (List.mem_of_getElem? hx)
   have hyI : NdIn w3 y := hyn.1.elim (fun h => h.ext hE3) (·.1)
   have hnc : ∀ q u, (ndC y)[q]? = some u → w3.cell? ⟨gN, j * 12 + q, none⟩ = some u := fun q u hu => hcell _ u (flat_get ndC_len hx hu)
   repeat' (first | refine xizq j (j * 12) rfl rfl rfl rfl (by omega) (by omega) ?_ | refine go1L ?_ | fail)
   refine xldz (cs := ndC y) rfl rfl hnc ?_
   refine xcallE rfl rfl (copyOf_doesO w3 y hyI (hL _ hyn.2)) (fun r w4 h4 => ?_)
   obtain ⟨y', rfl, hyO, hyn', hE4⟩ := h4
   have hy' := hyO.in
   have hyF := hyO.f
   repeat' (first | refine xizq j (j * 12) rfl rfl rfl rfl (by omega) (by omega) ?_ | refine go1L ?_ | fail)
   refine xstow ndC_len j (hown.ext hE4) rfl rfl rfl (by kernel_rfl) (ndC_one hy') hlt (fun w5 hO5 hF5 => ?_)
   have hE35 : ∀ {x : NdV}, NdIn w3 x → NdF g11 x → NdIn w5 x := fun h1 h2 => (h1.ext hE4).fr h2 hF5 fun b hb => by show ¬ b = gN; omega
   refine goL ?_
   refine tgoto rfl ⟨_, (by show (nv.set j y').length - (j + 1) < nv.length - j; rw [List.length_set]; omega), .inr ⟨rfl, ⟨j + 1, _, nv.set j y', _, g11, B5, t'⟩, sub ⟨rfl, rfl, rfl, rfl⟩, ⟨hnt, hN (hE3.t hE4) hF5 (by omega), (hres.ext hE4).fr hF5 (show ¬ w1.heap.size = gN by omega), (htre.ext hE4).fr hF5 (show ¬ g11 = gN by omega), (by dsimp only; rw [List.length_set]; omega), (by dsimp only; rw [List.length_set]; omega), (hre.ext hE4).fr hF5 (fun b hb => by have := hs2' b hb; show ¬ b = gN; omega), hO5, ?_, ?_, ⟨q1, q2, q3⟩, hs2', hs3', ?_⟩, rfl⟩⟩
   ·dsimp only
    rw [List.map_set, hyn', list_set_same (by rw [List.getElem?_map, hx]; rfl)]
    exact hnd
   ·intro z hz
    rcases List.mem_or_eq_of_mem_set hz with hz | rfl
    ·exact ⟨(hndi z hz).1.imp id fun h => ⟨hE35 h.1 h.2, h.2⟩, (hndi z hz).2⟩
    ·have hF' : NdF g11 z := fun b hb => by have := hyF b hb; omega
     exact ⟨.inr ⟨hy'.fr hF' hF5 (fun b hb => by show ¬ b = gN; omega), hF'⟩, by rw [hyn']; exact hyn.2⟩
   ·intro i z hi hz
    dsimp only at hi hz ⊢
    by_cases e : i = j
    ·subst e
     rw [List.getElem?_set_self hlt] at hz
     injection hz with hz
     subst hz
     exact ((hyO.fr hF5 fun b hb => by have := hyF b hb; show ¬ b = gN; omega).mono (by omega))
    ·rw [List.getElem?_set_ne (fun h => e h.symm)] at hz
     have h6 := hcp i z (by omega) hz
     exact (h6.ext hE4).fr hF5 fun b hb => by have := h6.f b hb; show ¬ b = gN; omega
  ·refine goL ?_
   refine xlda (t := 29) htre rfl rfl ?_
   refine goL ?_
   refine xsta hres rfl rfl (by kernel_rfl) rfl (one_cells (l := [.slice A4 t'.es.length c4, .slice A5 nv.length c5]) rfl) (fun w4 hB4 hF4 => ?_)
   refine goL ?_
   refine tretc2 rfl rfl rfl hB4 (by kernel_rfl) ⟨hN hE3 hF4 (by omega), ?_⟩
   rw [hnt]
   have hne : ∀ b, w1.heap.size < b → ¬ b = w1.heap.size := fun b hb => by omega
   exact ⟨_, _, nv, rfl, ⟨hre.fr hF4 (fun b hb => by have := hs2' b hb; show ¬ b = w1.heap.size; omega), (hown.fr hF4 (fun b hb => by have := (hown.blk hb).1; show ¬ b = w1.heap.size; omega)).mono (by omega), fun y hy => by
    obtain ⟨i, hi, hiy⟩ := List.getElem_of_mem hy
    have h6 := hcp i y (by omega) (by rw [List.getElem?_eq_getElem hi, hiy])
    exact (h6.fr hF4 fun b hb => by have := h6.f b hb; show ¬ b = w1.heap.size; omega).mono (by omega), hnd⟩⟩
 ·intro H0 H1
  refine goL ?_
  refine xapz (B := w2.heap.size) (news := t.es.flatMap enC) sl_ents rfl (by decide) rfl (OwnZ.nil _ _ _ _) rfl (Row.ext hv0.e hE02) (flat_len enC_len _) (enC_one _) (by unfold maxLen; omega) (by omega) (Nat.le_refl _) (fun v1 w3 hO3 hF3 _ => ?_)
  have hE3 : Ext w2 w3 := hF3.mono fun _ _ h => by cases h
  have hO3' : Ow enC 2 w3 w2.heap.size 54 v1 ((tagE t.es).map Prod.snd) := by rw [tagE_snd]; unfold Ow; simpa using hO3
  have hdw3 := Dw.of hO3'
  have htl : (tagE t.es).length = t.es.length := by simp [tagE]
  have hmem : ∀ x ∈ tagE t.es, x.2 ∈ t.es := fun x hx => by
   have := List.mem_map_of_mem (f := Prod.snd) hx
   rwa [tagE_snd] at this
  refine goL ?_
  refine xcallE rfl rfl (sortStable_does w3 w2.heap.size v1 116 #[] (fun x => x.2 ∈ t.es) (fun x => (cntL t.es x.2 : Int)) (tagE t.es) hdw3 (by omega) (fun g _ => norm1_cmp t.es g w3) hmem (tagE_stb _ _)) (fun r w4 h4 => ?_)
  obtain ⟨SS, hp, hs, hdw4, hF4⟩ := h4
  have hE24 : Ext w2 w4 := hE3.trans hF4 fun j hj h => by have := (hdw3.blk h.1 h.2).1; omega
  have hperm : (SS.map Prod.snd).Perm t.es := by have := hp.map Prod.snd; rwa [tagE_snd] at this
  have hsrt : (SS.map Prod.snd).Pairwise leE := by
   rw [List.pairwise_map]
   refine hs.imp_of_mem fun {a b} ha hb h => ?_
   unfold leE
   cases e : lessP b.2.path a.2.path with
   | false => rfl
   | true =>
    have := (cntL_lt (hmem b (hp.mem_iff.1 hb)) a.2).1 e
    unfold lt at h
    have : cntL t.es b.2 < cntL t.es a.2 := this
    exfalso
    have h2 : ¬ ((cntL t.es a.2 : Int) < cntL t.es b.2) := by omega
    have h3 : ¬ ((cntL t.es a.2 : Int) = cntL t.es b.2) := by omega
    exact h.elim h2 fun h => h3 h.1
  refine goL ?_
  refine xmkm (fun w5 hM5 hE5 hs5 => ?_)
  have hE25 : Ext w2 w5 := hE24.t hE5
  have z3 := hE24.size
  refine goL ?_
  refine tlabel ?_
  exact tweak (H0 ⟨0, SS, [], .slice none 0 0, [], SS.map Prod.snd, v1, w4.heap.size, w2.heap.size, w5.heap.size⟩ w5 ⟨hperm, hsrt, hE02.t hE25, hE25.cell j1, hB2'.ext hE25, Nat.zero_le _, (by simp), rfl, rfl, rfl, hdw4.fr hE5 (fun _ _ h => h), hM5, Ow.nil _ _ _, Nat.zero_le _, rfl, (fun y hy => by cases hy), ⟨by (try dsimp only); omega, by omega, by (try dsimp only); omega, by (try dsimp only); omega, by (try dsimp only); omega, Nat.le_refl _⟩, fun b hb h0 => (hdw4.blk h0 hb).2⟩) (sub ⟨rfl, rfl, rfl, rfl, rfl, rfl⟩)
end
end Go.Proofs.YtiebbecknfpdeaaGreatDoor.Eng
