/-
  Package match: add, Join, All; pack.Symbol.
-/
import Derived.Test.YtighkjohpmlemaaMb
namespace Go.Proofs.Ytighkjohpmlemaa
open Go.RowKit
namespace Eng
attribute [local irreducible] xs T

theorem tkC_one (t : Tkn) : ∀ u ∈ tkC t, u.oneCell' = true := fun u hu => by
  simp [tkC] at hu; rcases hu with rfl | rfl | rfl <;> rfl
theorem tkC_all (t : Tkn) : ((tkC t).toArray.all fun x => x.oneCell') = true := by
  rw [List.all_toArray, List.all_eq_true]; exact tkC_one t
theorem tkC_len (t : Tkn) : (tkC t).length = 3 := rfl
/-- The cells of tokens, end to end. -/
def tksC (l : List Tkn) : List Value := l.flatMap tkC
theorem tksC_snoc (l : List Tkn) (t : Tkn) : tksC (l ++ [t]) = tksC l ++ tkC t := by simp [tksC]
theorem tksC_len (l : List Tkn) : (tksC l).length = l.length * 3 := by
  induction l with
  | nil => rfl
  | cons a r ih => rw [tksC, List.flatMap_cons, List.length_append, tkC_len]; rw [tksC] at ih; rw [ih, List.length_cons]; omega
theorem tksC_get {l : List Tkn} : ∀ {i : Nat} {t : Tkn}, l[i]? = some t → ∀ j u, (tkC t)[j]? = some u → (tksC l)[i * 3 + j]? = some u := by
  induction l with
  | nil => intro i t h; cases h
  | cons a r ih =>
    intro i t h j u hu
    have hj : j < 3 := by have := (List.getElem?_eq_some_iff.1 hu).1; rwa [tkC_len] at this
    rw [tksC, List.flatMap_cons]
    cases i with
    | zero =>
      injection h with h; subst h
      rw [List.getElem?_append_left (by rw [tkC_len]; omega)]
      rw [Nat.zero_mul, Nat.zero_add]; exact hu
    | succ i =>
      rw [List.getElem?_append_right (by rw [tkC_len]; omega), tkC_len, show (i + 1) * 3 + j - 3 = i * 3 + j from by omega]
      exact ih (by simpa using h) j u hu

structure AdI (t : Tkn) (acc0 : List Int) (B gt : Nat) (v0 : Value) (w0 : World) (x : Nat × Value × List Int) (w : World) : Prop where
  own : Own w B 5 x.2.1 (x.2.2.map (Value.int .u8))
  blk : Blk w gt 59 (tkC t).toArray
  go : cpB t.back.toNat x.1 x.2.2 = cpB t.back.toNat t.long.toNat acc0
  len : t.back.toNat ≤ x.2.2.length
  sum : x.2.2.length + x.1 ≤ 2 ^ 40
  fr : Fr (fun b => v0.ownBlock = some b) w0 w
  ov : x.2.1.ownBlock = v0.ownBlock ∨ ∀ b, x.2.1.ownBlock = some b → w0.heap.size ≤ b
  ne : x.2.1.ownBlock ≠ some gt
  neg : t.lit < 0

set_option maxRecDepth 20000 in
set_option maxHeartbeats 4000000 in
theorem add_does (w : World) (B : Nat) (v : Value) (acc : List Int) (t : Tkn) (ho : Own w B 5 v (acc.map (Value.int .u8))) (hB : B ≤ w.heap.size) (hm : mayT t = true) (hb : t.back ≤ acc.length) (hl : acc.length ≤ 2 ^ 30) :
    Does Try.prog 95 #[v, .agg (tkC t).toArray] w fun r w' => Own w' B 5 r ((addB acc t).map (Value.int .u8)) ∧ Fr (fun b => v.ownBlock = some b) w w' ∧ (r.ownBlock = v.ownBlock ∨ ∀ b, r.ownBlock = some b → w.heap.size ≤ b) := by
  refine does2 Try.func95 rfl (by kernel_rfl) ?_
  obtain ⟨l, b, g⟩ := t
  have hmay := mayT_op hm
  dsimp only at hmay hb
  refine go ?_
  refine xbox rfl (fun w1 hB1 hE1 hs1 => ?_)
  have hB1' : Blk w1 w.heap.size 59 #[.int .i64 l, .int .i64 b, .int .i64 g] := hB1
  have ho1 := ho.ext hE1
  have hnb : v.ownBlock ≠ some w.heap.size := fun e => by have := (ho.blk e).2; omega
  refine go ?_
  refine tscope1 (α := Nat × Value × List Int) 0 rfl (fun x => [(0, x.2.1), (3, .pointer (some ⟨w.heap.size, 0, none⟩)), (5, .int .i64 (x.1 : Int))]) (AdI ⟨l, b, g⟩ acc B w.heap.size v w) (fun x => x.1) ?_ ?_
  · rintro ⟨n, v2, a2⟩ w2 ⟨hown, hblk, hgo, hlen, hsum, hfr, hov, hne, hneg⟩
    dsimp only at hown hblk hgo hlen hsum hfr hov hne hneg ⊢
    obtain ⟨A, c, e, hcc, hcm⟩ := hown.form
    rw [List.length_map] at e hcc
    subst e
    have c1 : w2.cell? ⟨w.heap.size, 1, none⟩ = some (.int .i64 b) := hblk.cell 1
    by_cases h0 : n = 0
    · subst h0
      rw [cpB] at hgo
      refine go ?_
      refine tret1 rfl rfl ⟨?_, hfr, hov⟩
      have : addB acc ⟨l, b, g⟩ = a2 := by
        unfold addB
        rw [if_neg (by dsimp only; omega)]
        exact hgo.symm
      rw [this]
      exact hown
    · obtain ⟨m, rfl⟩ : ∃ m, n = m + 1 := ⟨n - 1, by omega⟩
      rw [cpB] at hgo
      obtain ⟨_, _, e, _, _, hA⟩ := hown.brow.op
      injection e with e1 e2 e3
      subst e1
      obtain ⟨b', o', z, rfl, _, hz, hcell, _⟩ := hA.at_ (show a2.length - b.toNat < a2.length by omega)
      rw [getD_of hz] at hgo
      repeat' (first | refine xisq (a2.length - b.toNat) (o' + (a2.length - b.toNat)) rfl rfl rfl (by omega) rfl (by omega) ?_ | refine go1 ?_ | fail)
      refine xbs sl_bytes rfl rfl (by decide) (by decide) (fun u hu => by rw [List.mem_singleton.1 hu]; rfl) (fun w3 hB3 hE3 hs3 => ?_)
      have hsz := hfr.size
      refine xap sl_bytes rfl rfl (hown.ext hE3) rfl (blk_row hB3 (by decide) rfl) (by simp) (fun u hu => by rw [List.mem_singleton.1 hu]; rfl) (by unfold maxLen; simp; omega) (by simp; omega) (by omega) (fun v4 w4 hown4 hF4 hv4 => ?_)
      refine go ?_
      have hF24 : Fr (fun k => (Value.slice (some ⟨b', o', none⟩) a2.length c).ownBlock = some k) w2 w4 := hE3.fr.t hF4
      have hblt := hblk.lt
      refine tgoto rfl ⟨_, (by show m < m + 1; omega), rfl, (m, v4, a2 ++ [z]), sub ⟨rfl, rfl, ieq (by omega)⟩, ⟨?_, hblk.fr hF24 hne, hgo, by dsimp only; rw [List.length_append]; omega, by dsimp only; rw [List.length_append]; simp; omega, ?_, ?_, ?_, hneg⟩, rfl⟩
      · dsimp only
        rw [List.map_append]
        exact hown4
      · refine hfr.trans hF24 fun j hj h => ?_
        rcases hov with h' | h'
        · rw [← h']; exact h
        · have := h' j h; omega
      · dsimp only
        rcases hv4 with h | h
        · rcases hov with h' | h'
          · left; rw [h, h']
          · right; intro k hk; exact h' k (by rw [← h]; exact hk)
        · right; intro k hk; rw [h] at hk; injection hk with hk; omega
      · dsimp only
        rcases hv4 with h | h
        · rw [h]; exact hne
        · rw [h]; intro e; injection e with e; omega
  · intro H
    have c0 : w1.cell? ⟨w.heap.size, 0, none⟩ = some (.int .i64 l) := hB1'.cell 0
    have c2 : w1.cell? ⟨w.heap.size, 2, none⟩ = some (.int .i64 g) := hB1'.cell 2
    by_cases h0 : 0 ≤ l
    · repeat' (first | refine xcv (r := l) rfl rfl rfl (by simp [IntKind.wrap, IntKind.signed, IntKind.bits]; omega) ?_ | refine go1 ?_ | fail)
      refine xbs sl_bytes rfl rfl (by decide) (by decide) (fun u hu => by rw [List.mem_singleton.1 hu]; rfl) (fun w2 hB2 hE2 hs2 => ?_)
      refine xap sl_bytes rfl rfl (ho1.ext hE2) rfl (blk_row hB2 (by decide) rfl) (by simp) (fun u hu => by rw [List.mem_singleton.1 hu]; rfl) (by unfold maxLen; simp; omega) (by simp; omega) (by omega) (fun v3 w3 hown3 hF3 hv3 => ?_)
      refine go ?_
      refine tret1 rfl rfl ⟨?_, (hE1.fr.t hE2.fr).t hF3, ?_⟩
      · have : addB acc ⟨l, b, g⟩ = acc ++ [l] := by unfold addB; rw [if_pos h0]
        rw [this, List.map_append]
        exact hown3
      · rcases hv3 with h | h
        · exact .inl h
        · exact .inr fun b hb => by rw [h] at hb; injection hb with hb; omega
    · refine go ?_
      refine tlabel ?_
      exact tweak (H (g.toNat, v, acc) w1 ⟨ho1, hB1', rfl, by dsimp only; omega, by dsimp only; omega, hE1.fr, .inl rfl, hnb, by dsimp only; omega⟩) (sub ⟨rfl, rfl, ieq (by dsimp only; omega)⟩)

structure JnI (ts : List Tkn) (M : Nat) (w0 : World) (x : Nat × Value × List Int) (w : World) : Prop where
  le : x.1 ≤ ts.length
  own : Own w w0.heap.size 5 x.2.1 (x.2.2.map (Value.int .u8))
  go : joinB M x.2.2 (ts.drop x.1) = joinB M [] ts
  len : x.2.2.length ≤ M
  ext : Ext w0 w

theorem addB_len (acc : List Int) (t : Tkn) (hm : mayT t = true) : (addB acc t).length = acc.length + (max t.long 1).toNat := by
  unfold addB
  rcases mayT_op hm with h | h
  · rw [if_neg (by omega), cpB_len]; omega
  · rw [if_pos h.1, List.length_append]; simp; omega

set_option maxRecDepth 20000 in
set_option maxHeartbeats 4000000 in
theorem join_does (w : World) (v : Value) (ts : List Tkn) (M : Nat) (hv : Row w v ts.length (tksC ts)) (hM : M ≤ 2 ^ 30) :
    Does Try.prog 91 #[v, .int .i64 (M : Int)] w fun r w' => ∃ v', r = .tuple #[v', .int .i64 (joinB M [] ts).1] ∧ Own w' w.heap.size 5 v' ((joinB M [] ts).2.map (Value.int .u8)) ∧ Ext w w' := by
  refine does2 Try.func91 rfl (by kernel_rfl) ?_
  obtain ⟨A, c, rfl, hcc, hcm, hA⟩ := hv.op
  refine go ?_
  refine tscope1 (α := Nat × Value × List Int) 0 rfl (fun x => [(0, .slice A ts.length c), (1, .int .i64 (M : Int)), (6, x.2.1), (7, .int .i64 (x.1 : Int))]) (JnI ts M w) (fun x => ts.length - x.1) ?_ ?_
  · rintro ⟨i, v2, a2⟩ w2 ⟨hi, hown, hgo, hlen, hE⟩
    dsimp only at hi hown hgo hlen hE ⊢
    obtain ⟨A2, c2, e, hcc2, hcm2⟩ := hown.form
    rw [List.length_map] at e hcc2
    subst e
    by_cases hlt : i < ts.length
    · obtain ⟨b, o, rfl, _, hcells⟩ := hA.at_ (by omega)
      obtain ⟨t, ht⟩ : ∃ t, ts[i]? = some t := ⟨_, List.getElem?_eq_getElem hlt⟩
      have hdrop : ts.drop i = t :: ts.drop (i + 1) := by
        rw [List.drop_eq_getElem_cons hlt]; rw [List.getElem?_eq_getElem hlt] at ht; injection ht with ht; rw [ht]
      rw [hdrop, joinB] at hgo
      repeat' (first | refine xizq i (o + i * 3) rfl rfl rfl rfl rfl (by omega) ?_ | refine go1 ?_ | fail)
      refine xldz (cs := tkC t) rfl rfl (fun j u hu => hE.cell (by rw [Nat.add_assoc]; exact hcells _ u (tksC_get ht j u hu))) ?_
      refine xalloc (z := .agg #[.int .i64 0, .int .i64 0, .int .i64 0]) (by kernel_rfl) (fun w3 hB3 hE3 hs3 => ?_)
      refine xsta (cs := (tkC t).toArray) hB3 rfl rfl rfl rfl (tkC_all t) (fun w4 hB4 hF4 => ?_)
      have hE4 : Ext w2 w4 := hE3.te hF4 fun j hj e => by have e' : j = w2.heap.size := e; omega
      refine go ?_
      refine xlda hB4 rfl rfl ?_
      refine xcall rfl rfl (mayt_does w4 t) (fun r w5 h5 => ?_)
      obtain ⟨rfl, hE5⟩ := h5
      have hE25 : Ext w2 w5 := hE4.t hE5
      have hE05 : Ext w w5 := hE.t hE25
      cases hm : mayT t with
      | false =>
        rw [if_pos hm] at hgo
        refine go ?_
        exact tret2 rfl rfl rfl ⟨_, by rw [← hgo], by rw [← hgo]; exact Own.nil _ _ _, hE05⟩
      | true =>
        rw [if_neg (by rw [hm]; decide)] at hgo
        have hmo := mayT_op hm
        have hB5 := hB4.ext hE5
        have hB5' : Blk w5 w2.heap.size 59 #[.int .i64 t.lit, .int .i64 t.back, .int .i64 t.long] := hB5
        have c1 : w5.cell? ⟨w2.heap.size, 1, none⟩ = some (.int .i64 t.back) := hB5'.cell 1
        have c2 : w5.cell? ⟨w2.heap.size, 2, none⟩ = some (.int .i64 t.long) := hB5'.cell 2
        by_cases hbk : (a2.length : Int) < t.back
        · rw [if_pos hbk] at hgo
          refine go ?_
          exact tret2 rfl rfl rfl ⟨_, by rw [← hgo], by rw [← hgo]; exact Own.nil _ _ _, hE05⟩
        rw [if_neg hbk] at hgo
        by_cases hmo2 : (M : Int) - a2.length < max t.long 1
        · rw [if_pos hmo2] at hgo
          repeat' (first | refine xmax rfl rfl ?_ | refine go1 ?_ | fail)
          exact tret2 rfl rfl rfl ⟨_, by rw [← hgo], by rw [← hgo]; exact Own.nil _ _ _, hE05⟩
        rw [if_neg hmo2] at hgo
        repeat' (first | refine xmax rfl rfl ?_ | refine go1 ?_ | fail)
        refine xlda hB5 rfl rfl ?_
        have hsz := hE05.size
        refine xcall rfl rfl (add_does w5 w.heap.size _ a2 t (hown.ext hE25) (by omega) hm (by omega) (by omega)) (fun r w6 h6 => ?_)
        obtain ⟨hown6, hF6, hov6⟩ := h6
        refine go ?_
        have hal := addB_len a2 t hm
        refine tgoto rfl ⟨_, (by show ts.length - (i + 1) < ts.length - i; omega), rfl, (i + 1, r, addB a2 t), sub ⟨rfl, rfl, rfl, rfl⟩, ⟨by dsimp only; omega, hown6, hgo, by dsimp only; omega, hE05.te hF6 fun j hj e => ?_⟩, rfl⟩
        have := (hown.blk e).1
        omega
    · obtain rfl : i = ts.length := by omega
      rw [List.drop_length, joinB] at hgo
      refine go ?_
      exact tret2 rfl rfl rfl ⟨_, by rw [← hgo], by rw [← hgo]; exact hown, hE⟩
  · intro H
    repeat' (first | refine xmax rfl rfl ?_ | refine go1 ?_ | fail)
    refine tlabel ?_
    exact tweak (H (0, .slice none 0 0, []) w ⟨Nat.zero_le _, Own.nil _ _ _, rfl, Nat.zero_le _, Fr.refl _ _⟩) (sub ⟨rfl, ieq (by omega), rfl, rfl⟩)

theorem sl_toks : SlT 126 59 (.agg #[.int .i64 0, .int .i64 0, .int .i64 0]) 3 24 := slT Try.underlying126 (by kernel_rfl)

structure AlI (zs : List Int) (w0 : World) (x : Nat × Value × List Tkn) (w : World) : Prop where
  le : x.1 ≤ zs.length
  own : OwnZ w w0.heap.size 59 3 x.2.1 x.2.2.length (tksC x.2.2)
  go : x.2.2 ++ toksAt zs x.1 = toksB zs
  len : x.2.2.length ≤ x.1
  ext : Ext w0 w

set_option maxRecDepth 20000 in
set_option maxHeartbeats 4000000 in
theorem all_does (w : World) (v : Value) (zs : List Int) (hv : BRow w v zs) (hb : Byts zs) (hl : zs.length ≤ 2 ^ 30) :
    Does Try.prog 80 #[v] w fun r w' => OwnZ w' w.heap.size 59 3 r (toksB zs).length (tksC (toksB zs)) ∧ Ext w w' := by
  refine does1 Try.func80 rfl (by kernel_rfl) ?_
  have hrow := hv
  obtain ⟨A, c, rfl, hcc, hcm, hA⟩ := hv.op
  refine go ?_
  refine tscope1 (α := Nat × Value × List Tkn) 0 rfl (fun x => [(0, .slice A zs.length c), (3, x.2.1), (4, .int .i64 (x.1 : Int))]) (AlI zs w) (fun x => zs.length - x.1) ?_ ?_
  · rintro ⟨i, v2, ts⟩ w2 ⟨hi, hown, hgo, hlen, hE⟩
    dsimp only at hi hown hgo hlen hE ⊢
    have hsz := hE.size
    by_cases hlt : i < zs.length
    · obtain ⟨b, o, z, rfl, _, hz, hcell, _⟩ := hA.at_ hlt
      refine go ?_
      refine xcall rfl rfl (best_does w2 _ zs i (hrow.ext hE) hlt) (fun r w3 h3 => ?_)
      obtain ⟨rfl, hE3⟩ := h3
      have hz3 := hE3.cell (hE.cell hcell)
      have hzb := hb z (List.mem_of_getElem? hz)
      have hsz3 := hE3.size
      by_cases h0 : (bestB zs i).2 = 0
      · rw [toksAt_lit zs hlt h0, getD_of hz] at hgo
        repeat' (first | refine xcvi rfl rfl rfl (by omega) (by omega) ?_ | refine go1 ?_ | fail)
        refine xbd (cells := #[.int .i64 z, .int .i64 0, .int .i64 0]) rfl (by kernel_rfl) ?_
        refine xbz1 sl_toks rfl rfl (by decide) (by decide) (fun w4 hB4 hE4 hs4 => ?_)
        refine xapz sl_toks rfl (by decide) rfl ((hown.ext hE3).ext hE4) rfl (blk_row hB4 (by decide) rfl) rfl (fun u hu => tkC_one ⟨z, 0, 0⟩ u hu) (by unfold maxLen; omega) (by omega) (by omega) (fun v5 w5 hown5 hF5 hv5 => ?_)
        refine go ?_
        refine tgoto rfl ⟨_, (by show zs.length - (i + 1) < zs.length - i; omega), rfl, (i + 1, v5, ts ++ [⟨z, 0, 0⟩]), sub ⟨rfl, rfl, rfl⟩, ⟨by dsimp only; omega, ?_, by dsimp only; rw [List.append_assoc]; exact hgo, by dsimp only; rw [List.length_append]; simp; omega, Ext.te (hE.t (hE3.t hE4)) hF5 fun j hj e => ?_⟩, rfl⟩
        · dsimp only
          rw [List.length_append, tksC_snoc]
          exact hown5
        · have := (hown.blk e).1
          omega
      · rw [toksAt_cp zs hlt h0] at hgo
        rcases bestB_ok zs i with e | e
        · rw [e] at h0; exact absurd rfl h0
        have hl3 := e.l3
        have hl1 := e.l1
        have hb2 := e.b2
        refine go ?_
        refine xbd (cells := #[.int .i64 (-1), .int .i64 ((bestB zs i).1 : Int), .int .i64 ((bestB zs i).2 : Int)]) rfl (by kernel_rfl) ?_
        refine xbz1 sl_toks rfl rfl (by decide) (by decide) (fun w4 hB4 hE4 hs4 => ?_)
        refine xapz sl_toks rfl (by decide) rfl ((hown.ext hE3).ext hE4) rfl (blk_row hB4 (by decide) rfl) rfl (fun u hu => tkC_one ⟨-1, (bestB zs i).1, (bestB zs i).2⟩ u hu) (by unfold maxLen; omega) (by omega) (by omega) (fun v5 w5 hown5 hF5 hv5 => ?_)
        refine go ?_
        refine tgoto rfl ⟨_, (by show zs.length - (i + (bestB zs i).2) < zs.length - i; omega), rfl, (i + (bestB zs i).2, v5, ts ++ [⟨-1, (bestB zs i).1, (bestB zs i).2⟩]), sub ⟨rfl, rfl, ieq (by dsimp only; omega)⟩, ⟨by dsimp only; omega, ?_, by dsimp only; rw [List.append_assoc]; exact hgo, by dsimp only; rw [List.length_append]; simp; omega, Ext.te (hE.t (hE3.t hE4)) hF5 fun j hj e => ?_⟩, rfl⟩
        · dsimp only
          rw [List.length_append, tksC_snoc]
          exact hown5
        · have := (hown.blk e).1
          omega
    · obtain rfl : i = zs.length := by omega
      rw [toksAt_end zs (Nat.le_refl _), List.append_nil] at hgo
      refine go ?_
      exact tret1 rfl rfl ⟨by rw [← hgo]; exact hown, hE⟩
  · intro H
    refine go ?_
    refine tlabel ?_
    exact tweak (H (0, .slice none 0 0, []) w ⟨Nat.zero_le _, OwnZ.nil _ _ _ _, rfl, Nat.zero_le _, Fr.refl _ _⟩) (sub ⟨rfl, rfl, rfl⟩)

/-- The symbol of a token, its extra bits, their number. -/
def symT (t : Tkn) : Int × Int × Int := if mayT t = false then (-1, 0, 0) else if 0 ≤ t.lit then (t.lit, 0, 0) else (256 + t.long - 3, t.back - 1, 10)

set_option maxRecDepth 20000 in
set_option maxHeartbeats 4000000 in
theorem sym_does (w : World) (t : Tkn) :
    Does Try.prog 37 #[.agg (tkC t).toArray] w fun r w' => r = .tuple #[.int .i64 (symT t).1, .int .i64 (symT t).2.1, .int .i64 (symT t).2.2] ∧ Ext w w' := by
  refine does1 Try.func37 rfl (by kernel_rfl) ?_
  refine go ?_
  refine xbox rfl (fun w1 hB1 hE1 hs1 => ?_)
  have hB1' : Blk w1 w.heap.size 59 (tkC t).toArray := hB1
  refine go ?_
  refine xlda hB1' rfl rfl ?_
  refine xcall rfl rfl (mayt_does w1 t) (fun r w2 h2 => ?_)
  obtain ⟨rfl, hE2⟩ := h2
  have hE := hE1.t hE2
  unfold symT
  cases hm : mayT t with
  | false =>
    refine go ?_
    exact tret3 rfl rfl rfl rfl ⟨rfl, hE⟩
  | true =>
    have hmo := mayT_op hm
    have hB2 : Blk w2 w.heap.size 59 #[.int .i64 t.lit, .int .i64 t.back, .int .i64 t.long] := hB1'.ext hE2
    have c0 : w2.cell? ⟨w.heap.size, 0, none⟩ = some (.int .i64 t.lit) := hB2.cell 0
    have c1 : w2.cell? ⟨w.heap.size, 1, none⟩ = some (.int .i64 t.back) := hB2.cell 1
    have c2 : w2.cell? ⟨w.heap.size, 2, none⟩ = some (.int .i64 t.long) := hB2.cell 2
    rw [if_neg (by decide)]
    by_cases h0 : 0 ≤ t.lit
    · rw [if_pos h0]
      refine go ?_
      exact tret3 rfl rfl rfl rfl ⟨rfl, hE⟩
    · rw [if_neg h0]
      refine go ?_
      exact tret3 rfl rfl rfl rfl ⟨rfl, hE.d⟩
end Eng
end Go.Proofs.Ytighkjohpmlemaa
