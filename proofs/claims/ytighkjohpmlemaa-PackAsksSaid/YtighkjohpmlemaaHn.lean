/-
  The law HuffBack returns true, whatever the counts and symbols.
-/
import Derived.Test.YtighkjohpmlemaaHm
namespace Go.Proofs.Ytighkjohpmlemaa
open Go.RowKit
namespace Eng

section
variable {hs : List Nat} {H : World → Prop} {full : Array Oper} {K : Env → World → Prop} {rest : List Oper} {env : Env} {w : World} {d : Tmp} {ty : TypeId} {pos : String} {af : Array Edge}
/-- Two bools compared. -/
theorem xbeq {yt : TypeId} {x y : Operand} {a b : Bool} (hx : evo env x = some (.bool a)) (hy : evo env y = some (.bool b)) (h : xs Try.prog isI isS hs H full K rest ((d, .bool (a == b)) :: env) w) : xs Try.prog isI isS hs H full K (⟨some d, .binOp .eql 4 x y yt, ty, pos, af, none⟩ :: rest) env w :=
  x_bin hx hy (eqGuard_at_bool ..) (fun w' => run_eql_bool w' _ a b Try.underlying4) h
theorem xbne {yt : TypeId} {x y : Operand} {a b : Bool} (hx : evo env x = some (.bool a)) (hy : evo env y = some (.bool b)) (h : xs Try.prog isI isS hs H full K rest ((d, .bool (!(a == b))) :: env) w) : xs Try.prog isI isS hs H full K (⟨some d, .binOp .neq 4 x y yt, ty, pos, af, none⟩ :: rest) env w :=
  x_bin hx hy (eqGuard_at_bool ..) (fun w' => run_neq_bool w' _ a b Try.underlying4) h
end
/-- Ways that meet: the tail is walked once. -/
theorem tjoin {fn : Func} {R : Value → World → Prop} {k k' : List It} {env : Env} {w w' : World} (id : Nat) (_ : exitK id k = some k') (E : Env) (main : (∀ env, Sub E env → T Try.prog fn R k' env w') → T Try.prog fn R k env w) (tail : T Try.prog fn R k' E w') : T Try.prog fn R k env w := main fun _ hs => tweak tail hs

attribute [local irreducible] xs T

/-- The bits of symbols. -/
def encB (zs : List Int) (put : List Int) : List Nat := put.flatMap fun s => bitsOf (codeB zs s.toNat) (zs.getD s.toNat 0).toNat
theorem encB_app (zs a b : List Int) : encB zs (a ++ b) = encB zs a ++ encB zs b := by simp [encB]
theorem encB_one (zs : List Int) (s : Int) : encB zs [s] = bitsOf (codeB zs s.toNat) (zs.getD s.toNat 0).toNat := by simp [encB]
theorem encB_len (zs : List Int) (hz : Lens zs) : ∀ put : List Int, (encB zs put).length ≤ 12 * put.length
  | [] => by simp [encB]
  | s :: r => by
    have ih := encB_len zs hz r
    have e : encB zs (s :: r) = bitsOf (codeB zs s.toNat) (zs.getD s.toNat 0).toNat ++ encB zs r := by simp [encB]
    rw [e, List.length_append, length_bitsOf, List.length_cons]
    have : zs.getD s.toNat 0 ≤ 12 := by
      rcases Nat.lt_or_ge s.toNat zs.length with h | h
      · exact (hz _ (getD_mem h)).2
      · rw [List.getD_eq_getElem?_getD, List.getElem?_eq_none h]; decide
    omega

theorem enc_get {zs put : List Int} {j : Nat} {s : Int} (hm : mayB zs = true) (hj : put[j]? = some s) (h0 : 0 ≤ s) (hl : s < zs.length) (hq : 0 < zs.getD s.toNat 0) (hb : Bits (encB zs put)) :
    getB zs (pk (encB zs put)) (encB zs (put.take j)).length = (s, 0, (encB zs (put.take (j + 1))).length) := by
  have hlt : s.toNat < zs.length := by omega
  obtain ⟨q, hqe⟩ := Int.eq_ofNat_of_zero_le (show 0 ≤ zs.getD s.toNat 0 by omega)
  have hs : zs[s.toNat]? = some (q : Int) := by
    rw [← hqe, List.getD_eq_getElem?_getD, List.getElem?_eq_getElem hlt]; rfl
  have hjl : j < put.length := (List.getElem?_eq_some_iff.1 hj).1
  have e1 : put.take (j + 1) = put.take j ++ [s] := by rw [List.take_add_one, hj]; rfl
  have e2 : put = put.take (j + 1) ++ put.drop (j + 1) := (List.take_append_drop _ _).symm
  have e3 : encB zs (put.take (j + 1)) = encB zs (put.take j) ++ bitsOf (codeB zs s.toNat) q := by rw [e1, encB_app, encB_one, hqe]; rfl
  have e4 : encB zs put = encB zs (put.take j) ++ bitsOf (codeB zs s.toNat) q ++ encB zs (put.drop (j + 1)) := by
    conv => lhs; rw [e2]
    rw [encB_app, e3]
  have hlen : (encB zs (put.take j)).length + q ≤ (encB zs put).length := by rw [e4]; simp [length_bitsOf]
  have hpl : (encB zs put).length ≤ 8 * (pk (encB zs put)).length := by rw [length_pk]; omega
  have := get_hit (ys := pk (encB zs put)) hm hs (by omega) (encB zs (put.take j)).length (by omega) (by
    rw [unpk_pk _ hb _ _ hlen, e4, List.append_assoc, List.drop_left', List.take_left']
    · rw [length_bitsOf]
    · rfl)
  rw [this, e3, List.length_append, length_bitsOf]
  congr 1
  omega

theorem rest_pk (bs : List Nat) (hb : Bits bs) : restB (pk bs) bs.length = true := by
  unfold restB
  have hl := length_pk bs
  simp only [Bool.and_eq_true, decide_eq_true_eq]
  refine ⟨by omega, ?_⟩
  have : unpk (pk bs) bs.length (8 * (pk bs).length - bs.length) = List.replicate (8 * (pk bs).length - bs.length) 0 := by
    apply List.ext_getElem
    · simp [length_unpk]
    · intro i h1 h2
      rw [length_unpk] at h1
      simp only [unpk, List.getElem_map, List.getElem_range, List.getElem_replicate]
      rw [bitAt_pk bs hb _ (by rw [hl] at h1; omega), List.getElem?_eq_none (by omega)]; rfl
  rw [this, val_zeros]

/-- The counts of this law. -/
def hbB (zs : List Int) : List Int := zs.map fun z => uw z % 1000
theorem hbB_take {zs : List Int} {i : Nat} {z : Int} (h : zs[i]? = some z) : hbB (zs.take (i + 1)) = hbB (zs.take i) ++ [uw z % 1000] := by
  unfold hbB; rw [List.take_add_one, h]; simp
@[simp] theorem hbB_len (zs : List Int) : (hbB zs).length = zs.length := by simp [hbB]
theorem hbB_mem {zs : List Int} : ∀ x ∈ hbB zs, 0 ≤ x ∧ x < 1000 := by
  intro x hx
  obtain ⟨z, _, rfl⟩ := List.mem_map.1 hx
  have := uw_bd z
  omega

structure HbI (zs : List Int) (B : Nat) (w0 : World) (x : Nat × Value) (w : World) : Prop where
  le : x.1 ≤ zs.length
  l60 : x.1 ≤ 60
  own : Own w B 3 x.2 ((hbB (zs.take x.1)).map (Value.int .i64))
  base : B ≤ w.heap.size
  ext : Ext w0 w

structure HbJ (cs zs : List Int) (g gl gou : Nat) (w0 : World) (n : Nat) (x : Nat × Value × List Int) (w : World) : Prop where
  le : x.1 ≤ n
  l60 : x.1 ≤ 60
  out : OutR w gou (encB zs x.2.2)
  own : Own w (gou + 1) 3 x.2.1 (x.2.2.map (Value.int .i64))
  db : DB w g cs
  ib : IB w gl zs
  ok : ∀ s ∈ x.2.2, 0 ≤ s ∧ s < cs.length ∧ 0 < zs.getD s.toNat 0
  len : x.2.2.length ≤ x.1
  ext : Ext w0 w

structure HbK (zs put : List Int) (gl gi : Nat) (pv : Value) (w0 : World) (j : Nat) (w : World) : Prop where
  le : j ≤ put.length
  inr : InR w gi (pk (encB zs put)) (encB zs (put.take j)).length
  row : IRow w pv put
  ib : IB w gl zs
  ext : Ext w0 w

set_option maxRecDepth 20000 in
set_option maxHeartbeats 8000000 in
theorem huffBack_does (w : World) (v v' : Value) (zs ls : List Int) (hv : IRow w v zs) (hv' : IRow w v' ls) : Does Try.prog 5 #[v, v'] w fun r w' => r = .bool true ∧ Ext w w' := by
  refine does2 Try.func5 rfl (by kernel_rfl) ?_
  obtain ⟨A, c, rfl, hcc, hcm, hA⟩ := hv.op
  obtain ⟨A', c', rfl, hcc', hcm', hA'⟩ := hv'.op
  refine go ?_
  refine tloop (α := Nat × Value) (fun x => [(0, .slice A zs.length c), (1, .slice A' ls.length c'), (5, x.2), (6, .int .i64 (x.1 : Int))]) (HbI zs w.heap.size w) (fun x => 60 - x.1) (0, .slice none 0 0) (sub ⟨rfl, rfl, rfl, rfl⟩) ⟨Nat.zero_le _, by dsimp only; omega, by simpa [hbB] using Own.nil w w.heap.size 3, Nat.le_refl _, Fr.refl _ _⟩ ?_
  rintro ⟨i, v2⟩ w2 ⟨hi, h60, hown, hbase, hE2⟩
  dsimp only at hi h60 hown hbase hE2 ⊢
  by_cases hgo : i < zs.length ∧ i < 60
  · obtain ⟨hlt, h6⟩ := hgo
    obtain ⟨b, o, z, rfl, _, hz, hcell, _⟩ := hA.at_ hlt
    have hc2 := hE2.cell hcell
    have hu := uw_bd z
    have htk := hbB_take hz
    have hll : ((hbB (zs.take i)).map (Value.int .i64)).length = i := by simp; omega
    have hns : ∀ j, j < w.heap.size → v2.ownBlock ≠ some j := fun j hj e => by have := (hown.blk e).1; omega
    repeat' (first | refine xcv (r := uw z) rfl rfl rfl rfl ?_ | refine xcvi rfl rfl rfl (by omega) (by omega) ?_ | refine xdu (op := .rem) rfl rfl rfl (by omega) (by omega) (by omega) ?_ | refine go1 ?_ | fail)
    refine xbs sl_ints rfl rfl (by decide) (by decide) (fun u hu => by rw [List.mem_singleton.1 hu]; rfl) (fun w3 hB3 hE3 hs3 => ?_)
    refine xap sl_ints rfl rfl (hown.ext hE3) rfl (news := [.int .i64 (uw z % 1000)]) (one_row hB3) rfl (fun u hu => by rw [List.mem_singleton.1 hu]; rfl) (by unfold maxLen; rw [hll]; omega) (by rw [hll]; omega) (by omega) (fun v4 w4 hown4 hF4 _ => ?_)
    refine go ?_
    exact tfin ⟨(i + 1, v4), sub ⟨rfl, rfl, rfl, rfl⟩, ⟨by dsimp only; omega, by dsimp only; omega, by dsimp only; rw [htk, List.map_append]; exact hown4, by have := hE3.size; have := hF4.size; omega, Ext.te (hE2.t hE3) hF4 fun j hj => hns j hj⟩, (by show 60 - (i + 1) < 60 - i; omega)⟩
  · refine tjoin (w' := w2) 0 rfl [(0, .slice A zs.length c), (1, .slice A' ls.length c'), (5, v2)] (fun H => ?_) ?_
    · by_cases hlt : i < zs.length
      · refine tseq ?_
        refine goN ?_
        refine tseq ?_
        refine goN ?_
        exact H _ (sub ⟨rfl, rfl, rfl⟩)
      · refine tseq ?_
        refine goN ?_
        refine tseq ?_
        refine goN ?_
        exact H _ (sub ⟨rfl, rfl, rfl⟩)
    have hcl0 : (hbB (zs.take i)).length = i := by simp; omega
    have hmem0 := hbB_mem (zs := zs.take i)
    obtain ⟨c0, hc0⟩ : ∃ c0, c0 = hbB (zs.take i) := ⟨_, rfl⟩
    rw [← hc0] at hown hcl0 hmem0
    obtain ⟨A2, cp, hv2, h1, h3⟩ := hown.form
    rw [List.length_map, hcl0] at hv2 h1
    subst hv2
    unfold maxLen at h3
    by_cases h2 : i < 2
    · refine go ?_
      refine xcall rfl rfl (told_does w2) (fun r w3 h3 => ?_)
      obtain ⟨rfl, hE3⟩ := h3
      refine go ?_
      exact tret1 rfl rfl ⟨rfl, hE2.t hE3⟩
    obtain ⟨g, cp', hvg, hg1, hg2, _⟩ := hown.igo (by omega)
    rw [hcl0] at hvg
    injection hvg with e1 _ e2; subst e1; subst e2
    have hdb := hown.db
    have z0 := hmem0 _ (getD_mem (l := c0) (j := 0) (by omega))
    have z1 := hmem0 _ (getD_mem (l := c0) (j := 1) (by omega))
    repeat' (first | refine xisq 0 0 rfl rfl rfl rfl rfl (by omega) ?_ | refine xisq 1 1 rfl rfl rfl rfl rfl (by omega) ?_ | refine xldd hdb rfl rfl (by omega) ?_ | refine go1 ?_ | fail)
    refine xstd hdb rfl rfl rfl (by omega) (fun w3 hdb3 hF3 => ?_)
    repeat' (first | refine xisq 0 0 rfl rfl rfl rfl rfl (by omega) ?_ | refine xisq 1 1 rfl rfl rfl rfl rfl (by omega) ?_ | refine go1 ?_ | fail)
    refine xstd hdb3 rfl rfl rfl (by rw [List.length_set]; omega) (fun w4 hdb4 hF4 => ?_)
    obtain ⟨cs, hcs⟩ : ∃ cs, cs = (c0.set 0 (c0.getD 0 0 + 1)).set 1 (c0.getD 1 0 + 1) := ⟨_, rfl⟩
    rw [← hcs] at hdb4
    have hcl : cs.length = i := by rw [hcs]; simp [hcl0]
    have hE4 : Ext w w4 := Ext.te hE2 ((Fr.drew _ _).t (hF3.t hF4)) fun j hj e => by omega
    have hcm : ∀ z ∈ cs, 0 ≤ z ∧ z ≤ 1000 := by
      intro z hz
      rw [hcs] at hz
      rcases List.mem_or_eq_of_mem_set hz with h | h
      · rcases List.mem_or_eq_of_mem_set h with h | h
        · have := hmem0 z h; omega
        · omega
      · omega
    have hok : okLen cs = true := okLen_of (by omega) (by omega) fun z hz => by have := hcm z hz; omega
    have hcm0 : ∀ z ∈ cs, 0 ≤ z := fun z hz => (hcm z hz).1
    have hzl := lengths_len (cs := cs) (by omega) (by omega) hcm0
    have hmay := lengths_may (cs := cs) (by omega) (by omega) hcm0
    have hpos : ∀ s, s < cs.length → _ := fun s hs => lengths_pos (cs := cs) (by omega) (by omega) hcm0 (s := s) hs
    have hrow4 : IRow w4 (.slice (some ⟨g, 0, none⟩) i cp) cs := hdb4.row hcl.symm h1 (by unfold maxLen; omega)
    refine go ?_
    refine xcall rfl rfl (lengths_does w4 _ cs hrow4 hok) (fun r w5 h5 => ?_)
    obtain ⟨gl, rfl, hgl, hL, hE5⟩ := h5
    obtain ⟨ys, hys⟩ : ∃ ys, ys = lengthsB cs := ⟨_, rfl⟩
    rw [← hys] at hL hzl hmay hpos
    rw [hcl] at hzl ⊢
    have hg4 := hdb4.lt
    have hdb5 := hdb4.ext hE5
    have hrl := hL.row (by unfold maxLen; omega) i hzl.symm
    refine go ?_
    refine xcall rfl rfl (may_does w5 _ ys hrl) (fun r w6 h6 => ?_)
    obtain ⟨rfl, rfl⟩ := h6
    rw [hmay]
    refine go ?_
    refine xalloc (z := .agg #[.pointer none, .int .u64 0, .int .i64 0]) (by kernel_rfl) (fun w6 hB6 hE6 hs6 => ?_)
    have ho := OutR.new hB6
    obtain ⟨gou, hgo'⟩ : ∃ gou, gou = w5.heap.size := ⟨_, rfl⟩
    rw [← hgo'] at ho hs6 ⊢
    have hgl5 := hL.lt
    have hE06 : Ext w w6 := (hE4.t hE5).t hE6
    have hwg : w.heap.size ≤ gou := by have := hE4.size; have := hE5.size; omega
    refine go ?_
    refine tloop (α := Nat × Value × List Int) (fun x => [(1, .slice A' ls.length c'), (5, .slice (some ⟨g, 0, none⟩) i cp), (7, .slice (some ⟨gl, 0, none⟩) i i), (9, .pointer (some ⟨gou, 0, none⟩)), (10, x.2.1), (11, .int .i64 (x.1 : Int))])
      (HbJ cs ys g gl gou w ls.length) (fun x => 60 - x.1) (0, .slice none 0 0, []) (sub ⟨rfl, rfl, rfl, rfl, rfl, rfl⟩) ⟨Nat.zero_le _, by dsimp only; omega, ho, Own.nil _ _ _, hdb5.ext hE6, hL.ext hE6, fun s hs => (by cases hs), Nat.zero_le _, hE06⟩ ?_
    clear hown hE2 hbase hF3 hF4 hdb hdb3 hdb4 hrow4 hE4 hE5 hE6 hB6 ho hE06 hdb5 hrl hL hmem0 z0 z1 hcs hc0 hv hv'
    rintro ⟨n, pv, put⟩ w7 ⟨hn, hn60, hout, hpown, hdb7, hib7, hpok, hplen, hE7⟩
    dsimp only at hn hn60 hout hpown hdb7 hib7 hpok hplen hE7 ⊢
    have hbl := encB_len ys (may_lens hmay) put
    by_cases hgo2 : n < ls.length ∧ n < 60
    · obtain ⟨hlt, h6⟩ := hgo2
      obtain ⟨b, o, z, rfl, _, hz, hcell, _⟩ := hA'.at_ hlt
      have hc7 := hE7.cell hcell
      have hu := uw_bd z
      obtain ⟨s, hs⟩ : ∃ s : Nat, uw z % (i : Int) = (s : Int) := Int.eq_ofNat_of_zero_le (Int.emod_nonneg _ (by omega))
      have hsl : s < i := by have := Int.emod_lt_of_pos (uw z) (show (0 : Int) < i by omega); omega
      have hp := hpos s (by omega)
      obtain ⟨y, hy⟩ : ∃ y, y = cs.getD s 0 := ⟨_, rfl⟩
      have hcy : w7.cell? ⟨g, s, none⟩ = some (.int .i64 y) := by
        rw [hy]; exact hdb7.cell (by rw [List.getD_eq_getElem?_getD, List.getElem?_eq_getElem (show s < cs.length by omega)]; rfl)
      have hy0 : 0 ≤ y ∧ y ≤ 1000 := by rw [hy]; exact hcm _ (getD_mem (by omega))
      obtain ⟨q, hq⟩ := Int.eq_ofNat_of_zero_le hp.1
      have hqs : ys[s]? = some (q : Int) := by rw [← hq, List.getD_eq_getElem?_getD, List.getElem?_eq_getElem (by omega)]; rfl
      rw [hq, ← hy] at hp
      have hrl7 := hib7.row (by unfold maxLen; omega) i hzl.symm
      repeat' (first | refine xcv (r := uw z) rfl rfl rfl rfl ?_ | refine xcvu rfl rfl rfl (by omega) (by omega) ?_ | refine xdu (op := .rem) rfl rfl rfl (by omega) (by omega) (by omega) ?_ | refine go1 ?_ | fail)
      rw [hs]
      repeat' (first | refine xcvi rfl rfl rfl (by omega) (by omega) ?_ | refine go1 ?_ | fail)
      refine tdrawH [99] (fun w' => w'.cell? ⟨g, s, none⟩ = some (.int .i64 y)) (by kernel_rfl) (by decide +kernel) hcy ?_
      refine go ?_
      have hns : ∀ j, j < gou + 1 → pv.ownBlock ≠ some j := fun j hj e => by have := (hpown.blk e).1; omega
      by_cases hy1 : 0 < y
      · refine xcall rfl rfl (hput_ok w7.drew gou _ _ ys s q (hout.ext (Fr.drew _ _)) hrl7 (by simp [Value.ownBlock]; omega) hmay hqs (by omega) (by omega)) (fun r w8 h8 => ?_) (fun r w8 h8 => h8.2.2.cell (w := w7.drew) hcy (by show ¬ g = gou; omega))
        obtain ⟨rfl, hout8, hF8⟩ := h8
        have hF78 : Fr (· = gou) w7 w8 := (Fr.drew _ _).t hF8
        have hcy8 := hF78.cell hcy (by show ¬ g = gou; omega)
        repeat' (first | refine xisq s s rfl rfl rfl rfl (by omega) (by omega) ?_ | refine xldh rfl rfl (fun _ h => h) ?_ | refine xbne rfl rfl ?_ | refine go1 ?_ | fail)
        refine xbs sl_ints rfl rfl (by decide) (by decide) (fun u hu => by rw [List.mem_singleton.1 hu]; rfl) (fun w9 hB9 hE9 hs9 => ?_)
        have hpown8 := hpown.fr hF78 fun b hb e => hns b (by omega) hb
        have h78 := hF78.size
        have hbz : gou + 1 ≤ w9.heap.size := by have := hout8.lt; omega
        refine xap sl_ints rfl rfl (hpown8.ext hE9) rfl (news := [.int .i64 (s : Int)]) (one_row hB9) rfl (fun u hu => by rw [List.mem_singleton.1 hu]; rfl) (by unfold maxLen; simp; omega) (by simp; omega) hbz (fun v10 w10 hown10 hF10 _ => ?_)
        refine go ?_
        have hF : Fr (fun b => b = gou ∨ pv.ownBlock = some b) w7 w10 := ((hF78.mono fun _ _ h => .inl h).t hE9.fr).t (hF10.mono fun _ _ h => .inr h)
        have hnn : ∀ j, j < gou → ¬ (j = gou ∨ pv.ownBlock = some j) := fun j hj hh => by
          rcases hh with hh | hh
          · omega
          · exact hns j (by omega) hh
        refine tfin ⟨(n + 1, v10, put ++ [(s : Int)]), sub ⟨rfl, rfl, rfl, rfl, rfl, rfl⟩, ⟨by dsimp only; omega, by dsimp only; omega, ?_, by dsimp only; rw [List.map_append]; exact hown10, hdb7.fr hF (hnn g (by omega)), hib7.fr hF (hnn gl (by omega)), ?_, by dsimp only; simp; omega, Ext.te hE7 hF fun j hj => hnn j (by omega)⟩, (by show 60 - (n + 1) < 60 - n; omega)⟩
        · dsimp only
          rw [encB_app, encB_one, Int.toNat_natCast, hq, Int.toNat_natCast]
          exact (hout8.ext hE9).fr hF10 (hns gou (by omega)) (fun b cs hb e => by
            have h10 := hpown8.ext hE9
            obtain ⟨h11, h12⟩ := h10
            rcases h12 with ⟨rfl, _⟩ | ⟨g', cap, cur, rfl, _, hh, _⟩
            · simp [Value.ownBlock] at e
            · have : g' = b := by simpa [Value.ownBlock] using e
              subst this
              exact Blk.ne_ (t := 93) (t' := 3) hb hh (by decide) rfl)
        · intro x hx
          rcases List.mem_append.1 hx with hx | hx
          · exact hpok x hx
          · rw [List.mem_singleton.1 hx]
            refine ⟨by omega, by omega, ?_⟩
            rw [Int.toNat_natCast, hq]; omega
      · have hq0 : q = 0 := by omega
        refine xcall rfl rfl (hput_no w7.drew gou _ ys (s : Int) hrl7 (by simp [okPut, hqs, hq0]) (by omega) (by omega)) (fun r w8 h8 => ?_) (fun r w8 h8 => by rw [← h8.2]; exact hcy)
        obtain ⟨rfl, rfl⟩ := h8
        repeat' (first | refine xisq s s rfl rfl rfl rfl (by omega) (by omega) ?_ | refine xldh rfl rfl (fun _ h => h) ?_ | refine xbne rfl rfl ?_ | refine go1 ?_ | fail)
        exact tfin ⟨(n + 1, pv, put), sub ⟨rfl, rfl, rfl, rfl, rfl, rfl⟩, ⟨by dsimp only; omega, by dsimp only; omega, hout.ext (Fr.drew _ _), hpown.ext (Fr.drew _ _), hdb7, hib7, hpok, by dsimp only; omega, hE7.d⟩, (by show 60 - (n + 1) < 60 - n; omega)⟩
    · refine tjoin (w' := w7) 2 rfl [(7, .slice (some ⟨gl, 0, none⟩) i i), (9, .pointer (some ⟨gou, 0, none⟩)), (10, pv)] (fun H => ?_) ?_
      · by_cases hlt : n < ls.length
        · refine tseq ?_
          refine goN ?_
          refine tseq ?_
          refine goN ?_
          exact H _ (sub ⟨rfl, rfl, rfl⟩)
        · refine tseq ?_
          refine goN ?_
          refine tseq ?_
          refine goN ?_
          exact H _ (sub ⟨rfl, rfl, rfl⟩)
      have hbits := hout.bits
      have hpk := length_pk (encB ys put)
      refine go ?_
      refine xcall rfl rfl (bytes_does w7 gou _ hout (by omega)) (fun r w8 h8 => ?_)
      obtain ⟨bb, rfl, hbb, hBB, hE8⟩ := h8
      refine xcall rfl rfl (from_does w8 _ (pk (encB ys put)) (hBB.row (by unfold maxLen; omega)) (fun z hz => by
        obtain ⟨k, _, rfl⟩ := List.mem_map.1 hz
        have := byte8_lt ((encB ys put).drop (8 * k)) (fun b hb => hbits b (List.mem_of_mem_drop hb))
        omega) (by omega)) (fun r w9 h9 => ?_)
      obtain ⟨gi, rfl, hgi, hin, hE9⟩ := h9
      have hE79 : Ext w7 w9 := hE8.t hE9
      have hpb : ∀ b, pv.ownBlock = some b → b < gi := fun b hb => by have := (hpown.blk hb).2; have := hE8.size; omega
      have hglg : gl < gi := by have := hib7.lt; have := hE8.size; omega
      have hwgi : w.heap.size ≤ gi := by have := hE7.size; have := hE8.size; omega
      refine go ?_
      refine tloop (α := Nat) (fun j => [(7, .slice (some ⟨gl, 0, none⟩) i i), (10, pv), (13, .pointer (some ⟨gi, 0, none⟩)), (14, .int .i64 (j : Int))]) (HbK ys put gl gi pv w) (fun j => put.length - j) 0 (sub ⟨rfl, rfl, rfl, rfl⟩) ⟨Nat.zero_le _, by simpa [encB] using hin, hpown.irow.ext hE79, hib7.ext hE79, hE7.t hE79⟩ ?_
      clear hin hE8 hE9 hE79 hBB hout hpown hib7 hdb7 hE7
      rintro j w10 ⟨hj, hin, hprow, hib, hE10⟩
      obtain ⟨A5, c5, hpv, _, _, hA5⟩ := hprow.op
      subst hpv
      by_cases hjl : j < put.length
      · obtain ⟨b5, o5, s, rfl, hb5, hs, hcell, _⟩ := hA5.at_ hjl
        have hps := hpok s (List.mem_of_getElem? hs)
        have hget := enc_get hmay hs hps.1 (by omega) hps.2.2 hbits
        have hb5g := hpb b5 rfl
        have hok2 : okGet ys = true := by
          have hne : ys ≠ [] := fun e => by rw [e] at hzl; simp at hzl; omega
          have hmx := maxL_le (getD_mem (l := ys) (j := s.toNat) (by omega))
          have h1 : ys.isEmpty = false := by
            cases ys with
            | nil => exact absurd rfl hne
            | cons _ _ => rfl
          have h2 : maxL ys ≠ 0 := by omega
          simp [okGet, hmay, h1, h2]
        refine go ?_
        refine xcall rfl rfl (hget_does w10 gi _ ys (pk (encB ys put)) _ hin (hib.row (by unfold maxLen; omega) i hzl.symm) (by simp [Value.ownBlock]; omega) hok2 (by omega)) (fun r w11 h11 => ?_)
        obtain ⟨rfl, hin11, hF11⟩ := h11
        have g1 := congrArg (·.1) hget
        have g2 := congrArg (·.2.1) hget
        have g3 := congrArg (·.2.2) hget
        dsimp only at g1 g2 g3
        rw [g1, g2]
        rw [g3] at hin11
        have hc11 := hF11.cell hcell (by show ¬ b5 = gi; omega)
        refine go ?_
        exact tfin ⟨j + 1, sub ⟨rfl, rfl, rfl, rfl⟩, ⟨by omega, hin11, hprow.fr hF11 (fun b hb e => by have := hpb b hb; omega), hib.fr hF11 (by omega), Ext.te hE10 hF11 fun j hj e => by omega⟩, (by show put.length - (j + 1) < put.length - j; omega)⟩
      · obtain rfl : j = put.length := by omega
        rw [List.take_length] at hin
        refine go ?_
        refine xcall rfl rfl (told_does w10) (fun r w11 h11 => ?_)
        obtain ⟨rfl, hE11⟩ := h11
        refine go ?_
        refine xcall rfl rfl (rest_does w11 gi _ _ (hin.ext hE11) (by omega)) (fun r w12 h12 => ?_)
        obtain ⟨rfl, hE12⟩ := h12
        rw [rest_pk _ hbits]
        refine go ?_
        exact tret1 rfl rfl ⟨rfl, (hE10.t hE11).t hE12⟩
end Eng
end Go.Proofs.Ytighkjohpmlemaa
