/-
  Package huff: merge.
-/
import Derived.Test.YtighkjohpmlemaaPa
import Derived.Test.YtighkjohpmlemaaEngD
namespace Go.Proofs.Ytighkjohpmlemaa
open Go.RowKit
namespace Eng

/-- Block b is a row of ints. -/
def IB (w : World) (b : Nat) (l : List Int) : Prop := Blk w b 3 (l.map (Value.int .i64)).toArray
theorem IB.lt {w : World} {b : Nat} {l : List Int} (h : IB w b l) : b < w.heap.size := Blk.lt h
theorem IB.fr {S : Nat → Prop} {w w' : World} {b : Nat} {l : List Int} (h : IB w b l) (hf : Fr S w w') (hS : ¬ S b) : IB w' b l := Blk.fr h hf hS
theorem IB.ext {w w' : World} {b : Nat} {l : List Int} (h : IB w b l) (hf : Ext w w') : IB w' b l := Blk.ext h hf
theorem IB.dr {w : World} {b : Nat} {l : List Int} (h : IB w b l) : IB w.drew b l := h
theorem IB.row {w : World} {b : Nat} {l : List Int} (h : IB w b l) (hl : l.length ≤ maxLen) (n : Nat) (hn : n = l.length) : IRow w (.slice (some ⟨b, 0, none⟩) n n) l := by
  subst hn
  exact ⟨_, _, rfl, Nat.le_refl _, hl, fun _ => ⟨b, 0, rfl, Blk.lt h, fun j u hu => by rw [Nat.zero_add, Blk.cell h]; simpa using hu⟩⟩
theorem IB.cell {w : World} {b : Nat} {l : List Int} (h : IB w b l) {i : Nat} (hi : i < l.length) : w.cell? ⟨b, i, none⟩ = some (.int .i64 (l.getD i 0)) := by
  rw [Blk.cell h, List.getD_eq_getElem?_getD, List.getElem?_eq_getElem hi]
  simp [hi]
theorem IB.new {w : World} {b n : Nat} (h : Blk w b 3 (Array.replicate n (.int .i64 0))) : IB w b (List.replicate n 0) := by
  unfold IB
  rw [List.map_replicate, List.toArray_replicate]; exact h

section
variable {hs : List Nat} {H : World → Prop} {full : Array Oper} {K : Env → World → Prop} {rest : List Oper} {env : Env} {w : World} {d : Tmp} {dst : Option Tmp} {ty : TypeId} {pos : String} {af : Array Edge}
/-- A function's value that holds one variable. -/
theorem xmf {fn : Fn} {t : Tmp} {v : Value} (hx : evo env (.tmp t) = some v) (h : xs Try.prog isI isS hs H full K rest ((d, .func fn #[] #[v]) :: env) w) : xs Try.prog isI isS hs H full K (⟨some d, .makeFunc fn #[] #[.tmp t], ty, pos, af, none⟩ :: rest) env w := by
  refine x_gen rfl (by simp [opsOK, Op.operands, hx]) ⟨_, fun w' => ?_, h⟩
  have e := ev_of hx
  simp [execOp, e, Instr.makeFunc]
theorem xsti {t : TypeId} {x y : Operand} {g i : Nat} {l : List Int} {z : Int} (hB : IB w g l) (hx : evo env x = some (.pointer (some ⟨g, i, none⟩))) (hy : evo env y = some (.int .i64 z)) (ht : one t = true) (hi : i < l.length)
    (h : ∀ w', IB w' g (l.set i z) → Fr (· = g) w w' → xs Try.prog isI isS hs H full K rest env w') (hH : ∀ w', Fr (· = g) w w' → H w' := by intros; trivial) : xs Try.prog isI isS hs H full K (⟨none, .store t x y, ty, pos, af, none⟩ :: rest) env w := by
  refine xstb hB hx hy ht rfl (by simp; omega) (fun w' hB' hF => h w' ?_ hF) hH
  unfold IB
  rw [List.map_set, ← List.setIfInBounds_toArray]
  exact hB'
end

theorem sl_i64s : SlT 115 2 (.int .i64 0) 1 8 := slT Try.underlying115 (by kernel_rfl)

theorem take_does' (w : World) (g n leaf made : Nat) (sv uv : Value) (sm : List Int) (hB : HB w g sv uv n leaf made) (hv : IRow w sv sm) (h1 : leaf ≤ n) (h2 : n ≤ sm.length) (h3 : made ≤ sm.length) (hl : sm.length ≤ 10000) :
    Does Try.prog 75 #[.pointer (some ⟨g, 0, none⟩)] w fun r w' => r = .int .i64 (takeI n leaf made sm : Int) ∧ HB w' g sv uv n (takeL n leaf made sm) (takeM n leaf made sm) ∧ Fr (· = g) w w' := by
  refine (take_does w g n leaf made sv uv sm hB hv h1 h2 h3 hl).mono fun r w' ⟨hr, hh, hf⟩ => ⟨?_, hh, hf⟩
  rw [hr]; unfold takeI
  congr 1
  split <;> rfl

theorem Own.irow {w : World} {B : Nat} {e : TypeId} {v : Value} {l : List Int} (h : Own w B e v (l.map (Value.int .i64))) : IRow w v l := by
  have := h.row
  rw [List.length_map] at this; exact this
theorem Own.igo {w : World} {B : Nat} {e : TypeId} {v : Value} {l : List Int} (h : Own w B e v (l.map (Value.int .i64))) (h0 : 0 < l.length) : ∃ g c, v = .slice (some ⟨g, 0, none⟩) l.length c ∧ B ≤ g ∧ g < w.heap.size ∧ ∀ i, i < l.length → w.cell? ⟨g, i, none⟩ = some (.int .i64 (l.getD i 0)) := by
  obtain ⟨g, c, e, h1, h2⟩ := h.lt_of (by simpa using h0)
  rw [List.length_map] at e
  subst e
  refine ⟨g, c, rfl, h1, h2, fun i hi => ?_⟩
  obtain ⟨A, c', he, _, _, hA⟩ := h.irow
  injection he with e1 _ e2; subst e1; subst e2
  obtain ⟨b, o, e, _, hc⟩ := hA (by omega)
  injection e with e; injection e with e1 e2; subst e1; subst e2
  have := hc i (.int .i64 (l.getD i 0)) (by rw [List.getD_eq_getElem?_getD, List.getElem?_map, List.getElem?_eq_getElem hi]; rfl)
  rw [Nat.zero_add] at this; exact this

theorem one_row {w : World} {b : Nat} {t : TypeId} {x : Value} (h : Blk w b t #[x]) : Row w (.slice (some ⟨b, 0, none⟩) 1 1) 1 [x] :=
  ⟨_, _, rfl, Nat.le_refl _, by unfold maxLen; omega, fun _ => ⟨b, 0, rfl, Blk.lt h, fun j u hu => by rw [Nat.zero_add, Blk.cell h]; simpa using hu⟩⟩

structure PosI (cs : List Int) (gb gl : Nat) (bv : Value) (w0 : World) (x : Nat × Value) (w : World) : Prop where
  le : x.1 ≤ cs.length
  own : Own w (gl + 1) 3 x.2 ((posB (cs.take x.1)).map (Value.int .i64))
  box : Blk w gb 22 #[bv]
  lens : IB w gl (List.replicate cs.length 0)
  ext : Ext w0 w

structure WtI (cs S : List Int) (gb gl gh : Nat) (bv lv : Value) (w0 : World) (x : Nat × Value) (w : World) : Prop where
  le : x.1 ≤ S.length
  hb : HB w gh x.2 (.slice none 0 0) S.length 0 S.length
  own : Own w (gh + 1) 2 x.2 (((S.map (cnt cs)).take x.1).map (Value.int .i64))
  box : Blk w gb 22 #[bv]
  lens : IB w gl (List.replicate cs.length 0)
  lst : IRow w lv S
  ext : Ext w0 w

/-- k joins are made. -/
def hstate (cs S : List Int) (k : Nat) : HSt := (HSt.init (S.map (cnt cs))).run S.length k

structure MrgI (cs S : List Int) (gl : Nat) (w0 : World) (x : Nat × Value × Value × Nat × Nat) (w : World) : Prop where
  le : x.1 + 2 ≤ S.length
  hb : HB w x.2.2.2.1 x.2.1 (.slice (some ⟨x.2.2.2.2, 0, none⟩) (2 * S.length - 1) (2 * S.length - 1)) S.length (hstate cs S x.1).leaf (hstate cs S x.1).made
  own : Own w (x.2.2.2.1 + 1) 2 x.2.1 ((hstate cs S x.1).sm.map (Value.int .i64))
  nu : x.2.1.ownBlock ≠ some x.2.2.2.2
  up : IB w x.2.2.2.2 (hstate cs S x.1).up
  lens : IB w gl (List.replicate cs.length 0)
  lst : IRow w x.2.2.1 S
  lh : gl < x.2.2.2.1
  hu : x.2.2.2.1 < x.2.2.2.2
  lb : ∀ b, x.2.2.1.ownBlock = some b → b < x.2.2.2.1 ∧ b ≠ gl
  ext : Ext w0 w
  w0l : w0.heap.size ≤ gl

structure DepI (cs S : List Int) (gl gh gu gd : Nat) (sv lv : Value) (w0 : World) (k : Nat) (w : World) : Prop where
  le : k ≤ 2 * S.length - 2
  hb : HB w gh sv (.slice (some ⟨gu, 0, none⟩) (2 * S.length - 1) (2 * S.length - 1)) S.length (hstate cs S (S.length - 1)).leaf (hstate cs S (S.length - 1)).made
  up : IB w gu (hstate cs S (S.length - 1)).up
  dp : IB w gd (dto (hstate cs S (S.length - 1)).up (2 * S.length - 2) k)
  lens : IB w gl (List.replicate cs.length 0)
  lst : IRow w lv S
  ext : Ext w0 w

structure LenI (cs S : List Int) (gl gd : Nat) (lv : Value) (w0 : World) (k : Nat) (w : World) : Prop where
  le : k ≤ S.length
  dp : IB w gd (deepB (S.map (cnt cs)))
  lens : IB w gl (lgo S (deepB (S.map (cnt cs))) (List.replicate cs.length 0) k)
  lst : IRow w lv S
  ext : Ext w0 w

theorem hstate_ok {cs S : List Int} (h : 2 ≤ S.length) {k : Nat} (hk : k + 1 ≤ S.length) : HOk S.length (hstate cs S k) ∧ (hstate cs S k).sm.length = S.length + k := by
  have h0 : HOk (S.map (cnt cs)).length (HSt.init (S.map (cnt cs))) := HOk.init (by rw [List.length_map]; exact h)
  rw [List.length_map] at h0
  exact HOk.run h0 (by show (S.map (cnt cs)).length = _; rw [List.length_map]) k hk

theorem posB_take (cs : List Int) (k : Nat) (z : Int) (hz : cs[k]? = some z) : posB (cs.take (k + 1)) = if 0 < z then posB (cs.take k) ++ [(k : Int)] else posB (cs.take k) := by
  have hk : k < cs.length := (List.getElem?_eq_some_iff.1 hz).1
  unfold posB
  rw [List.length_take, List.length_take, Nat.min_eq_left (by omega), Nat.min_eq_left (by omega), List.range_succ, List.filter_append, List.map_append]
  have e1 : (List.range k).filter (fun i => decide (0 < (cs.take (k + 1)).getD i 0)) = (List.range k).filter (fun i => decide (0 < (cs.take k).getD i 0)) := by
    apply List.filter_congr
    intro i hi
    rw [List.mem_range] at hi
    rw [List.getD_eq_getElem?_getD, List.getD_eq_getElem?_getD, List.getElem?_take_of_lt (by omega), List.getElem?_take_of_lt (by omega)]
  have e2 : (cs.take (k + 1)).getD k 0 = z := by rw [List.getD_eq_getElem?_getD, List.getElem?_take_of_lt (by omega), hz]; rfl
  rw [e1]
  by_cases h : 0 < z
  · rw [if_pos h, List.filter_cons_of_pos (by rw [e2]; exact decide_eq_true h)]; simp
  · rw [if_neg h, List.filter_cons_of_neg (by rw [e2]; simpa using h)]; simp
theorem posB_le (cs : List Int) : (posB cs).length ≤ cs.length := by
  unfold posB; rw [List.length_map]; exact Nat.le_trans (List.length_filter_le _ _) (by simp)

theorem hst_sum {cs S : List Int} {k : Nat} (hS : S = ordB cs) (hk : k + 2 ≤ S.length) :
    0 ≤ (hstate cs S k).sm.getD ((hstate cs S k).i1 S.length) 0 ∧ 0 ≤ (hstate cs S k).sm.getD ((hstate cs S k).i2 S.length) 0 ∧ (hstate cs S k).sm.getD ((hstate cs S k).i1 S.length) 0 + (hstate cs S k).sm.getD ((hstate cs S k).i2 S.length) 0 ≤ isum (wts cs) := by
  subst hS
  have h := TOk.run (ws := wts cs) (by rw [wts_len]; omega) (wts_pos cs) (wts_asc cs) k (by rw [wts_len]; omega)
  have := h.1.pick_sum (by rw [h.2, wts_len]; omega)
  rw [wts_len] at this
  exact this

set_option maxRecDepth 20000 in
set_option maxHeartbeats 8000000 in
theorem merge_does (w : World) (v : Value) (cs : List Int) (hv : IRow w v cs) (hl0 : 0 < cs.length) (hl : cs.length ≤ 400) (hc : ∀ z ∈ cs, 0 ≤ z ∧ z ≤ 1073741824) :
    Does Try.prog 50 #[v] w fun r w' => ∃ gl, r = .slice (some ⟨gl, 0, none⟩) cs.length cs.length ∧ w.heap.size ≤ gl ∧ IB w' gl (mergeB cs) ∧ Ext w w' := by
  refine does1 Try.func50 rfl (by kernel_rfl) ?_
  have hrow := hv
  obtain ⟨A, c, rfl, hcc, hcm, hA⟩ := hv
  have hvb : ∀ b, (Value.slice A cs.length c).ownBlock = some b → 0 < cs.length → b < w.heap.size := by
    intro b hb h0
    obtain ⟨b', o, rfl, hlt, _⟩ := hA h0
    simp [Value.ownBlock] at hb; omega
  refine wk ?_
  refine xbox rfl (fun w1 hB1 hE1 hs1 => ?_)
  refine wk ?_
  obtain ⟨gl, hgl⟩ : ∃ gl, gl = w.heap.size + 1 := ⟨_, rfl⟩
  obtain ⟨S, hS⟩ : ∃ S, S = ordB cs := ⟨_, rfl⟩
  have hSp : S.Perm (posB cs) := by rw [hS]; exact ordB_perm cs
  have hSl : S.length ≤ cs.length := by rw [hSp.length_eq]; exact posB_le cs
  have hSm : ∀ x ∈ S, 0 ≤ x ∧ x < cs.length ∧ 0 < cnt cs x := fun x hx => posB_mem (hSp.subset hx)
  refine tscope1 (α := Nat × Value × Value × Nat × Nat) 0 rfl (fun x => [(3, .slice (some ⟨gl, 0, none⟩) cs.length cs.length), (4, x.2.2.1), (7, .pointer (some ⟨x.2.2.2.1, 0, none⟩))]) (MrgI cs S gl w) (fun x => S.length - x.1) ?_ ?_
  · rintro ⟨k, sv, lv, gh, gu⟩ w2 ⟨hk, hb, hown, hnu, hup, hlens, hlst, hlh, hhu, hlb, hE, hw0⟩
    clear hA
    dsimp only at *
    obtain ⟨hok, hsl⟩ := hstate_ok (cs := cs) (S := S) (by omega) (k := k) (by omega)
    have hps := hst_sum hS hk
    have htot := isum_wts_le cs hl hc
    have hstep : hstate cs S (k + 1) = (hstate cs S k).step S.length := rfl
    obtain ⟨x, hx⟩ : ∃ x, x = hstate cs S k := ⟨_, rfl⟩
    rw [← hx] at hb hown hup hok hsl hps hstep
    obtain ⟨a, ha⟩ : ∃ a, a = x.i1 S.length := ⟨_, rfl⟩
    obtain ⟨b, hb'⟩ : ∃ b, b = x.i2 S.length := ⟨_, rfl⟩
    rw [← ha, ← hb'] at hps
    obtain ⟨za, hza⟩ : ∃ z, z = x.sm.getD a 0 := ⟨_, rfl⟩
    obtain ⟨zb, hzb⟩ : ∃ z, z = x.sm.getD b 0 := ⟨_, rfl⟩
    rw [← hza, ← hzb] at hps
    have hsm' : (x.step S.length).sm = x.sm ++ [za + zb] := by rw [hza, hzb, ha, hb']; rfl
    have hup' : (x.step S.length).up = (x.up.set a ((S.length + k : Nat) : Int)).set b ((S.length + k : Nat) : Int) := by rw [ha, hb', ← hsl]; rfl
    have olf := hok.lf; have omd := hok.md; have onm := hok.nm; have osum := hok.sum; have oul := hok.ul
    have t1 := take_cases S.length x.leaf x.made x.sm olf omd (by omega)
    rw [show takeI S.length x.leaf x.made x.sm = a from ha.symm, show takeL S.length x.leaf x.made x.sm = x.l1 S.length from rfl, show takeM S.length x.leaf x.made x.sm = x.m1 S.length from rfl] at t1
    have t2 := take_cases S.length (x.l1 S.length) (x.m1 S.length) x.sm (by omega) (by omega) (by omega)
    rw [show takeI S.length (x.l1 S.length) (x.m1 S.length) x.sm = b from hb'.symm] at t2
    have hab : a < S.length + k ∧ b < S.length + k := by omega
    have hns : sv.ownBlock ≠ some gh := fun e => by have := (hown.blk e).1; omega
    refine wk ?_
    refine xcall (S := fun r w' => r = .int .i64 (a : Int) ∧ HB w' gh sv (.slice (some ⟨gu, 0, none⟩) (2 * S.length - 1) (2 * S.length - 1)) S.length (x.l1 S.length) (x.m1 S.length) ∧ Fr (· = gh) w2 w') rfl rfl (by rw [ha]; exact take_does' w2 gh S.length x.leaf x.made sv _ x.sm hb hown.irow olf (by omega) omd (by omega)) ?_
    rintro _ w3 ⟨rfl, hb3, hF3⟩
    have hown3 := hown.fr hF3 fun c hc e => hns (by rw [hc, e])
    refine wk ?_
    refine xcall (S := fun r w' => r = .int .i64 (b : Int) ∧ HB w' gh sv (.slice (some ⟨gu, 0, none⟩) (2 * S.length - 1) (2 * S.length - 1)) S.length (x.step S.length).leaf (x.step S.length).made ∧ Fr (· = gh) w3 w') rfl rfl (by rw [hb']; exact take_does' w3 gh S.length (x.l1 S.length) (x.m1 S.length) sv _ x.sm hb3 hown3.irow (by omega) (by omega) (by omega) (by omega)) ?_
    rintro _ w4 ⟨rfl, hb4, hF4⟩
    have hown4 := hown3.fr hF4 fun c hc e => hns (by rw [hc, e])
    have hF24 : Fr (· = gh) w2 w4 := hF3.t hF4
    have hup4 := hup.fr hF24 (by show ¬ gu = gh; omega)
    have hlens4 := hlens.fr hF24 (by show ¬ gl = gh; omega)
    have hlst4 := hlst.fr hF24 fun c hc e => by have := hlb c hc; omega
    obtain ⟨gs, cS, hsv, hgs1, hgs2, hcells⟩ := hown4.igo (by omega)
    rw [hsl] at hsv hcells
    subst hsv
    have hgu : gs ≠ gu := fun e => hnu (by rw [e]; rfl)
    have c40 : w4.cell? ⟨gh, 0, none⟩ = some (.slice (some ⟨gs, 0, none⟩) (S.length + k) cS) := by rw [Blk.cell hb4]; rfl
    have c41 : w4.cell? ⟨gh, 1, none⟩ = some (.slice (some ⟨gu, 0, none⟩) (2 * S.length - 1) (2 * S.length - 1)) := by rw [Blk.cell hb4]; rfl
    refine wk ?_
    refine xsti hup4 rfl rfl rfl (by omega) (fun w5 hup5 hF5 => ?_)
    refine wk ?_
    refine xsti hup5 rfl rfl rfl (by rw [List.length_set]; omega) (fun w6 hup6 hF6 => ?_)
    rw [Nat.zero_add, Nat.zero_add, ← hup'] at hup6
    have hF46 : Fr (· = gu) w4 w6 := hF5.t hF6
    have hb6 : HB w6 gh _ _ _ _ _ := Blk.fr hb4 hF46 (by show ¬ gh = gu; omega)
    have hown6 := hown4.fr hF46 fun c hc e => by
      have : gs = c := by simpa [Value.ownBlock] using hc
      omega
    have c60 : w6.cell? ⟨gh, 0, none⟩ = some (.slice (some ⟨gs, 0, none⟩) (S.length + k) cS) := by rw [Blk.cell hb6]; rfl
    have c6a : w6.cell? ⟨gs, 0 + a, none⟩ = some (.int .i64 za) := by rw [Nat.zero_add, hza]; exact hF46.cell (hcells a hab.1) hgu
    have c6b : w6.cell? ⟨gs, 0 + b, none⟩ = some (.int .i64 zb) := by rw [Nat.zero_add, hzb]; exact hF46.cell (hcells b hab.2) hgu
    refine wk ?_
    refine tdrawC 14 [92] (fun w' => w'.cell? ⟨gh, 0, none⟩ = some (.slice (some ⟨gs, 0, none⟩) (S.length + k) cS)) (by kernel_rfl) (by decide +kernel) c60 ?_
    repeat' (first | refine xp rfl ?_ | refine xnil ?_ | refine xldh rfl rfl (fun _ h => h) ?_ | refine wk1 ?_ | fail)
    refine xbs sl_i64s rfl rfl (by omega) (by omega) (fun u hu => by rw [List.mem_singleton.1 hu]; rfl) (fun w7 hB7 hE7 hs7 => ?_) (fun w' he => he.cell c60)
    have hE67 : Ext w6 w7 := (Fr.drew _ _).te hE7
    refine xnil ?_
    have hlen : (x.sm.map (Value.int .i64)).length = S.length + k := by rw [List.length_map, hsl]
    refine xap sl_i64s rfl rfl (hown6.ext hE67) rfl (news := [.int .i64 (za + zb)]) (one_row hB7) rfl (fun u hu => by rw [List.mem_singleton.1 hu]; rfl) (by unfold maxLen; rw [hlen]; omega) (by rw [hlen]; omega) (by have := hE67.size; have := hF46.size; have := hF24.size; omega) (fun v8 w8 hown8 hF8 hv8 => ?_)
    have hF8' : Fr (· = gs) w7 w8 := hF8.mono fun j _ hj => by simpa [Value.ownBlock, eq_comm] using hj
    have hb8 := (Blk.ext hb6 hE67).fr hF8' (by show ¬ gh = gs; omega)
    rw [show x.sm.map (Value.int .i64) ++ [Value.int .i64 (za + zb)] = (x.step S.length).sm.map (Value.int .i64) from by rw [hsm']; simp] at hown8
    have hl8 : (x.step S.length).sm.length = S.length + k + 1 := by rw [hsm']; simp [hsl]
    have hnu8 : v8.ownBlock ≠ some gu := fun e => by
      rcases hv8 with h | h
      · rw [e] at h
        have : gu = gs := by simpa [Value.ownBlock] using h
        omega
      · rw [e] at h
        have : gu = w7.heap.size := by simpa using h
        have := hup6.lt; have := hE67.size; omega
    obtain ⟨g9, c9, hv9, hg91, hg92, hcells9⟩ := hown8.igo (by omega)
    rw [hl8] at hv9
    subst hv9
    refine wk ?_
    refine xstb hb8 rfl rfl rfl rfl rfl (fun w9 hb9 hF9 => ?_)
    have hb9 : HB w9 gh (.slice (some ⟨g9, 0, none⟩) (S.length + k + 1) c9) (.slice (some ⟨gu, 0, none⟩) (2 * S.length - 1) (2 * S.length - 1)) S.length (x.step S.length).leaf (x.step S.length).made := hb9
    have hown9 := hown8.fr hF9 fun c hc e => by have := (hown8.blk hc).1; omega
    have hF69 : Fr (fun j => j = gs ∨ j = gh) w6 w9 := (hE67.fr.t (hF8'.mono fun _ _ h => .inl h)).t (hF9.mono fun _ _ h => .inr h)
    have hF29 : Fr (fun j => j = gh ∨ j = gu ∨ j = gs) w2 w9 := ((hF24.mono fun _ _ h => .inl h).t (hF46.mono fun _ _ h => .inr (.inl h))).t (hF69.mono fun _ _ h => by omega)
    have hup9 := hup6.fr hF69 (by omega)
    have hlens9 := hlens.fr hF29 (by omega)
    have hlst9 := hlst.fr hF29 fun c hc e => by have := hlb c hc; omega
    have hE9 : Ext w w9 := Ext.te hE hF29 fun j hj e => by omega
    have c90 : w9.cell? ⟨gh, 0, none⟩ = some (.slice (some ⟨g9, 0, none⟩) (S.length + k + 1) c9) := by rw [Blk.cell hb9]; rfl
    have c91 : w9.cell? ⟨gh, 1, none⟩ = some (.slice (some ⟨gu, 0, none⟩) (2 * S.length - 1) (2 * S.length - 1)) := by rw [Blk.cell hb9]; rfl
    by_cases hmore : k + 3 ≤ S.length
    · refine wk ?_
      refine tgoto rfl ⟨_, (by show S.length - (k + 1) < S.length - k; omega), rfl, (k + 1, _, lv, gh, gu), sub ⟨rfl, rfl, rfl⟩, ⟨by dsimp only; omega, ?_, ?_, hnu8, ?_, hlens9, hlst9, hlh, hhu, hlb, hE9, hw0⟩, rfl⟩
      · dsimp only; rw [hstep]; exact hb9
      · dsimp only; rw [hstep]; exact hown9
      · dsimp only; rw [hstep]; exact hup9
    · have hkk : S.length - 1 = k + 1 := by omega
      have hst : hstate cs S (S.length - 1) = x.step S.length := by rw [hkk]; exact hstep
      have hok2 : HOk S.length (x.step S.length) := hok.step (by omega)
      have hwl : (S.map (cnt cs)).length = S.length := by simp
      have hdp : deepB (S.map (cnt cs)) = dto (x.step S.length).up (2 * S.length - 2) (2 * S.length - 2) := by
        rw [← hst]; unfold deepB hstate; rw [hwl]
      obtain ⟨y, hy⟩ : ∃ y, y = x.step S.length := ⟨_, rfl⟩
      rw [← hy] at hb9 hup9 hok2 hdp
      have yl : y.leaf + y.made = 3 * S.length - 2 ∧ y.leaf ≤ S.length ∧ y.made ≤ 2 * S.length - 1 ∧ y.up.length = 2 * S.length - 1 ∧ y.sm.length = 2 * S.length - 1 := by
        have h1 := hok2.sum; have h2 := hok2.lf; have h3 := hok2.md; have h4 := hok2.ul; rw [← hy] at hl8; omega
      have ylast : y.made ≤ 2 * S.length - 2 := by
        have : (x.step S.length).made = takeM S.length (x.l1 S.length) (x.m1 S.length) x.sm := rfl
        rw [← hy] at this; omega
      have yup : ∀ i, i < 2 * S.length - 2 → (i : Int) < y.up.getD i 0 ∧ y.up.getD i 0 ≤ 2 * S.length - 2 := fun i hi => by
        have := hok2.upr i (by omega); omega
      have hS2 : 2 ≤ S.length := by omega
      refine wk ?_
      clear t1 t2 hps htot hab olf omd onm osum oul hlen hl8 hgs1 hgs2 hg91 hg92 hmore hkk hza hzb ha hb' hsl
      refine xmk sl_ints rfl rfl rfl (by omega) (by omega) (by omega) (fun w10 hB10 hE10 hs10 => ?_)
      rw [Int.toNat_natCast] at hB10 ⊢
      obtain ⟨gd, hgd⟩ : ∃ gd, gd = w9.heap.size := ⟨_, rfl⟩
      rw [← hgd] at hB10 hs10 ⊢
      obtain ⟨m, hm⟩ : ∃ m, m = 2 * S.length - 2 := ⟨_, rfl⟩
      have hm1 : 2 * S.length - 1 = m + 1 := by omega
      rw [hm1] at hB10 ⊢
      rw [← hm] at yup hdp ylast
      have hgu9 := hup9.lt
      have hgl9 := hlens9.lt
      have hgh9 := Blk.lt hb9
      refine wk ?_
      refine tloop (α := Nat) (fun j => [(3, .slice (some ⟨gl, 0, none⟩) cs.length cs.length), (4, lv), (7, .pointer (some ⟨gh, 0, none⟩)), (12, .slice (some ⟨gd, 0, none⟩) (m + 1) (m + 1)), (13, .int .i64 ((m : Int) - 1 - j))])
        (fun j w' => j ≤ m ∧ IB w' gd (dto y.up m j) ∧ Fr (· = gd) w10 w') (fun j => m - j) 0 (sub ⟨rfl, rfl, rfl, rfl, ieq (by omega)⟩) ⟨Nat.zero_le _, IB.new hB10, Fr.refl _ _⟩ ?_
      rintro j w11 ⟨hjm, hD, hF11⟩
      have hF911 : Fr (· = gd) w9 w11 := Fr.t hE10.fr hF11
      have hup11 := hup9.fr hF911 (by show ¬ gu = gd; omega)
      have hb11 := Blk.fr hb9 hF911 (by show ¬ gh = gd; omega)
      by_cases hjlt : j < m
      · obtain ⟨i, hi⟩ : ∃ i, i = m - (j + 1) := ⟨_, rfl⟩
        have yi := yup i (by omega)
        obtain ⟨u, hu⟩ := Int.eq_ofNat_of_zero_le (show 0 ≤ y.up.getD i 0 by omega)
        have c11 : w11.cell? ⟨gh, 1, none⟩ = some (.slice (some ⟨gu, 0, none⟩) (m + 1) (m + 1)) := by rw [Blk.cell hb11, ← hm1]; rfl
        have cu : w11.cell? ⟨gu, i, none⟩ = some (.int .i64 (u : Int)) := by rw [← hu]; exact hup11.cell (by omega)
        have cd : w11.cell? ⟨gd, u, none⟩ = some (.int .i64 ((dto y.up m j).getD u 0)) := hD.cell (by rw [length_dto]; omega)
        have hdl := dto_le y.up m j u
        refine wk ?_
        refine xisq i i rfl rfl rfl (by omega) (by omega) (by omega) ?_
        repeat' (first | refine xp rfl ?_ | refine xnil ?_ | refine xisq u u rfl rfl rfl rfl (by omega) (by omega) ?_ | refine wk1 ?_ | fail)
        refine xisq i i rfl rfl rfl (by omega) (by omega) (by omega) ?_
        refine xsti hD rfl rfl rfl (by rw [length_dto]; omega) (fun w12 hD12 hF12 => ?_)
        refine wk ?_
        refine tfin ⟨j + 1, sub ⟨rfl, rfl, rfl, rfl, ieq (by omega)⟩, ⟨by omega, ?_, hF11.t hF12⟩, (by show m - (j + 1) < m - j; omega)⟩
        have e : dto y.up m (j + 1) = (dto y.up m j).set i ((dto y.up m j).getD u 0 + 1) := by
          show (dto y.up m j).set (m - (j + 1)) ((dto y.up m j).getD (y.up.getD (m - (j + 1)) 0).toNat 0 + 1) = _
          rw [← hi, hu]; rfl
        rw [e]; exact hD12
      · obtain rfl : j = m := by omega
        rw [← hdp] at hD
        have hlens11 := hlens9.fr hF911 (by show ¬ gl = gd; omega)
        have hlst11 := hlst9.fr hF911 fun c hc e => by have := hlb c hc; omega
        obtain ⟨A4, c4, hlv4, hc41, hc42, hA4⟩ := id hlst11
        subst hlv4
        have hE11 : Ext w w11 := Ext.te hE9 hF911 fun j hj e => by have := hE9.size; omega
        have hdl : (deepB (S.map (cnt cs))).length = j + 1 := by rw [hdp, length_dto]
        clear yup ylast yl hm1 hs10
        refine wk ?_
        refine tloop (α := Nat) (fun q => [(3, .slice (some ⟨gl, 0, none⟩) cs.length cs.length), (12, .slice (some ⟨gd, 0, none⟩) (j + 1) (j + 1)), (137, .slice A4 S.length c4), (138, .int .i64 (S.length : Int)), (139, .int .i64 (q : Int))])
          (fun q w' => q ≤ S.length ∧ IB w' gl (lgo S (deepB (S.map (cnt cs))) (List.replicate cs.length 0) q) ∧ Fr (· = gl) w11 w') (fun q => S.length - q) 0 (sub ⟨rfl, rfl, rfl, rfl, rfl⟩) ⟨Nat.zero_le _, hlens11, Fr.refl _ _⟩ ?_
        rintro q w12 ⟨hq, hL, hF12⟩
        by_cases hqlt : q < S.length
        · obtain ⟨b4, o4, z, rfl, hb4', hzk, hcell, _⟩ := at_row hA4 hqlt
          clear hA4
          have hzz := hSm z (List.mem_of_getElem? hzk)
          have hb4l : b4 ≠ gl := fun e => by have := hlb b4 rfl; omega
          have c12 := hF12.cell hcell hb4l
          have cdq : w12.cell? ⟨gd, 0 + q, none⟩ = some (.int .i64 ((deepB (S.map (cnt cs))).getD q 0)) := by
            rw [Nat.zero_add]; exact hF12.cell (hD.cell (by rw [hdl]; omega)) (by show ¬ gd = gl; omega)
          refine wk ?_
          refine xisq z.toNat z.toNat rfl rfl rfl (by omega) (by omega) (by omega) ?_
          refine xsti hL rfl rfl rfl (by rw [length_lgo, List.length_replicate]; omega) (fun w13 hL13 hF13 => ?_)
          refine wk ?_
          refine tfin ⟨q + 1, sub ⟨rfl, rfl, rfl, rfl, rfl⟩, ⟨by omega, ?_, hF12.t hF13⟩, (by show S.length - (q + 1) < S.length - q; omega)⟩
          have e : S.getD q 0 = z := by rw [List.getD_eq_getElem?_getD, hzk]; rfl
          show IB w13 gl ((lgo S _ _ q).set (S.getD q 0).toNat _)
          rw [e]; exact hL13
        · obtain rfl : q = S.length := by omega
          refine wk ?_
          refine tret1 rfl rfl ⟨gl, rfl, by omega, ?_, Ext.te hE11 hF12 fun j hj e => by omega⟩
          have e : mergeB cs = lgo S (deepB (S.map (cnt cs))) (List.replicate cs.length 0) S.length := by
            rw [hS, mergeB_big (by rw [← hS]; omega)]; rfl
          rw [e]; exact hL
  · intro H
    have cb : w1.cell? ⟨w.heap.size, 0, none⟩ = some (.slice A cs.length c) := by rw [Blk.cell hB1]; rfl
    refine wk ?_
    refine xmk sl_ints rfl rfl rfl (by omega) (by rw [Int.toNat_natCast]; omega) (by omega) (fun w2 hB2 hE2 hs2 => ?_)
    rw [Int.toNat_natCast] at hB2
    rw [Int.toNat_natCast]
    rw [hs1, ← hgl] at hB2 hs2
    rw [hs1, ← hgl]
    have cb2 := hE2.cell cb
    have hE02 : Ext w w2 := Fr.t hE1 hE2
    refine wk ?_
    refine tloop (α := Nat × Value) (fun x => [(1, .pointer (some ⟨w.heap.size, 0, none⟩)), (3, .slice (some ⟨gl, 0, none⟩) cs.length cs.length), (4, x.2), (19, .slice A cs.length c), (20, .int .i64 (cs.length : Int)), (21, .int .i64 (x.1 : Int))]) (PosI cs w.heap.size gl (.slice A cs.length c) w) (fun x => cs.length - x.1) (0, .slice none 0 0) (sub ⟨rfl, rfl, rfl, rfl, rfl, rfl⟩) ⟨Nat.zero_le _, by simpa [posB] using Own.nil w2 (gl + 1) 3, hB1.ext hE2, IB.new hB2, hE02⟩ ?_
    rintro ⟨k, lv⟩ w3 ⟨hk, hown, hbox, hlens, hE3⟩
    dsimp only at *
    have hsz := hlens.lt
    by_cases hlt : k < cs.length
    · obtain ⟨b, o, z, rfl, hb, hzk, hcell, hdrop⟩ := at_row hA hlt
      have hcell3 := hE3.cell hcell
      have hpt := posB_take cs k z hzk
      by_cases h0 : 0 < z
      · rw [if_pos h0] at hpt
        refine wk ?_
        refine xbs sl_ints rfl rfl (by omega) (by omega) (fun u hu => by rw [List.mem_singleton.1 hu]; rfl) (fun w4 hB4 hE4 hs4 => ?_)
        refine wk ?_
        have hlen := posB_le (cs.take k)
        rw [List.length_take] at hlen
        refine xap sl_ints rfl rfl (hown.ext hE4) rfl (news := [.int .i64 (k : Int)]) ⟨_, _, rfl, Nat.le_refl _, by unfold maxLen; omega, fun _ => ⟨_, 0, rfl, Blk.lt hB4, fun j u hu => by rw [Nat.zero_add, Blk.cell hB4]; simpa using hu⟩⟩ rfl (fun u hu => by rw [List.mem_singleton.1 hu]; rfl) (by unfold maxLen; simp; omega) (by simp; omega) (by omega) (fun v5 w5 hown5 hF5 hv5 => ?_)
        refine wk ?_
        have hns : ∀ j, j < gl + 1 → lv.ownBlock ≠ some j := fun j hj e => by have := (hown.blk e).1; omega
        exact tfin ⟨(k + 1, v5), sub ⟨rfl, rfl, rfl, rfl, rfl, rfl⟩, ⟨by dsimp only; omega, by dsimp only; rw [hpt]; simpa using hown5, (hbox.ext hE4).fr hF5 (hns _ (by omega)), (hlens.ext hE4).fr hF5 (hns _ (by omega)), Ext.te (Fr.t hE3 hE4) hF5 fun j hj => hns j (by omega)⟩, by dsimp only; omega⟩
      · rw [if_neg h0] at hpt
        refine wk ?_
        exact tfin ⟨(k + 1, lv), sub ⟨rfl, rfl, rfl, rfl, rfl, rfl⟩, ⟨by dsimp only; omega, by dsimp only; rw [hpt]; exact hown, hbox, hlens, hE3⟩, by dsimp only; omega⟩
    · obtain rfl : k = cs.length := by omega
      rw [List.take_length] at hown
      have hgb : ∀ b, lv.ownBlock = some b → gl < b ∧ b < w3.heap.size := fun b hb => ⟨(hown.blk hb).1, (hown.blk hb).2⟩
      have hbv : ∀ g, lv.ownBlock = some g → (Value.slice A cs.length c).ownBlock ≠ some g := fun g hg e => by
        have := hvb g e hl0; have := hgb g hg; omega
      refine wk ?_
      refine xmf rfl ?_
      refine xcall (S := fun _ w' => IRow w' lv S ∧ Fr (fun b => lv.ownBlock = some b) w3 w') rfl rfl ((sortStable_does w3 (gl + 1) lv _ _ (fun x => 0 ≤ x ∧ x < cs.length) (cnt cs) (posB cs) hown (by have := posB_le cs; omega) (fun g hg => ⟨rfl, fun w' hf x y hx hy => ?_⟩) (fun x hx => by have := posB_mem hx; omega) (posB_stb cs _)).mono fun r w' ⟨S', h1, h2, h3, h4⟩ => ?_) ?_
      · have hh := hgb g hg
        have hbw : w'.cell? ⟨w.heap.size, 0, none⟩ = some (.slice A cs.length c) := hf.cell (by rw [Blk.cell hbox]; rfl) (by show ¬ w.heap.size = g; omega)
        exact comp_does w' w.heap.size _ cs hbw ((hrow.ext hE3).fr hf fun b hb e => hbv g hg (by rw [hb, e])) x y hx hy
      · have : S' = S := by rw [hS]; exact ordB_unique h1 h2
        subst this
        exact ⟨h3, h4⟩
      rintro _ w4 ⟨hlst, hF4⟩
      have hns : ∀ j, j ≤ gl → lv.ownBlock ≠ some j := fun j hj e => by have := hgb j e; omega
      have hbox4 := hbox.fr hF4 (hns _ (by omega))
      have hlens4 := hlens.fr hF4 (hns _ (by omega))
      have hE4 : Ext w w4 := Ext.te hE3 hF4 fun j hj => hns j (by omega)
      obtain ⟨A2, c2, rfl, hcc2, hcm2, hA2⟩ := id hlst
      have hsz4 : w3.heap.size ≤ w4.heap.size := hF4.size
      by_cases hn0 : S.length = 0
      · refine wk ?_
        refine tret1 rfl rfl ⟨gl, rfl, by omega, ?_, hE4⟩
        have : mergeB cs = List.replicate cs.length 0 := by unfold mergeB; rw [← hS]; simp [hn0]
        rw [this]; exact hlens4
      by_cases hn1 : S.length = 1
      · obtain ⟨b, o, z, rfl, hb, hzk, hcell, hdrop⟩ := at_row hA2 (show 0 < S.length by omega)
        have hzz := hSm z (List.mem_of_getElem? hzk)
        refine wk ?_
        refine xisq 0 (o + 0) rfl rfl rfl rfl rfl (by omega) ?_
        refine wk ?_
        refine xisq z.toNat z.toNat rfl rfl rfl (by omega) (by omega) (by omega) ?_
        refine xsti hlens4 rfl rfl rfl (by rw [List.length_replicate]; omega) (fun w5 hB5 hF5 => ?_)
        refine wk ?_
        refine tret1 rfl rfl ⟨gl, rfl, by omega, ?_, Ext.te hE4 hF5 fun j hj => by omega⟩
        have : mergeB cs = (List.replicate cs.length 0).set z.toNat 1 := by
          unfold mergeB
          rw [← hS]
          have e : S.getD 0 0 = z := by rw [List.getD_eq_getElem?_getD, hzk]; rfl
          simp only [hn1, e]
          simp
        rw [this]; exact hB5
      · have hn2 : 2 ≤ S.length := by omega
        refine wk ?_
        refine xbd (cells := #[.slice none 0 0, .slice none 0 0, .int .i64 S.length, .int .i64 0, .int .i64 S.length]) rfl (by kernel_rfl) ?_
        refine xalloc (z := .agg #[.slice none 0 0, .slice none 0 0, .int .i64 0, .int .i64 0, .int .i64 0]) (by kernel_rfl) (fun w5 hB5 hE5 hs5 => ?_)
        obtain ⟨gh, hgh⟩ : ∃ gh, gh = w4.heap.size := ⟨_, rfl⟩
        rw [← hgh] at hB5 hs5 ⊢
        refine xsta hB5 rfl rfl rfl rfl (by simp [Value.oneCell']) (fun w6 hB6 hF6 => ?_)
        have hE46 : Ext w4 w6 := Ext.te hE5 hF6 fun j hj e => by omega
        have hlv : ∀ b, (Value.slice A2 S.length c2).ownBlock = some b → b < gh := fun b hb => by have := hgb b hb; omega
        refine wk ?_
        refine tloop (α := Nat × Value) (fun x => [(1, .pointer (some ⟨w.heap.size, 0, none⟩)), (3, .slice (some ⟨gl, 0, none⟩) cs.length cs.length), (4, .slice A2 S.length c2), (7, .pointer (some ⟨gh, 0, none⟩)), (53, .slice A2 S.length c2), (54, .int .i64 (S.length : Int)), (55, .int .i64 (x.1 : Int))]) (WtI cs S w.heap.size gl gh (.slice A cs.length c) (.slice A2 S.length c2) w) (fun x => S.length - x.1) (0, .slice none 0 0) (sub ⟨rfl, rfl, rfl, rfl, rfl, rfl, rfl⟩) ⟨Nat.zero_le _, hB6, by simpa using Own.nil w6 (gh + 1) 2, hbox4.ext hE46, hlens4.ext hE46, hlst.ext hE46, Fr.t hE4 hE46⟩ ?_
        rintro ⟨k, sv⟩ w7 ⟨hk, hhb, hown7, hbox7, hlens7, hlst7, hE7⟩
        dsimp only at *
        have hsh : gh < w7.heap.size := Blk.lt hhb
        by_cases hlt : k < S.length
        · obtain ⟨A3, c3, he3, _, _, hA3⟩ := id hlst7
          injection he3 with e1 _ e2; subst e1; subst e2
          obtain ⟨b, o, z, rfl, hb, hzk, hcell, hdrop⟩ := at_row hA3 hlt
          have hzz := hSm z (List.mem_of_getElem? hzk)
          obtain ⟨i, rfl⟩ := Int.eq_ofNat_of_zero_le hzz.1
          obtain ⟨b', o', y, rfl, hb', hyk, hcell', _⟩ := at_row hA (show i < cs.length by omega)
          have hcell7 := hE7.cell hcell'
          have hcb7 : w7.cell? ⟨w.heap.size, 0, none⟩ = some (.slice (some ⟨b', o', none⟩) cs.length c) := by rw [Blk.cell hbox7]; rfl
          have hcs7 : w7.cell? ⟨gh, 0, none⟩ = some sv := by rw [Blk.cell hhb]; rfl
          refine wk ?_
          refine tdrawC 7 [60] (fun w' => w'.cell? ⟨gh, 0, none⟩ = some sv) (by kernel_rfl) (by decide +kernel) hcs7 ?_
          repeat' (first | refine xp rfl ?_ | refine xnil ?_ | refine xldh rfl rfl (fun _ h => h) ?_ | refine wk1 ?_ | fail)
          refine xbs sl_i64s rfl rfl (by omega) (by omega) (fun u hu => by rw [List.mem_singleton.1 hu]; rfl) (fun w8 hB8 hE8 hs8 => ?_) (fun w' he => he.cell hcs7)
          have hE78 : Ext w7 w8 := (Fr.drew _ _).te hE8
          have hlen : (((S.map (cnt cs)).take k).map (Value.int .i64)).length = k := by simp; omega
          refine xnil ?_
          refine xap sl_i64s rfl rfl (hown7.ext hE78) rfl (news := [.int .i64 y]) (one_row hB8) rfl (fun u hu => by rw [List.mem_singleton.1 hu]; rfl) (by unfold maxLen; rw [hlen]; omega) (by rw [hlen]; omega) (by have := hE78.size; omega) (fun v9 w9 hown9 hF9 hv9 => ?_)
          have hns : ∀ j, j < gh + 1 → sv.ownBlock ≠ some j := fun j hj e => by have := (hown7.blk e).1; omega
          have hhb9 := (Blk.ext hhb hE78).fr hF9 (hns gh (by omega))
          refine wk ?_
          refine xstb hhb9 rfl rfl rfl (by obtain ⟨A9, c9, e9, _⟩ := hown9.form; rw [e9]; rfl) rfl (fun w10 hB10 hF10 => ?_)
          refine wk ?_
          have hF7 : ∀ j, j < gh → ¬ (j = gh) := fun j hj => by omega
          have hE710 : Fr (fun b => sv.ownBlock = some b ∨ b = gh) w7 w10 := (hE78.fr.t (hF9.mono fun _ _ h => .inl h)).t (hF10.mono fun _ _ h => .inr h)
          have hn2 : ∀ j, j < gh → ¬ (sv.ownBlock = some j ∨ j = gh) := fun j hj hh => by rcases hh with hh | hh; exact hns j (by omega) hh; omega
          have htk : ((S.map (cnt cs)).take (k + 1)).map (Value.int .i64) = ((S.map (cnt cs)).take k).map (Value.int .i64) ++ [.int .i64 y] := by
            rw [List.take_succ_eq_append_getElem (by simpa using hlt), List.map_append]
            congr 1
            simp only [List.map_cons, List.map_nil, List.getElem_map]
            have e1 : S[k] = (i : Int) := by rw [List.getElem?_eq_getElem hlt] at hzk; injection hzk
            rw [e1]
            unfold cnt
            rw [Int.toNat_natCast, List.getD_eq_getElem?_getD, hyk]; rfl
          exact tfin ⟨(k + 1, v9), sub ⟨rfl, rfl, rfl, rfl, rfl, rfl, rfl⟩, ⟨by dsimp only; omega, hB10, by dsimp only; rw [htk]; exact hown9.fr hF10 fun b hb e => by have := (hown9.blk hb).1; omega, hbox7.fr hE710 (hn2 _ (by omega)), hlens7.fr hE710 (hn2 _ (by omega)), hlst7.fr hE710 (fun b hb => hn2 b (hlv b hb)), Ext.te hE7 hE710 fun j hj => hn2 j (by omega)⟩, by dsimp only; omega⟩
        · obtain rfl : k = S.length := by omega
          refine wk ?_
          refine xmk sl_ints rfl rfl rfl (by omega) (by omega) (by omega) (fun w8 hB8 hE8 hs8 => ?_)
          have hnn : (2 * (S.length : Int) - 1).toNat = 2 * S.length - 1 := by omega
          rw [hnn] at hB8 ⊢
          refine wk ?_
          have hhb8 := Blk.ext hhb hE8
          refine xstb hhb8 rfl rfl rfl rfl rfl (fun w9 hB9 hF9 => ?_)
          refine wk ?_
          refine tlabel ?_
          have hF79 : Fr (· = gh) w7 w9 := Fr.t (Ext.fr hE8) hF9
          have hws : (S.map (cnt cs)).take S.length = S.map (cnt cs) := List.take_of_length_le (by simp)
          rw [hws] at hown7
          refine tweak (H (0, sv, .slice A2 S.length c2, gh, w7.heap.size) w9 ⟨by dsimp only; omega, ?_, ?_, ?_, ?_, ?_, ?_, ?_, ?_, ?_, ?_, ?_⟩) (sub ⟨rfl, rfl, rfl⟩)
          · have e1 : (hstate cs S 0).leaf = 0 := rfl
            have e2 : (hstate cs S 0).made = S.length := by simp [hstate, HSt.run, HSt.init]
            show HB w9 gh sv _ S.length (hstate cs S 0).leaf (hstate cs S 0).made
            rw [e1, e2]; exact hB9
          · exact hown7.fr hF79 fun b hb e => by have := (hown7.blk hb).1; omega
          · intro e; have := (hown7.blk e).2; dsimp only at this; omega
          · have : IB w9 w7.heap.size (List.replicate (2 * S.length - 1) 0) := (IB.new hB8).fr hF9 (by show ¬ w7.heap.size = gh; omega)
            simpa [hstate, HSt.run, HSt.init] using this
          · exact hlens7.fr hF79 (by show ¬ gl = gh; omega)
          · exact hlst7.fr hF79 fun b hb e => by have := hlv b hb; omega
          · show gl < gh; omega
          · show gh < w7.heap.size; omega
          · intro b hb; exact ⟨hlv b hb, by have := hgb b hb; omega⟩
          · exact Ext.te hE7 hF79 fun j hj e => by omega
          · omega
end Eng
end Go.Proofs.Ytighkjohpmlemaa
