/-
  A literal of bytes, marked; the examples of law 13 (told).
-/
import Derived.Test.YtighkjohpmlemaaPl
namespace Go.Proofs.Ytighkjohpmlemaa
open Go.RowKit
namespace Eng

section
variable {hs : List Nat} {H : World → Prop} {full : Array Oper} {K : Env → World → Prop} {rest : List Oper} {env : Env} {w : World} {d : Tmp} {ty : TypeId} {pos : String} {af : Array Edge}

theorem freeze_cell {w : World} {g n : Nat} {t : TypeId} {cs : Array Value} (hB : Blk w g t cs) (i : Nat) : (w.freeze ⟨g, n, none⟩ 1).cell? ⟨g, i, none⟩ = cs[i]? := by
  unfold Blk at hB
  simp [World.freeze, World.cell?, Array.getElem?_modify, hB]
theorem freeze_fr {w : World} {g n : Nat} : Fr (· = g) w (w.freeze ⟨g, n, none⟩ 1) :=
  ⟨rfl, rfl, rfl, by simp [World.freeze], fun k hk hn => by
    have hn' : ¬ g = k := fun e => hn e.symm
    simp [World.freeze, Array.getElem?_modify, hn']⟩

/-- Bytes of a literal, marked as a string's. -/
theorem xcvb {x : Operand} {g n c : Nat} {cs : Array Value} (hB : Blk w g 5 cs) (hx : evo env x = some (.slice (some ⟨g, 0, none⟩) n c))
    (h : ∀ w', (∀ i, w'.cell? ⟨g, i, none⟩ = cs[i]?) → Fr (· = g) w w' → w'.heap.size = w.heap.size → xs Try.prog isI isS hs H full K rest ((d, .slice (some ⟨g, 0, none⟩) n c) :: env) w') (hH : ∀ w', Fr (· = g) w w' → H w' := by intros; trivial) :
    xs Try.prog isI isS hs H full K (⟨some d, .convert 23 23 x, ty, pos, af, none⟩ :: rest) env w := by
  have hsh : w.shape? g = some (5, cs.size) := by
    unfold Blk at hB
    unfold World.shape?
    rw [hB]
  refine xw (by simp [opsOK, Op.operands, hx]) (by simp [cls, isI, isS]; kernel_rfl) (v := .slice (some ⟨g, 0, none⟩) n c) (w' := w.freeze ⟨g, cs.size, none⟩ 1) ?_ (h _ (freeze_cell hB) freeze_fr (by simp [World.freeze])) (hH _ freeze_fr)
  simp [execOp, ev_of hx, convert, run_underlying Try.underlying23, run_underlying Try.underlying5, markStringish, hsh]
theorem xseqb {t yt : TypeId} {x y : Operand} {a b : ByteArray} {r : Bool} (hx : evo env x = some (.string a)) (hy : evo env y = some (.string b)) (hr : (a.toList == b.toList) = r)
    (h : xs Try.prog isI isS hs H full K rest ((d, .bool r) :: env) w) : xs Try.prog isI isS hs H full K (⟨some d, .binOp .eql t x y yt, ty, pos, af, none⟩ :: rest) env w := by
  subst hr; exact xseq hx hy h
theorem xsneb {t yt : TypeId} {x y : Operand} {a b : ByteArray} {r : Bool} (hx : evo env x = some (.string a)) (hy : evo env y = some (.string b)) (hr : (!(a.toList == b.toList)) = r)
    (h : xs Try.prog isI isS hs H full K rest ((d, .bool r) :: env) w) : xs Try.prog isI isS hs H full K (⟨some d, .binOp .neq t x y yt, ty, pos, af, none⟩ :: rest) env w := by
  subst hr; exact xsne hx hy h
end

theorem bx0 (w : World) : BRow w (.slice none 0 0) [] := ⟨_, _, rfl, Nat.le_refl _, by unfold maxLen; omega, fun h => absurd h (by simp)⟩
theorem BRow.of_cells {w : World} {g n : Nat} {zs : List Int} (hn : n = zs.length) (hg : g < w.heap.size) (hm : n ≤ maxLen) (h : ∀ i, w.cell? ⟨g, i, none⟩ = ((zs.map (Value.int .u8)).toArray)[i]?) : BRow w (.slice (some ⟨g, 0, none⟩) n n) zs := by
  subst hn
  exact ⟨_, _, rfl, Nat.le_refl _, hm, fun _ => ⟨_, 0, rfl, hg, fun j u hu => by rw [Nat.zero_add, h]; simpa using hu⟩⟩
theorem BRow.zeros {w : World} {g n : Nat} (hB : Blk w g 5 (Array.replicate n (.int .u8 0))) (hm : n ≤ maxLen) : BRow w (.slice (some ⟨g, 0, none⟩) n n) (List.replicate n 0) := by
  refine BRow.of_cells (by simp) hB.lt hm fun i => ?_
  rw [hB.cell]
  simp
theorem byts0 : Byts [] := fun z hz => by cases hz
theorem byts_rep (n : Nat) : Byts (List.replicate n 0) := fun z hz => by rw [(List.mem_replicate.1 hz).2]; decide
theorem putB_le_sq (xs : List Int) : (putB xs).length ≤ (sqB xs).length := by
  unfold putB
  split
  · exact Nat.le_refl _
  · simp; omega
theorem per_rep (n : Nat) : Per 1 (List.replicate n 0) := fun j hj => by
  rw [List.length_replicate] at hj
  simp only [List.getD_eq_getElem?_getD, List.getElem?_replicate]
  split <;> split <;> rfl
theorem ptE_ok {xs : List Int} (h : xs.length ≤ 12000) : ptE xs = 0 := by unfold ptE; rw [if_neg (by omega)]
theorem ptB_ok {xs : List Int} (h : xs.length ≤ 12000) : ptB xs = putB xs := by unfold ptB; rw [if_neg (by omega)]

attribute [local irreducible] xs T
set_option maxRecDepth 20000 in
set_option maxHeartbeats 8000000 in
theorem ptold_does (w : World) : Does Try.prog 31 #[] w fun r w' => r = .bool true ∧ Ext w w' := by
  refine does0 Try.func31 rfl ?_
  have b3 : Byts [97, 98, 99] := fun z hz => by simp at hz; omega
  have b4 : Byts [0, 97, 98, 99] := fun z hz => by simp at hz; omega
  have g3 := gt_put b3 (by decide) 3
  have g2 := gt_put b3 (by decide) 2
  rw [putB_short (xs := [97, 98, 99]) (by decide)] at g3 g2
  have g3' : gtB [0, 97, 98, 99] 3 = (0, [97, 98, 99]) := g3.trans (by decide)
  have g2' : gtB [0, 97, 98, 99] 2 = (13, []) := g2.trans (by decide)
  have g9 : gtB [2] 9 = (3, []) := by unfold gtB openB; rfl
  clear g3 g2
  have hsy1 : (symT ⟨-1, 5, 3⟩).1 = 256 := by decide
  have hsy2 : (symT ⟨-1, 5, 3⟩).2.1 = 4 := by decide
  have hsy3 : (symT ⟨-1, 5, 3⟩).2.2 = 10 := by decide
  refine goL ?_
  refine xcall rfl rfl (put_does w _ [] (bx0 w) byts0) (fun r w1 h1 => ?_)
  obtain ⟨va, rfl, ha, hE1⟩ := h1
  rw [ptB_ok (by simp), putB_short (by simp)] at ha
  rw [ptE_ok (by simp)]
  obtain ⟨A1, c1, e1, _, _⟩ := ha.form
  subst e1
  refine goL ?_
  refine xbs sl_bytes rfl rfl (by decide) (by decide) (fun u hu => by simp at hu; rcases hu with rfl | rfl | rfl <;> rfl) (fun w2 hB2 hE2 hs2 => ?_)
  refine xcvb hB2 rfl (fun w3 hc3 hF3 hs3 => ?_)
  have hE13 : Ext w1 w3 := Ext.te hE2 hF3 fun j hj e => by have e' : j = w1.heap.size := e; omega
  have r3 : BRow w3 (.slice (some ⟨w1.heap.size, 0, none⟩) 3 3) [97, 98, 99] := BRow.of_cells rfl (by omega) (by decide) hc3
  refine xcall rfl rfl (put_does w3 _ [97, 98, 99] r3 b3) (fun r w4 h4 => ?_)
  obtain ⟨vb, rfl, hb, hE4⟩ := h4
  rw [ptB_ok (by decide), putB_short (by decide)] at hb
  rw [ptE_ok (by decide)]
  obtain ⟨A4, c4, e4, _, _⟩ := hb.form
  subst e4
  refine goL ?_
  refine xcall rfl rfl (gget_does w4 _ [0, 97, 98, 99] 3 hb.brow b4) (fun r w5 h5 => ?_)
  obtain ⟨vc, rfl, hc, hE5⟩ := h5
  rw [g3'] at hc ⊢
  dsimp only at hc
  obtain ⟨A5, c5, e5, _, _⟩ := hc.form
  subst e5
  refine goL ?_
  refine xcall rfl rfl (gget_does w5 _ [0, 97, 98, 99] 2 (hb.ext hE5).brow b4) (fun r w6 h6 => ?_)
  obtain ⟨vd, rfl, _, hE6⟩ := h6
  rw [g2']
  refine goL ?_
  refine xbs sl_bytes rfl rfl (by decide) (by decide) (fun u hu => by simp at hu; subst hu; rfl) (fun w7 hB7 hE7 hs7 => ?_)
  have hBB := BB.new' [2] hB7 rfl
  refine xcall rfl rfl (gget_does w7 _ [2] 9 (hBB.row (by decide)) (fun z hz => by simp at hz; omega)) (fun r w8 h8 => ?_)
  obtain ⟨ve, rfl, _, hE8⟩ := h8
  rw [g9]
  refine goL ?_
  refine xmk sl_bytes rfl rfl rfl (by omega) (by omega) (by omega) (fun w9 hB9 hE9 hs9 => ?_)
  refine xcall rfl rfl (put_does w9 _ _ (BRow.zeros hB9 (by decide)) (byts_rep _)) (fun r w10 h10 => ?_)
  obtain ⟨vf, rfl, _, hE10⟩ := h10
  rw [show ptE (List.replicate (12001 : Int).toNat 0) = 13 from by unfold ptE; rw [if_pos (by rw [List.length_replicate]; decide)]]
  refine goL ?_
  refine xmk sl_bytes rfl rfl rfl (by omega) (by omega) (by omega) (fun w11 hB11 hE11 hs11 => ?_)
  refine xcall rfl rfl (put_does w11 _ _ (BRow.zeros hB11 (by decide)) (byts_rep _)) (fun r w12 h12 => ?_)
  obtain ⟨vg, rfl, hg, hE12⟩ := h12
  have hl1000 : (List.replicate (1000 : Int).toNat (0 : Int)).length = 1000 := by rw [List.length_replicate]; rfl
  rw [ptE_ok (by omega)]
  rw [ptB_ok (by omega)] at hg
  have hlen : (putB (List.replicate (1000 : Int).toNat 0)).length < 300 := by
    have h1 := putB_le_sq (List.replicate (1000 : Int).toNat 0)
    have h2 := put_per (byts_rep (1000 : Int).toNat) (by omega) (per_rep _) (Nat.le_refl 1) (by decide)
    rw [hl1000] at h2
    omega
  obtain ⟨A12, c12, e12, hc12, hm12⟩ := hg.form
  rw [List.length_map] at e12 hc12
  obtain ⟨nn, hnn⟩ : ∃ nn, nn = (putB (List.replicate (1000 : Int).toNat 0)).length := ⟨_, rfl⟩
  rw [← hnn] at e12 hlen
  clear hg
  subst e12
  refine goL ?_
  refine xbd (cells := (tkC ⟨-1, 5, 3⟩).toArray) rfl (by kernel_rfl) ?_
  refine xcall rfl rfl (sym_does w12 ⟨-1, 5, 3⟩) (fun r w13 h13 => ?_)
  obtain ⟨rfl, hE13'⟩ := h13
  rw [hsy1, hsy2, hsy3]
  have e16 : Ext w3 w13 := (((((((hE4.t hE5).t hE6).t hE7).t hE8).t hE9).t hE10).t hE11).t (hE12.t hE13')
  have e5 : Ext w5 w13 := (((((hE6.t hE7).t hE8).t hE9).t hE10).t hE11).t (hE12.t hE13')
  have ra := ((ha.ext hE13).ext e16).brow
  have rb := ((hb.ext hE5).ext e5).brow
  have rc := (hc.ext e5).brow
  refine goL ?_
  refine xcbs rfl ra ?_
  refine goL ?_
  refine xseqb rfl rfl (r := true) (by decide +kernel) ?_
  refine goL ?_
  refine xcbs rfl rb ?_
  refine goL ?_
  refine xseqb rfl rfl (r := true) (by decide +kernel) ?_
  refine goL ?_
  refine xcbs rfl rc ?_
  refine goL ?_
  refine xseqb rfl rfl (r := true) (by decide +kernel) ?_
  refine goL ?_
  exact tret1 rfl rfl ⟨rfl, (hE1.t hE13).t e16⟩
end Eng
end Go.Proofs.Ytighkjohpmlemaa
