/-
  The reference's joins, walked.
-/
import Derived.Test.YtighkjohpmlemaaRa
import Derived.Test.YtighkjohpmlemaaEngD
namespace Go.Proofs.Ytighkjohpmlemaa
open Go.RowKit
namespace Eng

/-- Four cells that stay. -/
def HC (ga gb : Nat) (a1 a2 b1 b2 : Value) (w : World) : Prop := w.cell? ⟨ga, 0, none⟩ = some a1 ∧ w.cell? ⟨ga, 1, none⟩ = some a2 ∧ w.cell? ⟨gb, 0, none⟩ = some b1 ∧ w.cell? ⟨gb, 1, none⟩ = some b2
theorem HC.fr {S : Nat → Prop} {ga gb : Nat} {a1 a2 b1 b2 : Value} {w w' : World} (h : HC ga gb a1 a2 b1 b2 w) (hf : Fr S w w') (h1 : ¬ S ga) (h2 : ¬ S gb) : HC ga gb a1 a2 b1 b2 w' :=
  ⟨hf.cell h.1 h1, hf.cell h.2.1 h1, hf.cell h.2.2.1 h2, hf.cell h.2.2.2 h2⟩
theorem HC.ext {ga gb : Nat} {a1 a2 b1 b2 : Value} {w w' : World} (h : HC ga gb a1 a2 b1 b2 w) (hf : Ext w w') : HC ga gb a1 a2 b1 b2 w' := h.fr hf (fun hh => hh) fun hh => hh

theorem one2 {a b : Value} (ha : a.oneCell' = true) (hb : b.oneCell' = true) : (#[a, b] : Array Value).all (·.oneCell') = true := by simp [ha, hb]

theorem blk_row {w : World} {b n : Nat} {t : TypeId} {cs : Array Value} {l : List Value} (h : Blk w b t cs) (hn : n ≤ maxLen) (hl : l = cs.toList) : Row w (.slice (some ⟨b, 0, none⟩) n n) n l :=
  ⟨_, _, rfl, Nat.le_refl _, hn, fun _ => ⟨b, 0, rfl, Blk.lt h, fun j u hu => by rw [Nat.zero_add, Blk.cell h]; rw [hl] at hu; simpa using hu⟩⟩

structure JlI (cs : List Int) (gl : Nat) (w0 : World) (x : Nat × Value × List (Int × Value)) (w : World) : Prop where
  le : x.1 ≤ cs.length
  own : OwnZ w (gl + 1) 120 2 x.2.1 x.2.2.length (hcs x.2.2)
  hl : HL w gl x.2.1 ((posB (cs.take x.1)).map fun s => (cnt cs s, [s])) x.2.2
  lens : IB w gl (List.replicate cs.length 0)
  ext : Ext w0 w
structure JmI (cs : List Int) (gl : Nat) (w0 : World) (x : Nat × Value × List (Int × Value)) (w : World) : Prop where
  k : x.1 < (posB cs).length ∨ x.1 = 0
  own : OwnZ w (gl + 1) 120 2 x.2.1 x.2.2.length (hcs x.2.2)
  hl : HL w gl x.2.1 (jrun cs x.1).1 x.2.2
  lens : IB w gl (jrun cs x.1).2
  ext : Ext w0 w

attribute [local irreducible] xs T xf

set_option maxRecDepth 20000 in
set_option maxHeartbeats 8000000 in
theorem joins_does (w : World) (v : Value) (cs : List Int) (hv : IRow w v cs) (hl : cs.length ≤ 400) (hc : ∀ z ∈ cs, 0 ≤ z ∧ z ≤ 1073741824) :
    Does Try.prog 51 #[v] w fun r w' => ∃ gl, r = .slice (some ⟨gl, 0, none⟩) cs.length cs.length ∧ w.heap.size ≤ gl ∧ IB w' gl (joinsB cs) ∧ Ext w w' := by
  refine does1 Try.func51 rfl (by kernel_rfl) ?_
  obtain ⟨A, c, rfl, hcc, hcm, hA⟩ := hv.op
  refine go ?_
  refine xmk sl_ints rfl rfl rfl (by omega) (by rw [Int.toNat_natCast]; omega) (by omega) (fun w1 hB1 hE1 hs1 => ?_)
  rw [Int.toNat_natCast] at hB1 ⊢
  obtain ⟨gl, hgl⟩ : ∃ gl, gl = w.heap.size := ⟨_, rfl⟩
  rw [← hgl] at hB1 hs1 ⊢
  refine go ?_
  refine tloop (α := Nat × Value × List (Int × Value)) (fun x => [(0, .slice A cs.length c), (3, .slice (some ⟨gl, 0, none⟩) cs.length cs.length), (4, x.2.1), (5, .int .i64 (x.1 : Int))]) (JlI cs gl w) (fun x => cs.length - x.1) (0, .slice none 0 0, []) (sub ⟨rfl, rfl, rfl, rfl⟩) ⟨Nat.zero_le _, OwnZ.nil _ _ _ _, ⟨by simp [posB], fun i h p hh => by simp at hh⟩, IB.new hB1, hE1⟩ ?_
  rintro ⟨i, v2, hs⟩ w2 ⟨hi, hown, hHL, hlens, hE2⟩
  dsimp only at hi hown hHL hlens hE2 ⊢
  have hsl : hs.length ≤ 400 := by
    have := hHL.len; have h2 := posB_le (cs.take i); rw [List.length_take] at h2; simp at this; omega
  have hns : ∀ j, j ≤ gl → v2.ownBlock ≠ some j := fun j hj e => by have := (hown.blk e).1; omega
  by_cases hlt : i < cs.length
  · obtain ⟨b, o, z, rfl, _, hz, hcell, _⟩ := hA.at_ hlt
    have hc2 := hE2.cell hcell
    have hpt := posB_take cs i z hz
    have hcnt : cnt cs (i : Int) = z := by unfold cnt; rw [Int.toNat_natCast, List.getD_eq_getElem?_getD, hz]; rfl
    by_cases h0 : 0 < z
    · rw [if_pos h0] at hpt
      refine go ?_
      refine xbs sl_ints rfl rfl (by decide) (by decide) (fun u hu => by rw [List.mem_singleton.1 hu]; rfl) (fun w3 hB3 hE3 hs3 => ?_)
      refine xbd (cells := #[.int .i64 z, .slice (some ⟨w2.heap.size, 0, none⟩) 1 1]) rfl (by kernel_rfl) ?_
      refine xbz1 sl_heaps rfl rfl (by decide) (by decide) (fun w4 hB4 hE4 hs4 => ?_)
      have hE24 : Ext w2 w4 := hE3.t hE4
      have hbase : gl + 1 ≤ w4.heap.size := by have := hlens.lt; omega
      refine xapz sl_heaps rfl (by decide) rfl (hown.ext hE24) rfl (blk_row hB4 (by decide) rfl) rfl (fun u hu => by simp at hu; rcases hu with rfl | rfl <;> rfl) (by unfold maxLen; omega) (by omega) hbase (fun v5 w5 hown5 hF5 hv5 => ?_)
      refine go ?_
      have hF25 : Fr (fun b => v2.ownBlock = some b) w2 w5 := (hE24.fr).t hF5
      have hsz5 := hF5.size
      refine tfin ⟨(i + 1, v5, hs ++ [(z, .slice (some ⟨w2.heap.size, 0, none⟩) 1 1)]), sub ⟨rfl, rfl, rfl, rfl⟩, ⟨by dsimp only; omega, ?_, ?_, hlens.fr hF25 (hns gl (Nat.le_refl _)), Ext.te hE2 hF25 fun j hj => hns j (by omega)⟩, (by show cs.length - (i + 1) < cs.length - i; omega)⟩
      · dsimp only
        rw [hcs_app, List.length_append]
        exact hown5
      · dsimp only
        rw [hpt, List.map_append]
        refine HL.snoc (hHL.fr hF25 (fun b hb => .inr (.inl hb)) v5 fun b hb => ?_) ?_ ?_ ?_
        · rcases hv5 with h | h
          · left; rw [← h]; exact hb
          · right
            rw [h] at hb
            have : w4.heap.size = b := by simpa using hb
            omega
        · dsimp only; rw [hcnt]
        · have hr : IRow w3 (.slice (some ⟨w2.heap.size, 0, none⟩) 1 1) [(i : Int)] := blk_row hB3 (by decide) rfl
          refine (hr.ext hE4).fr hF5 fun b hb e => ?_
          have e1 : w2.heap.size = b := by simpa [Value.ownBlock] using hb
          have := (hown.blk e).2; omega
        · intro b hb
          have e1 : w2.heap.size = b := by simpa [Value.ownBlock] using hb
          have := hlens.lt
          refine ⟨by omega, by omega, fun e => ?_⟩
          rcases hv5 with h | h
          · rw [h] at e; have := (hown.blk e).2; omega
          · rw [h] at e
            have : w4.heap.size = b := by simpa using e
            omega
    · rw [if_neg h0] at hpt
      refine go ?_
      exact tfin ⟨(i + 1, v2, hs), sub ⟨rfl, rfl, rfl, rfl⟩, ⟨by dsimp only; omega, hown, by dsimp only; rw [hpt]; exact hHL, hlens, hE2⟩, (by show cs.length - (i + 1) < cs.length - i; omega)⟩
  · obtain rfl : i = cs.length := by omega
    rw [List.take_length] at hHL
    have hw1 : w.heap.size = gl := hgl.symm
    refine go ?_
    refine tloop (α := Nat × Value × List (Int × Value)) (fun x => [(3, .slice (some ⟨gl, 0, none⟩) cs.length cs.length), (4, x.2.1)]) (JmI cs gl w) (fun x => (posB cs).length - x.1) (0, v2, hs) (sub ⟨rfl, rfl⟩) ⟨.inr rfl, hown, hHL, hlens, hE2⟩ ?_
    clear hown hHL hlens hE2 hns hsl hA hv hB1 hE1 hs1
    rintro ⟨k, v3, ht⟩ w3 ⟨hk, hown, hHL, hlens, hE3⟩
    dsimp only at hk hown hHL hlens hE3 ⊢
    have hJ := jb_of hl hc k hk
    have hpl := posB_le cs
    have hlen := hHL.len
    have jlen := hJ.len
    obtain ⟨A3, c3, e3, hc31, hc32⟩ := hown.form
    by_cases hmore : 1 < ht.length
    · obtain ⟨l, hl0⟩ : ∃ l, l = (jrun cs k).1 := ⟨_, rfl⟩
      obtain ⟨lens, hlens0⟩ : ∃ l, l = (jrun cs k).2 := ⟨_, rfl⟩
      have hrun1 : (jrun cs (k + 1)).1 = jR (jR l) ++ [jH l] := by rw [hl0]; rfl
      have hrun2 : (jrun cs (k + 1)).2 = incs lens (jH l).2 := by rw [hl0, hlens0]; rfl
      obtain ⟨_, jnn, jsum, jmem, jll, jln, jlb⟩ := hJ
      rw [← hl0] at hHL jlen jnn jsum jmem jll hlen
      rw [← hlens0] at hlens jln jlb
      have ea := isum_erase (l := l) (by omega)
      have eb := isum_erase (l := jR l) (by omega)
      have hk1 : leastB (l.map (·.1)) < l.length := by have := leastB_lt (ws := l.map (·.1)) (by simp; omega); simpa using this
      have hk2 : leastB ((jR l).map (·.1)) < (jR l).length := by have := leastB_lt (ws := (jR l).map (·.1)) (by simp; omega); simpa using this
      have hmb := ea.2.2.1 _ eb.2.1
      have na := jnn _ ea.2.1
      have nb := jnn _ hmb
      have nrest : 0 ≤ isum ((jR (jR l)).map (·.1)) := isum_nonneg _ fun x hx => by
        obtain ⟨p, hp, rfl⟩ := List.mem_map.1 hx
        exact jnn p (ea.2.2.1 p (eb.2.2.1 p hp))
      obtain ⟨k1, hk1e⟩ : ∃ k1, k1 = leastB (l.map (·.1)) := ⟨_, rfl⟩
      obtain ⟨k2, hk2e⟩ : ∃ k2, k2 = leastB ((jR l).map (·.1)) := ⟨_, rfl⟩
      rw [← hk1e] at hk1
      rw [← hk2e] at hk2
      have la : l[k1]? = some (jA l) := by unfold jA; rw [← hk1e, List.getD_eq_getElem?_getD, List.getElem?_eq_getElem hk1]; rfl
      have lb : (jR l)[k2]? = some (jA (jR l)) := by
        have : jA (jR l) = (jR l).getD k2 hp0 := by unfold jA; rw [← hk2e]
        rw [this, List.getD_eq_getElem?_getD, List.getElem?_eq_getElem hk2]; rfl
      have hjR : jR l = l.eraseIdx k1 := by unfold jR; rw [← hk1e]
      have hjR2 : jR (jR l) = (jR l).eraseIdx k2 := by rw [hk2e]; rfl
      obtain ⟨ha, hha⟩ : ∃ h, ht[k1]? = some h := ⟨_, List.getElem?_eq_getElem (by omega)⟩
      have fa := hHL.at_ k1 ha _ hha la
      have hgl3 := hlens.lt
      subst e3
      obtain ⟨g3, c3', e3', hg31, hg32, _, _, hcell3⟩ := hown.go (by omega)
      injection e3' with e3' _ e3''; subst e3'; subst e3''
      refine go ?_
      refine xcall rfl rfl (least_does w3 _ ht hown.row (by omega)) (fun r w4 h4 => ?_)
      obtain ⟨rfl, hE4⟩ := h4
      rw [hHL.fst, ← hk1e]
      repeat' (first | refine xizq k1 (2 * k1) rfl rfl rfl rfl (by omega) (by omega) ?_ | refine go1 ?_ | fail)
      refine xldz (cs := [.int .i64 ha.1, ha.2]) rfl rfl (fun j u hu => hE4.cell (hcell3 _ u ?_)) ?_
      · have hg := hcs_get hha
        match j, hu with
        | 0, hu => rw [Nat.add_zero, hg.1]; simpa using hu
        | 1, hu => rw [hg.2]; simpa using hu
        | j + 2, hu => simp at hu
      refine xalloc (z := .agg #[.int .i64 0, .slice none 0 0]) (by kernel_rfl) (fun w5 hB5 hE5 hs5 => ?_)
      refine xsta hB5 rfl rfl rfl rfl (one2 rfl (hHL.one ha (List.mem_of_getElem? hha))) (fun w6 hB6 hF6 => ?_)
      obtain ⟨ga, hga⟩ : ∃ g, g = w4.heap.size := ⟨_, rfl⟩
      rw [← hga] at hB6 hF6 hs5 ⊢
      have hE36 : Ext w3 w6 := Ext.te (hE4.t hE5) hF6 fun j hj e => by have := hE4.size; omega
      refine go ?_
      refine xcall rfl rfl (out_does w6 _ ht k1 (hown.ext hE36).row (by omega) (by omega) hHL.one) (fun r w7 h7 => ?_)
      obtain ⟨hown7, hE7⟩ := h7
      have hE37 : Ext w3 w7 := hE36.t hE7
      have hsz6 := hF6.size
      have hga6 := Blk.lt hB6
      have hga3 : w3.heap.size ≤ ga := by have := hE4.size; omega
      have hHL7 : HL w7 gl r (jR l) (ht.eraseIdx k1) := by
        rw [hjR]
        exact (hHL.erase k1).fr hE37 (fun b hb => hb.elim) r fun b hb => .inr (by have := (hown7.blk hb).1; omega)
      have hB7 := hB6.ext hE7
      obtain ⟨A7, c7, e7, hc71, hc72⟩ := hown7.form
      have hl7 := hHL7.len
      subst e7
      obtain ⟨hb, hhb⟩ : ∃ h, (ht.eraseIdx k1)[k2]? = some h := ⟨_, List.getElem?_eq_getElem (by omega)⟩
      have fb := hHL7.at_ k2 hb _ hhb lb
      obtain ⟨g7, c7', e7', hg71, hg72, _, _, hcell7⟩ := hown7.go (by omega)
      injection e7' with e7' _ e7''; subst e7'; subst e7''
      refine go ?_
      refine xcall rfl rfl (least_does w7 _ (ht.eraseIdx k1) hown7.row (by omega)) (fun r w8 h8 => ?_)
      obtain ⟨rfl, hE8⟩ := h8
      rw [hHL7.fst, ← hk2e]
      repeat' (first | refine xizq k2 (2 * k2) rfl rfl rfl rfl (by omega) (by omega) ?_ | refine go1 ?_ | fail)
      refine xldz (cs := [.int .i64 hb.1, hb.2]) rfl rfl (fun j u hu => hE8.cell (hcell7 _ u ?_)) ?_
      · have hg := hcs_get hhb
        match j, hu with
        | 0, hu => rw [Nat.add_zero, hg.1]; simpa using hu
        | 1, hu => rw [hg.2]; simpa using hu
        | j + 2, hu => simp at hu
      refine xalloc (z := .agg #[.int .i64 0, .slice none 0 0]) (by kernel_rfl) (fun w9 hB9 hE9 hs9 => ?_)
      refine xsta hB9 rfl rfl rfl rfl (one2 rfl (hHL7.one hb (List.mem_of_getElem? hhb))) (fun w10 hB10 hF10 => ?_)
      obtain ⟨gb, hgb⟩ : ∃ g, g = w8.heap.size := ⟨_, rfl⟩
      rw [← hgb] at hB10 hF10 hs9 ⊢
      have hE710 : Ext w7 w10 := Ext.te (hE8.t hE9) hF10 fun j hj e => by have := hE8.size; omega
      refine go ?_
      refine xcall rfl rfl (out_does w10 _ (ht.eraseIdx k1) k2 (hown7.ext hE710).row (by omega) (by omega) hHL7.one) (fun r w11 h11 => ?_)
      obtain ⟨hown11, hE11⟩ := h11
      have hE711 : Ext w7 w11 := hE710.t hE11
      have hgb10 := Blk.lt hB10
      have hsz10 := hF10.size
      have hgb7 : w7.heap.size ≤ gb := by have := hE8.size; omega
      have hga7 := Blk.lt hB7
      have hHL11 : HL w11 gl r (jR (jR l)) ((ht.eraseIdx k1).eraseIdx k2) := by
        rw [hjR2]
        exact (hHL7.erase k2).fr hE711 (fun b hb => hb.elim) r fun b hb => .inr (by have := (hown11.blk hb).1; omega)
      have hBa := hB7.ext hE711
      have hBb := hB10.ext hE11
      have hE11w : Ext w w11 := (hE3.t hE37).t hE711
      have hlens11 := (hlens.ext hE37).ext hE711
      have ra := (fa.2.1.ext hE37).ext hE711
      have rb := fb.2.1.ext hE711
      obtain ⟨v11, hv11⟩ : ∃ v, v = r := ⟨_, rfl⟩
      rw [← hv11] at hown11 hHL11 ⊢
      have hv11b : ∀ b, v11.ownBlock = some b → w10.heap.size ≤ b ∧ b < w11.heap.size := fun b hb => hown11.blk hb
      have hHC : HC ga gb (.int .i64 ha.1) ha.2 (.int .i64 hb.1) hb.2 w11 := ⟨by rw [Blk.cell hBa]; rfl, by rw [Blk.cell hBa]; rfl, by rw [Blk.cell hBb]; rfl, by rw [Blk.cell hBb]; rfl⟩
      have hw11 := hE11.size
      obtain ⟨La, hLa⟩ : ∃ L, L = (jA l).2 := ⟨_, rfl⟩
      obtain ⟨Lb, hLb⟩ : ∃ L, L = (jA (jR l)).2 := ⟨_, rfl⟩
      rw [← hLa] at ra
      rw [← hLb] at rb
      have hjH : jH l = (ha.1 + hb.1, La ++ Lb) := by unfold jH; rw [hLa, hLb, fa.1, fb.1]
      have hLl : La.length + Lb.length ≤ 400 := by rw [hLa, hLb]; omega
      have hWb : 0 ≤ ha.1 ∧ 0 ≤ hb.1 ∧ ha.1 + hb.1 ≤ 429496729600 := by rw [fa.1, fb.1]; omega
      obtain ⟨Aa, ca, eAa, _, _, _⟩ := ra.op
      obtain ⟨Ab, cb, eAb, _, _, _⟩ := rb.op
      have oba := fa.2.2
      have obb := fb.2.2
      obtain ⟨za, hza⟩ : ∃ z, z = ha.1 := ⟨_, rfl⟩
      obtain ⟨zb, hzb⟩ : ∃ z, z = hb.1 := ⟨_, rfl⟩
      obtain ⟨va, hva⟩ : ∃ z, z = ha.2 := ⟨_, rfl⟩
      obtain ⟨vb, hvb⟩ : ∃ z, z = hb.2 := ⟨_, rfl⟩
      rw [← hza, ← hzb, ← hva, ← hvb] at hHC
      rw [← hza, ← hzb] at hjH hWb
      rw [← hva] at ra eAa oba
      rw [← hvb] at rb eAb obb
      have hmm : ∀ s ∈ La ++ Lb, 0 ≤ s ∧ s < cs.length := fun s hs => by
        rcases List.mem_append.1 hs with h | h
        · rw [hLa] at h; exact jmem _ ea.2.1 s h
        · rw [hLb] at h; exact jmem _ hmb s h
      clear hBa hBb hB7 hB10 hB6 hB9 hB5 hown hown7 hcell3 hcell7 hE4 hE5 hE8 hE9 hF6 hF10 hE7 hE36 hE710 hE711 hE37 hE11 hHL hHL7 hlens hE3 fa fb ea eb la lb hha hhb hza hzb hva hvb jnn jsum jmem hmb na nb nrest hs5 hs9
      refine goN ?_
      refine tseq ?_
      refine tcut (α := Nat × Value) (fun x => [(3, .slice (some ⟨gl, 0, none⟩) cs.length cs.length), (4, v11), (9, .pointer (some ⟨x.1, 0, none⟩))])
        (fun x w' => Blk w' x.1 120 #[.int .i64 (za + zb), x.2] ∧ Own w' w11.heap.size 3 x.2 ((La ++ Lb).map (Value.int .i64)) ∧ Ext w11 w' ∧ w11.heap.size ≤ x.1 ∧ x.2.ownBlock ≠ some x.1) ?_ ?_
      · have hga11 : ga < w11.heap.size := by omega
        have hgb11 : gb < w11.heap.size := by omega
        have hX11 : Ext w11 w11.drew := Fr.drew _ _
        have hC11 := hHC.ext hX11
        subst eAa
        subst eAb
        refine tdrawF 13 [0, 0, 0, 0, 0, 1, 0, 0, 1, 0, 0, 1, 0, 2] [57, 59, 63, 66] (HC ga gb (.int .i64 za) (.slice Aa La.length ca) (.int .i64 zb) (.slice Ab Lb.length cb)) rfl rfl (by kernel_rfl) (by decide +kernel) hC11 ?_
        repeat' (first | refine xf0 ?_ | refine xldh rfl rfl (fun _ h => h.1) ?_ | refine xldh rfl rfl (fun _ h => h.2.1) ?_ | refine xldh rfl rfl (fun _ h => h.2.2.1) ?_ | refine xldh rfl rfl (fun _ h => h.2.2.2) ?_ | refine go1 ?_ | fail)
        refine xf1 ?_ ?_
        · skip
          refine xalloc (z := .agg #[.int .i64 0, .slice none 0 0]) (by kernel_rfl) (fun w20 hG20 hE20 hs20 => ?_) (fun w' he => hC11.ext he)
          have hX20 : Ext w11 w20 := hX11.t hE20
          have hC20 := hC11.ext hE20
          have hgg : w11.heap.size ≤ w11.drew.heap.size := hX11.size
          refine xbz0 sl_ints (fun w21 hO21 hE21 hs21 => ?_) (fun w' he => hC20.ext he)
          have hX21 : Ext w11 w21 := hX20.t hE21
          have hC21 := hC20.ext hE21
          have hO21 : Own w21 w11.heap.size 3 (.slice (some ⟨w20.heap.size, 0, none⟩) 0 0) [] := Own.mono hO21 hX20.size
          have hG21 := hG20.ext hE21
          have hN21 : (Value.slice (some ⟨w20.heap.size, 0, none⟩) 0 0).ownBlock ≠ some w11.drew.heap.size := by simp [Value.ownBlock]; have := Blk.lt hG20; omega
          repeat' (first | refine xldh rfl rfl (fun _ h => h.1) ?_ | refine xldh rfl rfl (fun _ h => h.2.1) ?_ | refine xldh rfl rfl (fun _ h => h.2.2.1) ?_ | refine xldh rfl rfl (fun _ h => h.2.2.2) ?_ | refine go1 ?_ | fail)
          refine xap sl_ints rfl rfl hO21 rfl (ra.ext hX21) (by simp) (fun u hu => by obtain ⟨z, _, rfl⟩ := List.mem_map.1 hu; rfl) (by unfold maxLen; simp; omega) (by simp; omega) hX21.size (fun v22 w22 hO22 hF22 hv22 => ?_) (fun w' hF => hC21.fr hF (fun e => by have := (hO21.blk e).1; omega) (fun e => by have := (hO21.blk e).1; omega))
          have hX22 : Ext w11 w22 := Ext.te hX21 hF22 fun j hj e => by have := (hO21.blk e).1; omega
          have hC22 := hC21.fr hF22 (fun e => by have := (hO21.blk e).1; omega) (fun e => by have := (hO21.blk e).1; omega)
          rw [List.nil_append] at hO22
          have hG22 := hG21.fr hF22 hN21
          have hN22 : v22.ownBlock ≠ some w11.drew.heap.size := fun e => by
            rcases hv22 with h | h
            · exact hN21 (by rw [← h]; exact e)
            · rw [h] at e; have h5 : w21.heap.size = w11.drew.heap.size := by simpa using e
              have := Blk.lt hG21; omega
          repeat' (first | refine xldh rfl rfl (fun _ h => h.1) ?_ | refine xldh rfl rfl (fun _ h => h.2.1) ?_ | refine xldh rfl rfl (fun _ h => h.2.2.1) ?_ | refine xldh rfl rfl (fun _ h => h.2.2.2) ?_ | refine go1 ?_ | fail)
          refine xap sl_ints rfl rfl hO22 rfl (rb.ext hX22) (by simp) (fun u hu => by obtain ⟨z, _, rfl⟩ := List.mem_map.1 hu; rfl) (by unfold maxLen; simp; omega) (by simp; omega) hX22.size (fun v23 w23 hO23 hF23 hv23 => ?_) (fun w' hF => hC22.fr hF (fun e => by have := (hO22.blk e).1; omega) (fun e => by have := (hO22.blk e).1; omega))
          have hX23 : Ext w11 w23 := Ext.te hX22 hF23 fun j hj e => by have := (hO22.blk e).1; omega
          have hC23 := hC22.fr hF23 (fun e => by have := (hO22.blk e).1; omega) (fun e => by have := (hO22.blk e).1; omega)
          rw [← List.map_append] at hO23
          have hG23 := hG22.fr hF23 hN22
          have hN23 : v23.ownBlock ≠ some w11.drew.heap.size := fun e => by
            rcases hv23 with h | h
            · exact hN22 (by rw [← h]; exact e)
            · rw [h] at e; have h5 : w22.heap.size = w11.drew.heap.size := by simpa using e
              have := Blk.lt hG22; omega
          obtain ⟨B23, d23, e23, _, _⟩ := hO23.form
          subst e23
          refine xbd (cells := #[.int .i64 (za + zb), (Value.slice B23 ((La ++ Lb).map (Value.int .i64)).length d23)]) rfl (by kernel_rfl) ?_
          refine xsta hG23 rfl rfl rfl rfl (one2 rfl (by obtain ⟨_, _, e, _⟩ := hO23.form; rw [e]; rfl)) (fun w24 hG24 hF24 => ?_) (fun w' hF => hC23.fr hF (by show ¬ ga = w11.drew.heap.size; omega) (by show ¬ gb = w11.drew.heap.size; omega))
          have hX24 : Ext w11 w24 := Ext.te hX23 hF24 fun j hj e => by omega
          have hO24 := hO23.fr hF24 fun b hb e => hN23 (by rw [hb, e])
          refine go ?_
          exact tfin ⟨(w11.drew.heap.size, (Value.slice B23 ((La ++ Lb).map (Value.int .i64)).length d23)), sub ⟨rfl, rfl, rfl⟩, ⟨hG24, hO24, hX24, hgg, hN23⟩⟩
        · skip
          refine xbz0 sl_ints (fun w30 hO30 hE30 hs30 => ?_) (fun w' he => hC11.ext he)
          have hX30 : Ext w11 w30 := hX11.t hE30
          have hC30 := hC11.ext hE30
          have hO30 : Own w30 w11.heap.size 3 (.slice (some ⟨w11.drew.heap.size, 0, none⟩) 0 0) [] := Own.mono hO30 hX11.size
          repeat' (first | refine xf0 ?_ | refine xldh rfl rfl (fun _ h => h.1) ?_ | refine xldh rfl rfl (fun _ h => h.2.1) ?_ | refine xldh rfl rfl (fun _ h => h.2.2.1) ?_ | refine xldh rfl rfl (fun _ h => h.2.2.2) ?_ | refine go1 ?_ | fail)
          refine xf1 ?_ ?_
          · skip
            refine xalloc (z := .agg #[.int .i64 0, .slice none 0 0]) (by kernel_rfl) (fun w31 hG31 hE31 hs31 => ?_) (fun w' he => hC30.ext he)
            have hX31 : Ext w11 w31 := hX30.t hE31
            have hC31 := hC30.ext hE31
            have hgg : w11.heap.size ≤ w30.heap.size := hX30.size
            have hO31 := hO30.ext hE31
            have hN31 : (Value.slice (some ⟨w11.drew.heap.size, 0, none⟩) 0 0).ownBlock ≠ some w30.heap.size := fun e => by have := (hO30.blk e).2; omega
            repeat' (first | refine xldh rfl rfl (fun _ h => h.1) ?_ | refine xldh rfl rfl (fun _ h => h.2.1) ?_ | refine xldh rfl rfl (fun _ h => h.2.2.1) ?_ | refine xldh rfl rfl (fun _ h => h.2.2.2) ?_ | refine go1 ?_ | fail)
            refine xap sl_ints rfl rfl hO31 rfl (ra.ext hX31) (by simp) (fun u hu => by obtain ⟨z, _, rfl⟩ := List.mem_map.1 hu; rfl) (by unfold maxLen; simp; omega) (by simp; omega) hX31.size (fun v32 w32 hO32 hF32 hv32 => ?_) (fun w' hF => hC31.fr hF (fun e => by have := (hO31.blk e).1; omega) (fun e => by have := (hO31.blk e).1; omega))
            have hX32 : Ext w11 w32 := Ext.te hX31 hF32 fun j hj e => by have := (hO31.blk e).1; omega
            have hC32 := hC31.fr hF32 (fun e => by have := (hO31.blk e).1; omega) (fun e => by have := (hO31.blk e).1; omega)
            rw [List.nil_append] at hO32
            have hG32 := hG31.fr hF32 hN31
            have hN32 : v32.ownBlock ≠ some w30.heap.size := fun e => by
              rcases hv32 with h | h
              · exact hN31 (by rw [← h]; exact e)
              · rw [h] at e; have h5 : w31.heap.size = w30.heap.size := by simpa using e
                have := Blk.lt hG31; omega
            repeat' (first | refine xldh rfl rfl (fun _ h => h.1) ?_ | refine xldh rfl rfl (fun _ h => h.2.1) ?_ | refine xldh rfl rfl (fun _ h => h.2.2.1) ?_ | refine xldh rfl rfl (fun _ h => h.2.2.2) ?_ | refine go1 ?_ | fail)
            refine xap sl_ints rfl rfl hO32 rfl (rb.ext hX32) (by simp) (fun u hu => by obtain ⟨z, _, rfl⟩ := List.mem_map.1 hu; rfl) (by unfold maxLen; simp; omega) (by simp; omega) hX32.size (fun v33 w33 hO33 hF33 hv33 => ?_) (fun w' hF => hC32.fr hF (fun e => by have := (hO32.blk e).1; omega) (fun e => by have := (hO32.blk e).1; omega))
            have hX33 : Ext w11 w33 := Ext.te hX32 hF33 fun j hj e => by have := (hO32.blk e).1; omega
            have hC33 := hC32.fr hF33 (fun e => by have := (hO32.blk e).1; omega) (fun e => by have := (hO32.blk e).1; omega)
            rw [← List.map_append] at hO33
            have hG33 := hG32.fr hF33 hN32
            have hN33 : v33.ownBlock ≠ some w30.heap.size := fun e => by
              rcases hv33 with h | h
              · exact hN32 (by rw [← h]; exact e)
              · rw [h] at e; have h5 : w32.heap.size = w30.heap.size := by simpa using e
                have := Blk.lt hG32; omega
            obtain ⟨B33, d33, e33, _, _⟩ := hO33.form
            subst e33
            refine xbd (cells := #[.int .i64 (za + zb), (Value.slice B33 ((La ++ Lb).map (Value.int .i64)).length d33)]) rfl (by kernel_rfl) ?_
            refine xsta hG33 rfl rfl rfl rfl (one2 rfl (by obtain ⟨_, _, e, _⟩ := hO33.form; rw [e]; rfl)) (fun w34 hG34 hF34 => ?_) (fun w' hF => hC33.fr hF (by show ¬ ga = w30.heap.size; omega) (by show ¬ gb = w30.heap.size; omega))
            have hX34 : Ext w11 w34 := Ext.te hX33 hF34 fun j hj e => by omega
            have hO34 := hO33.fr hF34 fun b hb e => hN33 (by rw [hb, e])
            refine go ?_
            exact tfin ⟨(w30.heap.size, (Value.slice B33 ((La ++ Lb).map (Value.int .i64)).length d33)), sub ⟨rfl, rfl, rfl⟩, ⟨hG34, hO34, hX34, hgg, hN33⟩⟩
          · skip
            refine xap sl_ints rfl rfl hO30 rfl (ra.ext hX30) (by simp) (fun u hu => by obtain ⟨z, _, rfl⟩ := List.mem_map.1 hu; rfl) (by unfold maxLen; simp; omega) (by simp; omega) hX30.size (fun v40 w40 hO40 hF40 hv40 => ?_) (fun w' hF => hC30.fr hF (fun e => by have := (hO30.blk e).1; omega) (fun e => by have := (hO30.blk e).1; omega))
            have hX40 : Ext w11 w40 := Ext.te hX30 hF40 fun j hj e => by have := (hO30.blk e).1; omega
            have hC40 := hC30.fr hF40 (fun e => by have := (hO30.blk e).1; omega) (fun e => by have := (hO30.blk e).1; omega)
            rw [List.nil_append] at hO40
            repeat' (first | refine xf0 ?_ | refine xldh rfl rfl (fun _ h => h.1) ?_ | refine xldh rfl rfl (fun _ h => h.2.1) ?_ | refine xldh rfl rfl (fun _ h => h.2.2.1) ?_ | refine xldh rfl rfl (fun _ h => h.2.2.2) ?_ | refine go1 ?_ | fail)
            refine xf1 ?_ ?_
            · skip
              refine xalloc (z := .agg #[.int .i64 0, .slice none 0 0]) (by kernel_rfl) (fun w41 hG41 hE41 hs41 => ?_) (fun w' he => hC40.ext he)
              have hX41 : Ext w11 w41 := hX40.t hE41
              have hC41 := hC40.ext hE41
              have hgg : w11.heap.size ≤ w40.heap.size := hX40.size
              have hO41 := hO40.ext hE41
              have hN41 : v40.ownBlock ≠ some w40.heap.size := fun e => by have := (hO40.blk e).2; omega
              repeat' (first | refine xldh rfl rfl (fun _ h => h.1) ?_ | refine xldh rfl rfl (fun _ h => h.2.1) ?_ | refine xldh rfl rfl (fun _ h => h.2.2.1) ?_ | refine xldh rfl rfl (fun _ h => h.2.2.2) ?_ | refine go1 ?_ | fail)
              refine xap sl_ints rfl rfl hO41 rfl (rb.ext hX41) (by simp) (fun u hu => by obtain ⟨z, _, rfl⟩ := List.mem_map.1 hu; rfl) (by unfold maxLen; simp; omega) (by simp; omega) hX41.size (fun v42 w42 hO42 hF42 hv42 => ?_) (fun w' hF => hC41.fr hF (fun e => by have := (hO41.blk e).1; omega) (fun e => by have := (hO41.blk e).1; omega))
              have hX42 : Ext w11 w42 := Ext.te hX41 hF42 fun j hj e => by have := (hO41.blk e).1; omega
              have hC42 := hC41.fr hF42 (fun e => by have := (hO41.blk e).1; omega) (fun e => by have := (hO41.blk e).1; omega)
              rw [← List.map_append] at hO42
              have hG42 := hG41.fr hF42 hN41
              have hN42 : v42.ownBlock ≠ some w40.heap.size := fun e => by
                rcases hv42 with h | h
                · exact hN41 (by rw [← h]; exact e)
                · rw [h] at e; have h5 : w41.heap.size = w40.heap.size := by simpa using e
                  have := Blk.lt hG41; omega
              obtain ⟨B42, d42, e42, _, _⟩ := hO42.form
              subst e42
              refine xbd (cells := #[.int .i64 (za + zb), (Value.slice B42 ((La ++ Lb).map (Value.int .i64)).length d42)]) rfl (by kernel_rfl) ?_
              refine xsta hG42 rfl rfl rfl rfl (one2 rfl (by obtain ⟨_, _, e, _⟩ := hO42.form; rw [e]; rfl)) (fun w43 hG43 hF43 => ?_) (fun w' hF => hC42.fr hF (by show ¬ ga = w40.heap.size; omega) (by show ¬ gb = w40.heap.size; omega))
              have hX43 : Ext w11 w43 := Ext.te hX42 hF43 fun j hj e => by omega
              have hO43 := hO42.fr hF43 fun b hb e => hN42 (by rw [hb, e])
              refine go ?_
              exact tfin ⟨(w40.heap.size, (Value.slice B42 ((La ++ Lb).map (Value.int .i64)).length d42)), sub ⟨rfl, rfl, rfl⟩, ⟨hG43, hO43, hX43, hgg, hN42⟩⟩
            · skip
              refine xap sl_ints rfl rfl hO40 rfl (rb.ext hX40) (by simp) (fun u hu => by obtain ⟨z, _, rfl⟩ := List.mem_map.1 hu; rfl) (by unfold maxLen; simp; omega) (by simp; omega) hX40.size (fun v50 w50 hO50 hF50 hv50 => ?_) (fun w' hF => hC40.fr hF (fun e => by have := (hO40.blk e).1; omega) (fun e => by have := (hO40.blk e).1; omega))
              have hX50 : Ext w11 w50 := Ext.te hX40 hF50 fun j hj e => by have := (hO40.blk e).1; omega
              have hC50 := hC40.fr hF50 (fun e => by have := (hO40.blk e).1; omega) (fun e => by have := (hO40.blk e).1; omega)
              rw [← List.map_append] at hO50
              obtain ⟨B50, d50, e50, _, _⟩ := hO50.form
              subst e50
              refine xnil ?_
              refine xf0 ?_
              refine xbd (cells := #[.int .i64 (za + zb), (Value.slice B50 ((La ++ Lb).map (Value.int .i64)).length d50)]) rfl (by kernel_rfl) ?_
              refine xnil ?_
              refine xf2 ?_
              refine xalloc (z := .agg #[.int .i64 0, .slice none 0 0]) (by kernel_rfl) (fun w51 hG51 hE51 hs51 => ?_) (fun w' he => hC50.ext he)
              have hX51 : Ext w11 w51 := hX50.t hE51
              have hC51 := hC50.ext hE51
              have hgg : w11.heap.size ≤ w50.heap.size := hX50.size
              have hO51 := hO50.ext hE51
              have hN51 : (Value.slice B50 ((La ++ Lb).map (Value.int .i64)).length d50).ownBlock ≠ some w50.heap.size := fun e => by have := (hO50.blk e).2; omega
              refine xsta hG51 rfl rfl rfl rfl (one2 rfl (by obtain ⟨_, _, e, _⟩ := hO51.form; rw [e]; rfl)) (fun w52 hG52 hF52 => ?_) (fun w' hF => hC51.fr hF (by show ¬ ga = w50.heap.size; omega) (by show ¬ gb = w50.heap.size; omega))
              have hX52 : Ext w11 w52 := Ext.te hX51 hF52 fun j hj e => by omega
              have hO52 := hO51.fr hF52 fun b hb e => hN51 (by rw [hb, e])
              refine go ?_
              exact tfin ⟨(w50.heap.size, (Value.slice B50 ((La ++ Lb).map (Value.int .i64)).length d50)), sub ⟨rfl, rfl, rfl⟩, ⟨hG52, hO52, hX52, hgg, hN51⟩⟩
      · rintro ⟨g9, vL⟩ w12 ⟨hG, hO, hX, hg9, hN⟩
        dsimp only at hG hO hX hg9 hN ⊢
        obtain ⟨AL, cL, eL, _, _, hAL⟩ := hO.irow.op
        subst eL
        have hjl : (La ++ Lb).length = La.length + Lb.length := List.length_append
        obtain ⟨L, hL⟩ : ∃ L, L = La ++ Lb := ⟨_, rfl⟩
        rw [← hL] at hO hAL hjH hmm hjl hG hN
        have hlens12 := hlens11.ext hX
        have hblL : ∀ b, (Value.slice AL L.length cL).ownBlock = some b → w11.heap.size ≤ b ∧ b < w12.heap.size := fun b hb => hO.blk hb
        have hb400 : (400 : Int) * k ≤ 160000 := by omega
        have hlnb : ∀ (i : Nat) (j : Nat), 0 ≤ (incs lens (L.take i)).getD j 0 ∧ (incs lens (L.take i)).getD j 0 ≤ 170000 := fun i j => by
          have h1 := incs_bd (L.take i) lens (400 * k) jlb j
          have h2 : (L.take i).length ≤ L.length := by rw [List.length_take]; omega
          omega
        refine go ?_
        refine tloop (α := Nat) (fun i => [(3, .slice (some ⟨gl, 0, none⟩) cs.length cs.length), (4, v11), (9, .pointer (some ⟨g9, 0, none⟩)), (10, .int .i64 (i : Int))]) (fun i w' => i ≤ L.length ∧ IB w' gl (incs lens (L.take i)) ∧ Fr (· = gl) w12 w') (fun i => L.length - i) 0 (sub ⟨rfl, rfl, rfl, rfl⟩) ⟨Nat.zero_le _, by simpa [incs] using hlens12, Fr.refl _ _⟩ ?_
        rintro i w13 ⟨hi, hI, hF13⟩
        have hG13 := hG.fr hF13 (by show ¬ g9 = gl; omega)
        have c1 : w13.cell? ⟨g9, 1, none⟩ = some (.slice AL L.length cL) := by rw [Blk.cell hG13]; rfl
        by_cases hil : i < L.length
        · obtain ⟨bL, oL, s, rfl, _, hs, hcell, _⟩ := hAL.at_ hil
          have hss := hmm s (List.mem_of_getElem? hs)
          have hbl := hblL bL rfl
          have c2 := hF13.cell hcell (by show ¬ bL = gl; omega)
          have htk : L.take (i + 1) = L.take i ++ [s] := by rw [List.take_add_one, hs]; rfl
          have hb := hlnb i s.toNat
          have c3 : w13.cell? ⟨gl, s.toNat, none⟩ = some (.int .i64 ((incs lens (L.take i)).getD s.toNat 0)) := hI.cell (by rw [incs_len]; omega)
          refine go ?_
          refine xisq s.toNat s.toNat rfl rfl rfl (by omega) (by omega) (by omega) ?_
          refine go ?_
          refine xisq s.toNat s.toNat rfl rfl rfl (by omega) (by omega) (by omega) ?_
          refine xsti hI rfl rfl rfl (by rw [incs_len]; omega) (fun w14 hI14 hF14 => ?_)
          refine go ?_
          exact tfin ⟨i + 1, sub ⟨rfl, rfl, rfl, rfl⟩, ⟨by omega, by rw [htk, incs_snoc]; exact hI14, hF13.t hF14⟩, (by show L.length - (i + 1) < L.length - i; omega)⟩
        · obtain rfl : i = L.length := by omega
          rw [List.take_length] at hI
          obtain ⟨Av, cv, ev11, _, _⟩ := hown11.form
          have hF1113 : Fr (· = gl) w11 w13 := hX.fr.t hF13
          have hown13 := hown11.fr hF1113 fun b hb e => by have := hv11b b hb; omega
          have hHL13 := hHL11.fr hF1113 (fun b hb => .inl (by have h5 : b = gl := hb; omega)) v11 fun b hb => .inl hb
          have hLl2 : ((ht.eraseIdx k1).eraseIdx k2).length ≤ 400 := Nat.le_trans (List.length_eraseIdx_le _ _) (Nat.le_trans (List.length_eraseIdx_le _ _) (by omega))
          refine go ?_
          refine xlda hG13 rfl rfl ?_
          refine xbz1 sl_heaps rfl rfl (by decide) (by decide) (fun w14 hB14 hE14 hs14 => ?_)
          refine xapz sl_heaps rfl (by decide) rfl (OwnZ.mono (hown13.ext hE14) (show gl + 1 ≤ w10.heap.size by omega)) rfl (blk_row hB14 (by decide) rfl) rfl (fun u hu => by simp at hu; rcases hu with rfl | rfl <;> rfl) (by unfold maxLen; omega) (by omega) (by have := hF1113.size; have := hE14.size; omega) (fun v15 w15 hown15 hF15 hv15 => ?_)
          refine go ?_
          have hF1315 : Fr (fun b => v11.ownBlock = some b) w13 w15 := hE14.fr.t hF15
          have hsz13 := hF1113.size
          have hsz15 := hF15.size
          have hE14s := hE14.size
          have hnv : ∀ b, v15.ownBlock = some b → v11.ownBlock = some b ∨ w13.heap.size ≤ b := fun b hb => by
            rcases hv15 with h | h
            · left; rw [← h]; exact hb
            · right; rw [h] at hb; have h5 : w14.heap.size = b := by simpa using hb
              omega
          refine tfin ⟨(k + 1, v15, (ht.eraseIdx k1).eraseIdx k2 ++ [(za + zb, .slice AL L.length cL)]), sub ⟨rfl, rfl⟩, ⟨by dsimp only; omega, ?_, ?_, ?_, ?_⟩, (by show (posB cs).length - (k + 1) < (posB cs).length - k; omega)⟩
          · dsimp only
            rw [hcs_app, List.length_append]
            exact hown15
          · dsimp only
            rw [hrun1, hjH]
            refine HL.snoc (hHL13.fr hF1315 (fun b hb => .inr (.inl hb)) v15 hnv) rfl ?_ ?_
            · refine (hO.irow.fr hF13 fun b hb e => ?_).fr hF1315 fun b hb e => ?_
              · have := hblL b hb; have h5 : b = gl := e; omega
              · have h1 := hblL b hb; have h2 := hv11b b e; omega
            · intro b hb
              have h1 := hblL b hb
              have h2 := hF13.size
              refine ⟨by omega, by omega, fun e => ?_⟩
              rcases hnv b e with h | h
              · have := hv11b b h; omega
              · omega
          · dsimp only
            rw [hrun2, hjH]
            exact hI.fr hF1315 fun e => by have := hv11b gl e; omega
          · exact Ext.te (Ext.te hE11w hF1113 fun j hj e => by omega) hF1315 fun j hj e => by have := hv11b j e; omega
    · subst e3
      refine go ?_
      refine tret1 rfl rfl ⟨gl, rfl, by omega, ?_, hE3⟩
      have : joinsB cs = (jrun cs k).2 := by
        unfold joinsB
        rw [show (posB cs).length - 1 = k from by omega]
      rw [this]; exact hlens
end Eng
end Go.Proofs.Ytighkjohpmlemaa
