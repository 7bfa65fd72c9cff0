/-
  Parts of the proof: Wb.
-/
import Derived.Lib.Bytealg
import Derived.Test.YtiebbecknfpdeaaGreatDoorNB0b
import Derived.Test.YtiebbecknfpdeaaGreatDoorNWa
set_option maxRecDepth 100000
set_option maxHeartbeats 64000000
namespace Go.Proofs.YtiebbecknfpdeaaGreatDoor.Eng
open Go.RowKit
section
attribute [local irreducible] xs T
def lix (l : Str) (c : UInt8) : Nat → Int
 | 0 => -1
 | k + 1 => if l[k]? = some c then k else lix l c k
theorem lix_none {l : Str} {c : UInt8} (h : c ∉ l) : ∀ k, lix l c k = -1
 | 0 => rfl
 | k + 1 => by
  rw [lix, if_neg (fun e => h (List.mem_of_getElem? e)), lix_none h k]
theorem lix_mid {a x : Str} {c : UInt8} (h : c ∉ x) : ∀ j, j ≤ x.length → lix (a ++ c :: x) c (a.length + 1 + j) = a.length
 | 0, _ => by
  rw [Nat.add_zero, lix, if_pos (by simp)]
 | j + 1, hj => by
  rw [← Nat.add_assoc, lix, if_neg ?_, lix_mid h j (by omega)]
  intro e
  rw [List.getElem?_append_right (by omega), show a.length + 1 + j - a.length = j + 1 from by omega, List.getElem?_cons_succ] at e
  exact h (List.mem_of_getElem? e)
theorem lastix_does (w : World) (l : Str) (hl : l.length ≤ 1000000) : Does Tryz.prog 191 #[.string (su l), .int .u8 47] w fun r w' => r = .int .i64 (lix l 47 l.length) ∧ w = w' := by
 refine does2 Tryz.func191 rfl (by kernel_rfl) ?_
 refine gz2 ?_
 refine tloop (α := Nat) (fun k => [(0, .string (su l)), (1, .int .u8 47), (5, .int .i64 ((k : Int) - 1))]) (fun k w' => w = w' ∧ k ≤ l.length ∧ lix l 47 k = lix l 47 l.length) (fun k => k) l.length (sub ⟨rfl, rfl, rfl⟩) ⟨rfl, Nat.le_refl _, rfl⟩ ?_
 rintro k w1 ⟨rfl, hk, hgo⟩
 cases k with
 | zero =>
  refine gz2 ?_
  exact tret1 rfl rfl ⟨by rw [← hgo]; rfl, rfl⟩
 | succ k =>
  obtain ⟨c, hc⟩ : ∃ c, l[k]? = some c := ⟨_, List.getElem?_eq_getElem (by omega)⟩
  rw [lix, hc] at hgo
  by_cases h : c = 47
  ·have e1 : ((c.toNat : Int)) = 47 := by rw [h]; rfl
   rw [if_pos (by rw [h])] at hgo
   repeat' (first | refine xui (z := c) k rfl rfl rfl (by omega) hc ?_ | refine xuln1 rfl rfl ?_ | refine xuln rfl rfl ?_ | refine go1L ?_ | fail)
   exact tret1 rfl rfl ⟨by rw [← hgo]; congr 1; omega, rfl⟩
  ·have e1 : ¬ ((c.toNat : Int)) = 47 := fun e => h ((u8_eq (n := 47) (by decide)).1 e)
   rw [if_neg (fun e => h (Option.some.inj e))] at hgo
   repeat' (first | refine xui (z := c) k rfl rfl rfl (by omega) hc ?_ | refine xuln1 rfl rfl ?_ | refine xuln rfl rfl ?_ | refine go1L ?_ | fail)
   exact tfin ⟨k, sub ⟨rfl, rfl, ieq (by omega)⟩, ⟨rfl, by omega, hgo⟩, (by show k < k + 1; omega)⟩
theorem slastix_does (w : World) (l : Str) (hl : l.length ≤ 1000000) : Does Tryz.prog 156 #[.string (su l), .int .u8 47] w fun r w' => r = .int .i64 (lix l 47 l.length) ∧ w = w' := by
 refine does2 Tryz.func156 rfl (by kernel_rfl) ?_
 refine goL ?_
 refine xcall rfl rfl (lastix_does w l hl) (fun r w1 h1 => ?_)
 exact y24
def parS (s : Str) : Str := (parP s).getD []
theorem par_lix {s : Str} (hm : mayP s = true) (h0 : s ≠ []) : parP s = some (upP s) ∧ ((lix s 47 s.length = -1 ∧ upP s = []) ∨ ∃ k : Nat, lix s 47 s.length = k ∧ k ≤ s.length ∧ upP s = s.take k) := by
 have hne : partsP s ≠ [] := by rw [partsP_ok hm h0]; exact cutU_ne s
 refine ⟨by unfold parP; rw [if_neg hne], ?_⟩
 have hj := join_parts hm
 obtain ⟨l, x, hl⟩ : ∃ l x, partsP s = l ++ [x] := ⟨_, _, (List.dropLast_concat_getLast hne).symm⟩
 have hx : (47 : UInt8) ∉ x := by
  have : x ∈ cutU s := by rw [← partsP_ok hm h0, hl]; simp
  exact cutU_ns s x this
 rw [hl] at hj
 have hup : upP s = joinU l := by unfold upP; rw [hl, List.dropLast_concat]
 by_cases h1 : l = []
 ·subst h1
  have : s = x := hj.symm
  left
  exact ⟨by rw [this]; exact lix_none hx _, by rw [hup]; rfl⟩
 ·rw [join_snoc l x h1] at hj
  right
  refine ⟨(joinU l).length, ?_, ?_, ?_⟩
  ·rw [← hj]
   have := lix_mid (a := joinU l) hx x.length (Nat.le_refl _)
   rw [List.length_append, List.length_cons, show (joinU l).length + (x.length + 1) = (joinU l).length + 1 + x.length from by omega]
   exact this
  ·rw [← hj]; simp
  ·rw [hup, ← hj, List.take_left]
theorem parent_does (w : World) (l : Str) : Does Tryz.prog 112 #[.string (su l)] w fun r w' => r = .tuple #[.string (su (parS l)), .bool (parP l).isSome] ∧ Ext w w' := by
 refine does1 Tryz.func112 rfl (by kernel_rfl) ?_
 by_cases h0 : l = []
 ·subst h0
  refine gz11 ?_
  exact tret2 rfl rfl rfl ⟨rfl, Fr.refl _ _⟩
 refine gz7 ?_
 refine xcall rfl rfl (may_does w l) (fun r w1 h1 => ?_)
 obtain ⟨rfl, hE⟩ := h1
 cases hm : mayP l with
 | false =>
  have e : parP l = none := by unfold parP; rw [if_pos (partsP_no hm)]
  refine gz2 ?_
  exact tret2 rfl rfl rfl ⟨by rw [parS, e]; rfl, hE⟩
 | true =>
  have hlen := mayP_len hm
  obtain ⟨e, hc⟩ := par_lix hm h0
  refine gz2 ?_
  refine xcall rfl rfl (slastix_does w1 l (by omega)) (fun r w2 h2 => ?_)
  obtain ⟨rfl, rfl⟩ := h2
  rcases hc with ⟨h1, h2⟩ | ⟨k, h1, h2, h3⟩
  ·rw [h1]
   refine gz2 ?_
   exact tret2 rfl rfl rfl ⟨by rw [parS, e, h2]; rfl, hE⟩
  ·rw [h1]
   repeat' (first | refine xusl0 k rfl rfl rfl rfl h2 ?_ | refine xuln1 rfl rfl ?_ | refine xuln rfl rfl ?_ | refine go1L ?_ | fail)
   exact tret2 rfl rfl rfl ⟨by rw [parS, e, h3]; rfl, hE⟩
theorem cut_count : ∀ s : Str, (cutU s).length = s.count 47 + 1
 | [] => rfl
 | c :: r => by
  have ih := cut_count r
  by_cases hc : c = 47
  ·subst hc; simp [cutU, ih]
  ·rw [cutU, if_neg hc, List.count_cons_of_ne hc]
   split
   ·rename_i h t e; rw [e] at ih; simpa using ih
   ·rename_i e; exact absurd e (cutU_ne r)
theorem count_does (w : World) (l : Str) : Does Tryz.prog 250 #[.string (su l), .string (su [47])] w fun r w' => r = .int .i64 (l.count 47 : Int) ∧ w = w' := by
 refine does2 Tryz.func250 rfl (by kernel_rfl) ?_
 repeat' (first | refine xui (z := 47) 0 rfl rfl rfl rfl rfl ?_ | refine xuln1 rfl rfl ?_ | refine xuln rfl rfl ?_ | refine go1L ?_ | fail)
 refine xext (e := Extern.BytealgCount.count) Tryz.func266 (by kernel_rfl) (by kernel_rfl) (by kernel_rfl) (by kernel_rfl) rfl (Lib.run_countString (su l) _ w) ?_
 refine goL ?_
 refine tret1 rfl rfl ⟨?_, rfl⟩
 simp [Lib.countByte, su]
theorem sindex_does (w : World) (l : Str) (c : UInt8) : Does Tryz.prog 251 #[.string (su l), .string (su [c])] w fun r w' => r = .int .i64 (idxI l c) ∧ w = w' := by
 refine does2 Tryz.func251 rfl (by kernel_rfl) ?_
 refine goL ?_
 refine xcall rfl rfl (ix1_does w l c) (fun r w1 h1 => ?_)
 exact y24
theorem sl_strs : SlT 24 9 (.string ⟨#[]⟩) 1 16 := slT Tryz.underlying24 (by kernel_rfl)
structure SpI (l : Str) (g n : Nat) (w0 : World) (x : Nat × List Str × Str) (w : World) : Prop where
 i : x.1 + 1 ≤ n
 len : x.2.1.length = x.1
 blk : Blk w g 9 (x.2.1.map (fun s => Value.string (su s)) ++ List.replicate (n - x.1) (Value.string ⟨#[]⟩)).toArray
 cut : x.2.1 ++ cutU x.2.2 = cutU l
 sl : x.2.2.length ≤ l.length
 ext : Ext w0 w
theorem set_next {α : Type} {a b : List α} {i k : Nat} {x y : α} (hi : a.length = i) (hk : b = List.replicate (k + 1) y) : ((a ++ b).toArray.setIfInBounds i x) = (a ++ [x] ++ List.replicate k y).toArray := by
 subst hk
 rw [List.setIfInBounds_toArray, List.set_append_right _ _ (by omega), hi, Nat.sub_self, List.replicate_succ, List.set_cons_zero]
 simp
theorem gensplit_does (w : World) (l : Str) (hl : l.length ≤ 1000000) : Does Tryz.prog 214 #[.string (su l), .string (su [47]), .int .i64 0, .int .i64 (-1)] w fun r w' => Ow stC 1 w' w.heap.size 9 r (cutU l) ∧ Ext w w' := by
 refine does4 Tryz.func214 rfl (by kernel_rfl) ?_
 have hn := cut_count l
 have hcl : l.count 47 ≤ l.length := List.count_le_length
 obtain ⟨n, hne⟩ : ∃ n, n = l.count 47 + 1 := ⟨_, rfl⟩
 have hmin : min ((l.count 47 : Int) + 1) ((l.length : Int) + 1) = (n : Int) := by omega
 repeat' (first | refine xucmp (op := .eql) (b := []) (r := false) rfl rfl rfl ?_ | refine xuln1 rfl rfl ?_ | refine xuln rfl rfl ?_ | refine go1L ?_ | fail)
 refine xcall rfl rfl (count_does w l) (fun r w1 h1 => ?_)
 obtain ⟨rfl, rfl⟩ := h1
 repeat' (first | refine xmin rfl rfl ?_ | refine xuln1 rfl rfl ?_ | refine xuln rfl rfl ?_ | refine go1L ?_ | fail)
 rw [hmin]
 refine goL ?_
 refine xmk sl_strs rfl rfl rfl (by omega) (by omega) (by omega) (fun w1 hB1 hE1 hs1 => ?_)
 rw [Int.toNat_natCast] at hB1 ⊢
 refine goL ?_
 refine tloop (α := Nat × List Str × Str) (fun x => [(0, .string (su x.2.2)), (1, .string (su [47])), (2, .int .i64 0), (3, .int .i64 ((n : Int) - 1)), (9, .slice (some ⟨w.heap.size, 0, none⟩) n n), (10, .int .i64 (x.1 : Int))]) (SpI l w.heap.size n w) (fun x => n - x.1) (0, [], l) (sub ⟨rfl, rfl, rfl, rfl, rfl, rfl⟩) ⟨by dsimp only; omega, rfl, by simpa using hB1, rfl, Nat.le_refl _, hE1⟩ ?_
 rintro ⟨i, done, s⟩ w2 ⟨hi, hlen, hB, hcut, hsl, hE⟩
 dsimp only at hi hlen hB hcut hsl hE ⊢
 have hcl2 : done.length + (cutU s).length = n := by rw [← List.length_append, hcut, hn, hne]
 have hc1 := cutU_cut s
 by_cases hlt : i < n - 1
 ·have hm : (cut1 s).2.2 = true := by
   cases hm : (cut1 s).2.2 with
   | true => rfl
   | false => rw [hm] at hc1; rw [hc1] at hcl2; simp at hcl2; omega
  have hlen1 := cut1_len s hm
  have happ := cut1_app s hm
  have hidx := idx_cut s
  rw [hm, if_pos rfl] at hidx
  rw [hm, if_pos rfl] at hc1
  obtain ⟨a, ha⟩ : ∃ a, a = (cut1 s).1 := ⟨_, rfl⟩
  obtain ⟨b, hb⟩ : ∃ b, b = (cut1 s).2.1 := ⟨_, rfl⟩
  rw [← ha] at hidx
  rw [← ha, ← hb] at hlen1 happ hc1
  have e1 : s.take a.length = a := by rw [happ, List.take_left]
  have e2 : s.drop (a.length + 1) = b := by rw [happ, ← List.drop_drop, List.drop_left]; rfl
  refine gz2 ?_
  refine xcall rfl rfl (sindex_does w2 s 47) (fun r w3 h3 => ?_)
  obtain ⟨rfl, rfl⟩ := h3
  rw [hidx]
  repeat' (first | refine xusl0 a.length rfl rfl rfl (by omega) (by omega) ?_ | refine xisq i i rfl rfl rfl rfl (by omega) (by omega) ?_ | refine xuln1 rfl rfl ?_ | refine xuln rfl rfl ?_ | refine go1L ?_ | fail)
  refine xstb hB rfl rfl rfl rfl (by rw [decide_eq_true_eq]; simp; omega) (fun w3 hB3 hF3 => ?_)
  rw [e1, set_next (k := n - (i + 1)) (y := .string ⟨#[]⟩) (by simpa using hlen) (by congr 1; omega)] at hB3
  repeat' (first | refine xusl1 (a.length + 1) rfl rfl rfl (by simp) (by omega) ?_ | refine xuln1 rfl rfl ?_ | refine xuln rfl rfl ?_ | refine go1L ?_ | fail)
  rw [e2]
  exact tfin ⟨(i + 1, done ++ [a], b), sub ⟨rfl, rfl, rfl, rfl, rfl, rfl⟩, ⟨by dsimp only; omega, by dsimp only; rw [List.length_append, hlen]; rfl, by dsimp only; rw [List.map_append]; exact hB3, by dsimp only; rw [← hcut, hc1, List.append_assoc]; rfl, by dsimp only; omega, Ext.te hE hF3 fun j hj e => by have e' : j = w.heap.size := e; omega⟩, (by show n - (i + 1) < n - i; omega)⟩
 ·have hi' : i = n - 1 := by omega
  have hcs : cutU s = [s] := by
   have : (cut1 s).2.2 = false := by
    cases hm : (cut1 s).2.2 with
    | false => rfl
    | true =>
     rw [hm, if_pos rfl] at hc1
     have h1 := congrArg List.length hc1
     have h2 : 0 < (cutU (cut1 s).2.1).length := List.length_pos_iff.2 (cutU_ne _)
     simp at h1; omega
   rw [hc1, this, (cut1_no s this).1]; rfl
  repeat' (first | refine xisq i i rfl rfl rfl rfl (by omega) (by omega) ?_ | refine xuln1 rfl rfl ?_ | refine xuln rfl rfl ?_ | refine go1L ?_ | fail)
  refine xstb hB rfl rfl rfl rfl (by rw [decide_eq_true_eq]; simp; omega) (fun w3 hB3 hF3 => ?_)
  rw [set_next (k := 0) (y := .string ⟨#[]⟩) (by simpa using hlen) (by congr 1; omega)] at hB3
  refine gz2 ?_
  refine xsl0 rfl rfl rfl (by omega) (by omega) (fun A' hA' => ?_)
  obtain rfl := hA' _ _ rfl (by omega)
  refine goL ?_
  refine tret1 rfl rfl ⟨?_, Ext.te hE hF3 fun j hj e => by have e' : j = w.heap.size := e; omega⟩
  rw [show ((i : Int) + 1).toNat = n from by omega]
  refine Ow.of_blk stC_len hB3 ?_ (Nat.le_refl _) (by rw [hn, hne]) (by unfold maxLen; omega)
  rw [← hcut, hcs, stC_map, List.map_append]
  simp
theorem split_does (w : World) (l : Str) (hl : l.length ≤ 1000000) : Does Tryz.prog 195 #[.string (su l), .string (su [47])] w fun r w' => Ow stC 1 w' w.heap.size 9 r (cutU l) ∧ Ext w w' := by
 refine does2 Tryz.func195 rfl (by kernel_rfl) ?_
 refine goL ?_
 refine xcall rfl rfl (gensplit_does w l hl) (fun r w1 h1 => ?_)
 obtain ⟨h1, hE⟩ := h1
 refine goL ?_
 exact tret1 rfl rfl ⟨h1, hE⟩
theorem parts_does (w : World) (l : Str) : Does Tryz.prog 160 #[.string (su l)] w fun r w' => Ow stC 1 w' w.heap.size 9 r (partsP l) ∧ Ext w w' := by
 refine does1 Tryz.func160 rfl (by kernel_rfl) ?_
 by_cases h0 : l = []
 ·subst h0
  refine gz11 ?_
  exact tret1 rfl rfl ⟨Ow.nil _ _ _, Fr.refl _ _⟩
 refine gz7 ?_
 refine xcall rfl rfl (may_does w l) (fun r w1 h1 => ?_)
 obtain ⟨rfl, hE⟩ := h1
 cases hm : mayP l with
 | false =>
  refine gz2 ?_
  exact tret1 rfl rfl ⟨by rw [partsP_no hm]; exact Ow.nil _ _ _, hE⟩
 | true =>
  have hlen := mayP_len hm
  refine gz2 ?_
  refine xcall rfl rfl (split_does w1 l (by omega)) (fun r w2 h2 => ?_)
  obtain ⟨h2, hE2⟩ := h2
  refine gz2 ?_
  exact tret1 rfl rfl ⟨by rw [partsP_ok hm h0]; exact h2.mono hE.size, hE.t hE2⟩
theorem last_get {l : List Str} (h : l ≠ []) : l[l.length - 1]? = some (l.getLastD []) := by
 rw [List.getLastD_eq_getLast?, List.getLast?_eq_getElem?]
 have : 0 < l.length := List.length_pos_iff.2 h
 rw [List.getElem?_eq_getElem (by omega)]; rfl
theorem last_does (w : World) (l : Str) : Does Tryz.prog 122 #[.string (su l)] w fun r w' => r = .string (su (lastP l)) ∧ Ext w w' := by
 refine does1 Tryz.func122 rfl (by kernel_rfl) ?_
 refine gz2 ?_
 refine xcall rfl rfl (parts_does w l) (fun r w1 h1 => ?_)
 obtain ⟨h1, hE⟩ := h1
 have hpl := parts_len l
 obtain ⟨A, c, rfl, hc1, hc2, hA⟩ := h1.rw.op stC_len
 by_cases h0 : partsP l = []
 ·have hz : (partsP l).length = 0 := by rw [h0]; rfl
  refine gz2 ?_
  exact tret1 rfl rfl ⟨by rw [lastP, h0]; rfl, hE⟩
 ·have hz : 0 < (partsP l).length := List.length_pos_iff.2 h0
  obtain ⟨b, o, x, rfl, _, hx, _, hcell⟩ := hA.at_ (i := (partsP l).length - 1) (by omega)
  have hx' : x = lastP l := by
   rw [last_get h0] at hx
   exact (Option.some.inj hx).symm
  exact y69
def ppS (s : Str) : List Str := if s = [] then [] else cutU s
def GoodS (s : Str) : Prop := s = [] ∨ ∀ x ∈ cutU s, x ≠ []
theorem pp_step {s : Str} (h : GoodS s) (h0 : s ≠ []) : ppS s = (cut1 s).1 :: ppS (cut1 s).2.1 ∧ GoodS (cut1 s).2.1 ∧ (cut1 s).2.1.length < s.length ∧ s.length ≤ (cut1 s).1.length + 1 + (cut1 s).2.1.length := by
 have hg : ∀ x ∈ cutU s, x ≠ [] := h.resolve_left h0
 have hc := cutU_cut s
 unfold ppS
 rw [if_neg h0, hc]
 cases hm : (cut1 s).2.2 with
 | false =>
  obtain ⟨e1, e2⟩ := cut1_no s hm
  rw [e2, e1]
  refine ⟨rfl, .inl rfl, List.length_pos_iff.2 h0, by simp⟩
 | true =>
  have hl := cut1_len s hm
  rw [if_pos rfl]
  rw [hm, if_pos rfl] at hc
  have hne : (cut1 s).2.1 ≠ [] := by
   intro e
   exact hg [] (by rw [hc, e]; simp [cutU]) rfl
  rw [if_neg hne]
  exact ⟨rfl, .inr fun x hx => hg x (by rw [hc]; exact List.mem_cons_of_mem _ hx), by omega, by omega⟩
theorem pp_parts {s : Str} (h : mayP s = true) : ppS s = partsP s ∧ GoodS s := by
 by_cases h0 : s = []
 ·subst h0; exact ⟨rfl, .inl rfl⟩
 ·refine ⟨by unfold ppS; rw [if_neg h0, partsP_ok h h0], .inr fun x hx => nameU_ne ((mayP_op h h0).1 x hx)⟩
structure LsI (a0 b0 : Str) (w0 : World) (x : Str × Str) (w : World) : Prop where
 ga : GoodS x.1
 gb : GoodS x.2
 la : x.1.length ≤ 100
 lb : x.2.length ≤ 100
 go : lessL (ppS x.1) (ppS x.2) = lessP a0 b0
 ext : Ext w0 w
theorem filt (a : Str) : ∃ a', (if mayP a then a else []) = a' ∧ ppS a' = partsP a ∧ GoodS a' ∧ a'.length ≤ 100 := by
 cases h : mayP a with
 | true => exact ⟨a, rfl, (pp_parts h).1, (pp_parts h).2, mayP_len h⟩
 | false => exact ⟨[], rfl, by rw [partsP_no h]; rfl, .inl rfl, by simp⟩
theorem less_does (w : World) (a b : Str) : Does Tryz.prog 117 #[.string (su a), .string (su b)] w fun r w' => r = .bool (lessP a b) ∧ Ext w w' := by
 refine does2 Tryz.func117 rfl (by kernel_rfl) ?_
 obtain ⟨a', ea, pa, ga, la⟩ := filt a
 obtain ⟨b', eb, pb, gb, lb⟩ := filt b
 refine goL ?_
 refine tscope1 (α := Str × Str) 0 rfl (fun x => [(0, .string (su x.1)), (1, .string (su x.2))]) (LsI a b w) (fun x => x.1.length) ?_ ?_
 ·rintro ⟨p, q⟩ w1 ⟨hga, hgb, hla, hlb, hgo, hE⟩
  dsimp only at hga hgb hla hlb hgo ⊢
  by_cases hp : p = []
  ·subst hp
   by_cases hq : q = []
   ·subst hq
    repeat' (first | refine xucmp (op := .neq) (b := []) (r := false) rfl rfl rfl ?_ | refine xucmp (op := .eql) (b := []) (r := true) rfl rfl rfl ?_ | refine xuln1 rfl rfl ?_ | refine xuln rfl rfl ?_ | refine go1L ?_ | fail)
    exact tret1 rfl rfl ⟨by rw [← hgo]; rfl, hE⟩
   ·repeat' (first | refine xucmp (op := .neq) (b := []) (r := false) rfl rfl rfl ?_ | refine xucmp (op := .eql) (b := []) (r := true) rfl rfl rfl ?_ | refine xucmp (op := .neq) (b := []) (r := true) rfl rfl (by simp [cmpU, hq]) ?_ | refine xuln1 rfl rfl ?_ | refine xuln rfl rfl ?_ | refine go1L ?_ | fail)
    refine tret1 rfl rfl ⟨?_, hE⟩
    rw [← hgo, (pp_step hgb hq).1]; rfl
  ·by_cases hq : q = []
   ·subst hq
    repeat' (first | refine xucmp (op := .neq) (b := []) (r := false) rfl rfl rfl ?_ | refine xucmp (op := .eql) (b := []) (r := false) rfl rfl (by simp [cmpU, hp]) ?_ | refine xucmp (op := .neq) (b := []) (r := true) rfl rfl (by simp [cmpU, hp]) ?_ | refine xuln1 rfl rfl ?_ | refine xuln rfl rfl ?_ | refine go1L ?_ | fail)
    refine tret1 rfl rfl ⟨?_, hE⟩
    rw [← hgo, (pp_step hga hp).1]; rfl
   ·obtain ⟨p1, p2, p3, _⟩ := pp_step hga hp
    obtain ⟨q1, q2, q3, _⟩ := pp_step hgb hq
    rw [p1, q1, lessL] at hgo
    repeat' (first | refine xucmp (op := .neq) (a := p) (b := []) (r := true) rfl rfl (by simp [cmpU, hp]) ?_ | refine xucmp (op := .neq) (a := q) (b := []) (r := true) rfl rfl (by simp [cmpU, hq]) ?_ | refine xuln1 rfl rfl ?_ | refine xuln rfl rfl ?_ | refine go1L ?_ | fail)
    refine xcall rfl rfl (cut_does w1 p (by omega)) (fun r w2 h2 => ?_)
    obtain ⟨rfl, hE2⟩ := h2
    refine goL ?_
    refine xcall rfl rfl (cut_does w2 q (by omega)) (fun r w3 h3 => ?_)
    obtain ⟨rfl, hE3⟩ := h3
    have hE4 := hE.t (hE2.t hE3)
    refine goL ?_
    by_cases e : (cut1 p).1 = (cut1 q).1
    ·rw [if_pos e] at hgo
     repeat' (first | refine xucmp (op := .neq) (r := false) rfl rfl (by simp [cmpU, e]) ?_ | refine xuln1 rfl rfl ?_ | refine xuln rfl rfl ?_ | refine go1L ?_ | fail)
     exact tgoto rfl ⟨_, (by show (cut1 p).2.1.length < p.length; omega), rfl, ((cut1 p).2.1, (cut1 q).2.1), sub ⟨rfl, rfl⟩, ⟨p2, q2, by dsimp only; omega, by dsimp only; omega, hgo, hE4⟩, rfl⟩
    ·rw [if_neg e] at hgo
     repeat' (first | refine xucmp (op := .neq) (r := true) rfl rfl (by simp [cmpU, e]) ?_ | refine xucmp (op := .lss) rfl rfl rfl ?_ | refine xuln1 rfl rfl ?_ | refine xuln rfl rfl ?_ | refine go1L ?_ | fail)
     exact tret1 rfl rfl ⟨by rw [← hgo], hE4⟩
 ·intro H
  refine goL ?_
  refine xcall rfl rfl (may_does w a) (fun r w1 h1 => ?_)
  obtain ⟨rfl, hE1⟩ := h1
  refine goL ?_
  refine tcut (α := Unit) (fun _ => [(0, .string (su a')), (1, .string (su b))]) (fun _ w' => w1 = w') ?_ ?_
  ·cases hm : mayP a with
   | true =>
    rw [hm, if_pos rfl] at ea
    subst ea
    exact y52
   | false =>
    rw [hm, if_neg (by decide)] at ea
    subst ea
    exact y52
  rintro _ _ rfl
  refine goL ?_
  refine xcall rfl rfl (may_does w1 b) (fun r w2 h2 => ?_)
  obtain ⟨rfl, hE2⟩ := h2
  have fin : LsI a b w (a', b') w2 := ⟨ga, gb, la, lb, by dsimp only; rw [pa, pb]; rfl, hE1.t hE2⟩
  cases hm : mayP b with
  | true =>
   rw [hm, if_pos rfl] at eb
   subst eb
   refine goL ?_
   refine tlabel ?_
   exact tweak (H (a', b) w2 fin) (sub ⟨rfl, rfl⟩)
  | false =>
   rw [hm, if_neg (by decide)] at eb
   subst eb
   refine goL ?_
   refine tlabel ?_
   exact tweak (H (a', []) w2 fin) (sub ⟨rfl, rfl⟩)
end
end Go.Proofs.YtiebbecknfpdeaaGreatDoor.Eng
