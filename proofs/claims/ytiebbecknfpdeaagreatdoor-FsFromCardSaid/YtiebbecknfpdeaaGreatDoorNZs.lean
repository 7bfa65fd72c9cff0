/-
  Parts of the proof: Zs.
-/
import Derived.Test.YtiebbecknfpdeaaGreatDoorNB0a
import Derived.Test.YtiebbecknfpdeaaGreatDoorNB10
import Derived.Test.YtiebbecknfpdeaaGreatDoorNWy
import Derived.Test.YtiebbecknfpdeaaGreatDoorNZr
set_option maxRecDepth 100000
set_option maxHeartbeats 64000000
namespace Go.Proofs.YtiebbecknfpdeaaGreatDoor.Eng
open Go.RowKit
section
def RsNew (q : Int) (fl : List (Int × Int)) (w : World) (r : Value) (w' : World) : Prop :=
 Ext w w' ∧ (newE q ≠ 0 ∧ r = .pointer none ∨ newE q = 0 ∧ ∃ g vf ve vn, r = .pointer (some ⟨g, 0, none⟩) ∧ RsI w' g ⟨q, fl, 0, false⟩ vf ve vn [rootV] rootT ∧ w.heap.size ≤ g ∧ ∀ b, RwK vf fl b ∨ TrN ve vn [rootV] rootT b → w.heap.size ≤ b)
def RsFrom (q : Int) (fl : List (Int × Int)) (nvs : List NdV) (t : Tre) (w : World) (p : Value) (w' : World) : Prop :=
 Ext w w' ∧ (fromE q t ≠ 0 ∧ p = .pointer none ∨ fromE q t = 0 ∧ ∃ g vf ve vn nvs', p = .pointer (some ⟨g, 0, none⟩) ∧ RsI w' g ⟨q, fl, 0, false⟩ vf ve vn nvs' t ∧ w.heap.size ≤ g ∧ (∀ b, RwK vf fl b ∨ RwK ve t.es b ∨ RwK vn nvs' b → w.heap.size ≤ b) ∧ ∀ y ∈ nvs', y ∈ nvs)
theorem rootT_ts : TsOK rootT := ⟨fun n hn => by rw [List.mem_singleton.1 hn]; decide, fun n hn => by rw [List.mem_singleton.1 hn]; decide, fun n hn => by rw [List.mem_singleton.1 hn]; decide⟩
theorem zsG {p q : Prop} (k : q) (h : Hid q → p := by intro hq; (repeat' (first | refine xldzh (cs := ndC rootV) rfl (by kernel_rfl) (fun w' (h : Blk w' _ _ _) j u hu => by rw [Nat.zero_add, h.cell, List.getElem?_toArray]; exact hu) ?_ | refine go1L ?_ | fail)); exact hq.out) : p := h ⟨k⟩
theorem zs1 {p q : Prop} (k : q) (h : Hid q → p := by intro hq; (refine xbz1 sl_ents rfl rfl (by decide) (by decide) (fun b hB hE hs => ?_) (fun w' he => hH0 w' (fa.t he))); (obtain ⟨x, hx⟩ : ∃ x, x = a.heap.size := ⟨_, rfl⟩); (rw [← hx]); (have f := fa.t hE); (have e : Blk b x 54 (enC ⟨[], 0⟩).toArray ∧ w2.heap.size ≤ x := ⟨by rw [hx]; exact hB, by rw [hx]; exact fa.size⟩); (first | have n : Blk b N 67 (ndC rootV).toArray ∧ w2.heap.size ≤ N := ⟨Blk.ext na.1 hE, na.2⟩ | have n : b = b := rfl); (first | have v := Ow.ext va hE | have v : b = b := rfl); (clear hB hE hs); (clear hx); (refine zsG ?_); (revert v n e f); (revert b); (revert x); exact hq.out) : p := h ⟨k⟩
theorem zs3 {p q : Prop} (k : q) (h : Hid q → p := by intro hq; (refine xbz1 sl_nds rfl rfl (by decide) (by decide) (fun b hB hE hs => ?_) (fun w' he => hH0 w' (fa.t he))); (obtain ⟨x, hx⟩ : ∃ x, x = a.heap.size := ⟨_, rfl⟩); (rw [← hx]); (have f := fa.t hE); (first | have e : Blk b E 54 (enC ⟨[], 0⟩).toArray ∧ w2.heap.size ≤ E := ⟨Blk.ext ea.1 hE, ea.2⟩ | have e : b = b := rfl); (have n : Blk b x 67 (ndC rootV).toArray ∧ w2.heap.size ≤ x := ⟨by rw [hx]; exact hB, by rw [hx]; exact fa.size⟩); (first | have v := Ow.ext va hE | have v : b = b := rfl); (clear hB hE hs); (clear hx); (refine zsG ?_); (revert v n e f); (revert b); (revert x); exact hq.out) : p := h ⟨k⟩
theorem zs6 {p q : Prop} (k : q) (h : Hid q → p := by intro hq; (refine xbz0 sl_flts (fun b hO hE hs => ?_) (fun w' he => hH0 w' (fa.t he))); (obtain ⟨x, hx⟩ : ∃ x, x = Value.slice (some ⟨a.heap.size, 0, none⟩) 0 0 := ⟨_, rfl⟩); (rw [← hx]); (have f := fa.t hE); (first | have e : Blk b E 54 (enC ⟨[], 0⟩).toArray ∧ w2.heap.size ≤ E := ⟨Blk.ext ea.1 hE, ea.2⟩ | have e : b = b := rfl); (first | have n : Blk b N 67 (ndC rootV).toArray ∧ w2.heap.size ≤ N := ⟨Blk.ext na.1 hE, na.2⟩ | have n : b = b := rfl); (have v : Ow flC 2 b w2.heap.size 51 x [] := by rw [hx]; exact OwnZ.mono hO fa.size); (clear hx hO hE hs); (refine zsG ?_); (revert v n e f); (revert b); (revert x); exact hq.out) : p := h ⟨k⟩
theorem zs8 {p q : Prop} (k : q) (h : Hid q → p := by intro hq; (refine xapz (B := w2.heap.size) (news := fl.flatMap flC) sl_flts rfl (by decide) rfl va rfl (hf2.ext fa) (flat_len flC_len _) (flC_one _) (by simp only [List.length_nil]; unfold maxLen; omega) (by simp only [List.length_nil]; omega) fa.size (fun x b hO hF hn => ?_) (fun w' hF => hH0 w' (fa.trans hF fun j hj h => by have := (va.blk h).1; omega))); (have f : Ext w2 b := fa.trans hF fun j hj h => by have := (va.blk h).1; omega); (first | have e : Blk b E 54 (enC ⟨[], 0⟩).toArray ∧ w2.heap.size ≤ E := ⟨Blk.fr ea.1 hF (fun e => by obtain ⟨cs, hc⟩ := va.typ e; exact hc.ne_ ea.1 (by decide) rfl), ea.2⟩ | have e : b = b := rfl); (first | have n : Blk b N 67 (ndC rootV).toArray ∧ w2.heap.size ≤ N := ⟨Blk.fr na.1 hF (fun e => by obtain ⟨cs, hc⟩ := va.typ e; exact hc.ne_ na.1 (by decide) rfl), na.2⟩ | have n : b = b := rfl); (have v : Ow flC 2 b w2.heap.size 51 x fl := by have h := Ow.ext1 (cf := flC) (l := []) (l' := fl) hO; rwa [List.nil_append] at h); (clear hO hF hn); (refine zsG ?_); (revert v n e f); (revert b); (revert x); exact hq.out) : p := h ⟨k⟩
theorem zs9 {p q : Prop} (k : q) (h : Hid q → p := by intro hq; (obtain ⟨A, c, hv, h1, h2⟩ := va.form); (have v := va); (rw [hv] at v ⊢); (clear h1 h2); (refine xbd (cells := rsC ⟨q, fl, 0, false⟩ (.slice A fl.length c) (.slice (some ⟨E, 0, none⟩) 1 1) (.slice (some ⟨N, 0, none⟩) 1 1)) rfl (by kernel_rfl) ?_); (refine zsG ?_); (clear hv); (revert v); (revert A c); exact hq.out) : p := h ⟨k⟩
theorem zs10 {p : Prop} (h : p := by (refine xbox rfl (fun b hB hE hs => ?_) (fun w' he => hH0 w' (fa.t he))); (have hfin := fin a b E N _ ea.1 na.1 va fa hB hE ea.2 na.2); (refine zsG ?_); (refine xg_end ?_); (refine goL ?_); (exact tret1 rfl rfl hfin)) : p := h
attribute [local irreducible] xs T
theorem rsnew_does (w : World) (vf : Value) (q : Int) (fl : List (Int × Int)) (hf : Rw flC w vf fl) (hfl : fl.length ≤ 1000000) :
  Does Tryz.prog 46 #[.int .i64 q, vf] w (RsNew q fl w) := by
 refine does2 Tryz.func46 rfl (by kernel_rfl) ?_
 obtain ⟨AF, cF, rfl, hcF1, hcF2, hAF⟩ := hf.op flC_len
 by_cases h1 : q < 0
 ·refine goL ?_
  exact tret1 rfl rfl ⟨Fr.refl _ _, .inl ⟨by unfold newE; rw [if_pos (.inl h1)]; decide, rfl⟩⟩
 by_cases h2 : 1048576 < q
 ·refine goL ?_
  exact tret1 rfl rfl ⟨Fr.refl _ _, .inl ⟨by unfold newE; rw [if_pos (.inr h2)]; decide, rfl⟩⟩
 have he : newE q = 0 := by unfold newE; rw [if_neg (by omega)]
 refine goL ?_
 refine xbd (cells := #[.int .i64 493, .int .i64 0, .int .i64 0, .int .i64 0, .slice none 0 0, .slice none 0 0]) rfl (by kernel_rfl) ?_
 refine xbd (cells := (ndC rootV).toArray) rfl (by kernel_rfl) ?_
 refine goL ?_
 refine xalloc (z := .agg nd0) (by kernel_rfl) (fun w1 hB1 hE1 hs1 => ?_)
 refine goL ?_
 refine xsta hB1 rfl rfl (by kernel_rfl) rfl (one_cells (l := ndC rootV) rfl) (fun w2 hB2 hF2 => ?_)
 have hE2 : Ext w w2 := hE1.trans hF2 fun j hj e => by have : j = w.heap.size := e; omega
 have hf2 := hf.ext hE2
 have z2 := hE2.size
 have fin : ∀ (w9 w10 : World) (E N : Nat) (va : Value), Blk w9 E 54 (enC ⟨[], 0⟩).toArray → Blk w9 N 67 (ndC rootV).toArray → Ow flC 2 w9 w2.heap.size 51 va fl → Ext w2 w9 → Blk w10 w9.heap.size 43 (rsC ⟨q, fl, 0, false⟩ va (.slice (some ⟨E, 0, none⟩) 1 1) (.slice (some ⟨N, 0, none⟩) 1 1)) → Ext w9 w10 → w2.heap.size ≤ E → w2.heap.size ≤ N → RsNew q fl w (.pointer (some ⟨w9.heap.size, 0, none⟩)) w10 := fun w9 w10 E N va hE hN ha hx hg hy h3 h4 => by
  have s9 := hx.size
  have hT : TrV w10 (.slice (some ⟨E, 0, none⟩) 1 1) (.slice (some ⟨N, 0, none⟩) 1 1) [rootV] rootT :=
   ⟨blk_row (n := 1) (hE.ext hy) (by decide) rfl, blk_row (n := 1) (hN.ext hy) (by decide) rfl, fun x hx => by
    rw [List.mem_singleton.1 hx]; exact ⟨Rw.nil _ _ (by decide), Rw.nil _ _ (by decide), Rw.nil _ _ (by decide)⟩, rfl⟩
  refine ⟨(hE2.t hx).t hy, .inr ⟨he, w9.heap.size, va, _, _, rfl, ⟨hg, ha.rw.ext hy, hT, fun b hb => ?_, fun b hb => ?_, fun e he => by rw [List.mem_singleton.1 he]; decide, rootT_ts, by decide, by decide⟩, by omega, fun b hb => ?_⟩⟩
  ·have := (ha.blk hb.2).2; omega
  ·rcases hb with hb | hb | ⟨x, hx, hb⟩
   ·have e1 : E = b := Option.some.inj hb.2
    have := hE.lt; omega
   ·have e1 : N = b := Option.some.inj hb.2
    have := hN.lt; omega
   ·rw [List.mem_singleton.1 hx] at hb
    rcases hb with hb | hb | hb <;> exact absurd hb.1 (by decide)
  ·rcases hb with hb | hb | hb | ⟨x, hx, hb⟩
   ·have := (ha.blk hb.2).1; omega
   ·have e1 : E = b := Option.some.inj hb.2
    omega
   ·have e1 : N = b := Option.some.inj hb.2
    omega
   ·rw [List.mem_singleton.1 hx] at hb
    rcases hb with hb | hb | hb <;> exact absurd hb.1 (by decide)
 have hH0 : ∀ w', Ext w2 w' → Blk w' w.heap.size 67 (ndC rootV).toArray := fun w' hE => hB2.ext hE
 refine gz0 ?_
 refine tdrawQ 12 [16] (fun w' => Blk w' w.heap.size 67 (ndC rootV).toArray) rfl (by kernel_rfl) (by decide +kernel) (hH0 _ (Fr.drew _ _)) (fun hRR => ?_)
 obtain ⟨a, ha0⟩ : ∃ a, a = w2.drew := ⟨_, rfl⟩
 have fa : Ext w2 a := by rw [ha0]; exact Fr.drew _ _
 rw [← ha0]
 clear ha0
 obtain ⟨vv, E, N, ea, na, va⟩ : ∃ (_ : Value) (_ _ : Nat), a = a ∧ a = a ∧ a = a := ⟨.nilFunc, 0, 0, rfl, rfl, rfl⟩
 ·skip
  refine grun [0, 2, 5, 7] [1, 3, 4, 6, 8, 9, 10, 11] hRR (by decide +kernel) (by decide +kernel) rfl ?_
  refine zsG ?_
  refine xbd (cells := (enC ⟨[], 0⟩).toArray) rfl (by kernel_rfl) ?_
  refine zsG ?_
  refine gb3 1 3 6 [3, 4, 6, 8, 9, 10, 11] [1, 4, 6, 8, 9, 10, 11] [1, 3, 4, 8, 9, 10, 11] hRR ?_ ?_ ?_
  ·skip
   refine zsG ?_
   refine zs1 ?_
   intro E a fa ea na va
   refine gb2 3 6 [4, 6, 8, 9, 10, 11] [3, 4, 8, 9, 10, 11] hRR ?_ ?_
   ·skip
    refine zsG ?_
    refine zs3 ?_
    intro N a fa ea na va
    exact y23
   ·skip
    refine zsG ?_
    refine zs6 ?_
    intro vv a fa ea na va
    refine gb2 3 8 [4, 8, 9, 10, 11] [3, 4, 9, 10, 11] hRR ?_ ?_
    ·skip
     refine zsG ?_
     refine zs3 ?_
     intro N a fa ea na va
     exact y3
    ·skip
     refine zsG ?_
     refine zs8 ?_
     intro vv a fa ea na va
     exact y35
  ·skip
   refine zsG ?_
   refine zs3 ?_
   intro N a fa ea na va
   refine gb2 1 6 [4, 6, 8, 9, 10, 11] [1, 4, 8, 9, 10, 11] hRR ?_ ?_
   ·skip
    refine zsG ?_
    refine zs1 ?_
    intro E a fa ea na va
    exact y23
   ·skip
    refine zsG ?_
    refine zs6 ?_
    intro vv a fa ea na va
    refine gb2 1 8 [4, 8, 9, 10, 11] [1, 4, 9, 10, 11] hRR ?_ ?_
    ·skip
     refine zsG ?_
     refine zs1 ?_
     intro E a fa ea na va
     exact y3
    ·skip
     refine zsG ?_
     refine zs8 ?_
     intro vv a fa ea na va
     exact y36
  ·skip
   refine zsG ?_
   refine zs6 ?_
   intro vv a fa ea na va
   refine gb3 1 3 8 [3, 4, 8, 9, 10, 11] [1, 4, 8, 9, 10, 11] [1, 3, 4, 9, 10, 11] hRR ?_ ?_ ?_
   ·skip
    refine zsG ?_
    refine zs1 ?_
    intro E a fa ea na va
    refine gb2 3 8 [4, 8, 9, 10, 11] [3, 4, 9, 10, 11] hRR ?_ ?_
    ·skip
     refine zsG ?_
     refine zs3 ?_
     intro N a fa ea na va
     exact y3
    ·skip
     refine zsG ?_
     refine zs8 ?_
     intro vv a fa ea na va
     exact y35
   ·skip
    refine zsG ?_
    refine zs3 ?_
    intro N a fa ea na va
    refine gb2 1 8 [4, 8, 9, 10, 11] [1, 4, 9, 10, 11] hRR ?_ ?_
    ·skip
     refine zsG ?_
     refine zs1 ?_
     intro E a fa ea na va
     exact y3
    ·skip
     refine zsG ?_
     refine zs8 ?_
     intro vv a fa ea na va
     exact y36
   ·skip
    refine zsG ?_
    refine zs8 ?_
    intro vv a fa ea na va
    refine gb2 1 3 [3, 4, 9, 10, 11] [1, 4, 9, 10, 11] hRR ?_ ?_
    ·skip
     refine zsG ?_
     refine zs1 ?_
     intro E a fa ea na va
     exact y35
    ·skip
     refine zsG ?_
     refine zs3 ?_
     intro N a fa ea na va
     exact y36
theorem rsfrom_does (w : World) (ve vn vf : Value) (nvs : List NdV) (t : Tre) (q : Int) (fl : List (Int × Int)) (hv : TrV w ve vn nvs t) (hf : Rw flC w vf fl) (hs : TsOK t) (le : t.es.length ≤ 1000000) (ln : t.ns.length ≤ 1000000) (hfl : fl.length ≤ 1000000) :
  Does Tryz.prog 17 #[.agg #[ve, vn], .int .i64 q, vf] w fun r w' => ∃ p, r = .tuple #[p, .int .i64 (fromE q t)] ∧ RsFrom q fl nvs t w p w' := by
 refine does3 Tryz.func17 rfl (by kernel_rfl) ?_
 obtain ⟨A, c, rfl, hc1, hc2, hA⟩ := hv.e.op enC_len
 obtain ⟨A', c', rfl, hc1', hc2', hA'⟩ := hv.n.op ndC_len
 refine goL ?_
 refine xbox rfl (fun w1 hB1 hE1 hs1 => ?_)
 have hB1' : Blk w1 w.heap.size 29 #[.slice A t.es.length c, .slice A' nvs.length c'] := hB1
 refine goL ?_
 refine xcall rfl rfl (rsnew_does w1 vf q fl (hf.ext hE1) hfl) ?_
 rintro r w2 ⟨hE2, hr⟩
 have hE02 := hE1.t hE2
 rcases hr with ⟨hn, rfl⟩ | ⟨hn, g, vf2, ve2, vn2, rfl, hI2, hg2, hv2⟩
 ·have he : fromE q t = 1 := by
   unfold newE at hn
   unfold fromE
   by_cases h : q < 0 ∨ 1048576 < q
   ·rw [if_pos (h.elim .inl fun h => .inr (.inl h))]
   ·rw [if_neg h] at hn; exact absurd rfl hn
  rw [he]
  refine goL ?_
  exact tret2 rfl rfl rfl ⟨_, rfl, hE02, .inl ⟨by rw [he]; decide, rfl⟩⟩
 have hq : ¬ (q < 0 ∨ 1048576 < q) := fun h => by unfold newE at hn; rw [if_pos h] at hn; exact absurd hn (by decide)
 refine goL ?_
 refine xlda (t := 29) (Blk.ext hB1' hE2) rfl rfl ?_
 refine goL ?_
 refine xcallE rfl rfl (rtmay_does w2 _ _ nvs t (hv.ext hE02) hs ln) (fun r w3 h => ?_)
 obtain ⟨rfl, hE3⟩ := h
 have hE03 := hE02.t hE3
 cases hm : mayT t with
 | false =>
  have he : fromE q t = 1 := by unfold fromE; rw [if_pos (.inr (.inr hm))]
  rw [he]
  refine goL ?_
  exact tret2 rfl rfl rfl ⟨_, rfl, hE03, .inl ⟨by rw [he]; decide, rfl⟩⟩
 | true =>
  have hnot : ¬ (q < 0 ∨ 1048576 < q ∨ mayT t = false) := by
   rintro (a | a | a)
   ·exact hq (.inl a)
   ·exact hq (.inr a)
   ·rw [hm] at a; cases a
  refine goL ?_
  refine xlda (t := 29) ((Blk.ext hB1' hE2).ext hE3) rfl rfl ?_
  refine goL ?_
  refine xcallE rfl rfl (rtotal_does w3 _ _ nvs t (hv.ext hE03) hs.b ln) (fun r w4 h => ?_)
  obtain ⟨rfl, hE4⟩ := h
  have hE04 := hE03.t hE4
  by_cases h3 : q < (totalT t.ns : Int)
  ·have he : fromE q t = 10 := by unfold fromE; rw [if_neg hnot, if_pos h3]
   rw [he]
   refine goL ?_
   exact tret2 rfl rfl rfl ⟨_, rfl, hE04, .inl ⟨by rw [he]; decide, rfl⟩⟩
  have he : fromE q t = 0 := by unfold fromE; rw [if_neg hnot, if_neg h3]
  rw [he]
  refine goL ?_
  refine xlda (t := 29) (((Blk.ext hB1' hE2).ext hE3).ext hE4) rfl rfl ?_
  refine goL ?_
  refine xcall rfl rfl (rnorm_doesO w4 _ _ nvs t (hv.ext hE04) hs le ln) ?_
  rintro r w5 ⟨hE5, hr⟩
  rw [norm_same hm] at hr
  obtain ⟨ve', vn', nvs', rfl, hT, hOe, hOn, hys⟩ := hr
  have hE25 := (hE3.t hE4).t hE5
  have hI5 := hI2.ext hE25
  obtain ⟨A2, c2, rfl, _, _⟩ := hOe.form
  obtain ⟨A3, c3, rfl, _, _⟩ := hOn.form
  have z2 := hE02.size
  have z1 := hE1.size
  have z4 := hE04.size
  have z24 := (hE3.t hE4).size
  have hgl := hI2.k.lt
  refine goL ?_
  refine xstk (q := 0) (vs := [.slice A2 t.es.length c2, .slice A3 nvs'.length c3]) (nw := rsC ⟨q, fl, 0, false⟩ vf2 (.slice A2 t.es.length c2) (.slice A3 nvs'.length c3)) hI5.k rfl rfl (by kernel_rfl) (by show 2 ≤ 6; omega) (fun u hu => by
   simp only [List.mem_cons, List.not_mem_nil, or_false] at hu
   rcases hu with rfl | rfl <;> rfl) rfl (fun w6 hB6 hF6 => ?_)
  have hin : ∀ b x, x ∈ nvs' → NdN x b → b < w.heap.size := fun b x hx hb => (hv.i x (hys x hx)).ltN hb
  have ha : ∀ b, TrN (.slice A2 t.es.length c2) (.slice A3 nvs'.length c3) nvs' t b → b ≠ g := fun b hb => by
   rcases hb with hb | hb | ⟨x, hx, hb⟩
   ·have := (hOe.blk hb.2).1; omega
   ·have := (hOn.blk hb.2).1; omega
   ·have := hin b x hx hb; omega
  have key : RsFrom q fl nvs t w (.pointer (some ⟨g, 0, none⟩)) w6 := ⟨(hE04.t hE5).trans hF6 fun j hj e => by have : j = g := e; omega, .inr ⟨he, g, vf2, _, _, nvs', rfl, ⟨hB6, hI5.f.frN hF6 fun b hb e => hI5.af b hb e, hT.frN hF6 fun b hb e => ha b hb e, hI5.af, ha, (may_good hm).inr, hs, le, ln⟩, by omega, fun b hb => by
   rcases hb with hb | hb | hb
   ·have := hv2 b (.inl hb); omega
   ·have := (hOe.blk hb.2).1; omega
   ·have := (hOn.blk hb.2).1; omega, hys⟩⟩
  refine goL ?_
  exact tret2 rfl rfl rfl ⟨_, rfl, key⟩
end
end Go.Proofs.YtiebbecknfpdeaaGreatDoor.Eng
