/-
  Parts of the proof: An.
-/
import Derived.Test.YtbpmlbjapapoaaaGreatDoorQB15
import Derived.Test.YtbpmlbjapapoaaaGreatDoorQB9
import Derived.Test.YtbpmlbjapapoaaaGreatDoorQWv
set_option maxRecDepth 100000
set_option maxHeartbeats 64000000
namespace Go.Proofs.YtbpmlbjapapoaaaGreatDoor.Eng
open Go.RowKit
section
open Go.RowKit Go.Lib
attribute [local irreducible] xs T
def ToldR22 : Prop := ∀ w : World, Does Tryz.prog 7 #[] w fun r w' => r = .bool true ∧ Ext w w'
theorem few_oks {t : Tre} (h : fewT t = true) : NsOK t.ns ∧ (∀ n ∈ t.ns, NdL n) ∧ TsOK t ∧ t.ns.length ≤ 30 ∧ t.es.length ≤ 30 := by
 unfold fewT at h
 simp only [Bool.and_eq_true, decide_eq_true_eq] at h
 obtain ⟨⟨⟨h1, h2⟩, h3⟩, h4⟩ := h
 have hb : ∀ l : List Pce, l.all (fun p => decide (p.data.length ≤ 300)) = true → bytesP l ≤ 300 * l.length := fun l => by
  induction l with
  | nil => intro _; exact Nat.zero_le _
  | cons p r ih =>
   intro h
   rw [List.all_cons, Bool.and_eq_true, decide_eq_true_eq] at h
   have := ih h.2
   rw [bytesP, List.length_cons]
   omega
 have hn : ∀ n ∈ t.ns, bytesP n.data ≤ 1000000 ∧ NdL n ∧ n.target.length ≤ 1000000 := fun n hn => by
  have := List.all_eq_true.1 h2 n hn
  unfold fewN fewM at this
  simp only [Bool.and_eq_true, decide_eq_true_eq] at this
  obtain ⟨⟨⟨a1, a2⟩, a3⟩, ⟨_, a5⟩, a6⟩ := this
  have := hb n.data a1
  exact ⟨by omega, ⟨by omega, by omega, by omega⟩, by omega⟩
 refine ⟨fun n h => (hn n h).1, fun n h => (hn n h).2.1, ⟨fun n h => (hn n h).1, fun n h => (hn n h).2.2, fun e he => ?_⟩, h4, h3⟩
 have := List.all_eq_true.1 h1 e he
 have := of_decide_eq_true this
 omega
theorem bare_ok (n : Nd) : NdL (bareN n) ∧ bytesP (bareN n).data ≤ 1000000 := by
 unfold bareN
 by_cases h : nodeOK n = true
 ·rw [if_pos h]
  obtain ⟨d1, d2, _⟩ := nodeOK_data h
  have hp := pcs_len h
  unfold nodeOK metaOK aclOK at h
  simp only [Bool.and_eq_true, decide_eq_true_eq] at h
  obtain ⟨⟨⟨⟨⟨_, ha⟩, _⟩, _⟩, ⟨⟨⟨hc, _⟩, _⟩, _⟩⟩, _⟩ := h
  have hb : ∀ l : List Pce, (∀ p ∈ l, 1 ≤ p.data.length ∧ p.data.length ≤ 4000) → bytesP (l.map barP) ≤ 4 * l.length := fun l => by
   induction l with
   | nil => intro _; exact Nat.zero_le _
   | cons p r ih =>
    intro h
    have i := ih fun q hq => h q (List.mem_cons_of_mem _ hq)
    obtain ⟨h1, h2⟩ := h p List.mem_cons_self
    have e : decS p.data.length = Lib.decDigits p.data.length := by
     unfold decS Lib.itoa
     rw [if_neg (by omega), Int.toNat_natCast]
    have := (digF_dig p.data.length).2.2 4 (by decide) (by omega)
    rw [List.map_cons, bytesP, List.length_cons]
    have : (barP p).data.length ≤ 4 := by show (decS p.data.length).length ≤ 4; rw [e]; exact this
    omega
  have := hb n.data hp
  refine ⟨⟨by show n.attrs.length ≤ _; omega, by show n.acl.length ≤ _; omega, by show (n.data.map barP).length ≤ _; rw [List.length_map]; omega⟩, by show bytesP (n.data.map barP) ≤ _; omega⟩
 ·rw [if_neg h]
  exact ⟨⟨Nat.zero_le _, Nat.zero_le _, Nat.zero_le _⟩, Nat.zero_le _⟩
theorem recs_bare (ns : List Nd) {P : Nd → Prop} (h0 : P ndZ) (h1 : ∀ n, P (bareN n)) : ∀ (es : List En) (s : RS), (∀ r ∈ s.recs, P r.nd) → ∀ r ∈ (es.foldl (rstp ns) s).recs, P r.nd
 | [], _, h => h
 | e :: r, s, h => by
  rw [List.foldl_cons]
  refine recs_bare ns h0 h1 r _ fun q hq => ?_
  unfold rstp at hq
  split at hq
  ·rcases List.mem_append.1 hq with hq | hq
   ·exact h q hq
   ·rw [List.mem_singleton.1 hq]; exact h1 _
  ·rcases List.mem_append.1 hq with hq | hq
   ·exact h q hq
   ·rw [List.mem_singleton.1 hq]; exact h0
theorem recs_ok {t : Tre} {w : World} {rl : List RcV} (hp : rl.map RcV.p = (recsM t).recs) (hi : ∀ x ∈ rl, NdIn w x.nd) : ∀ x ∈ rl, RcOK w x := fun x hx => by
 have hm : x.p ∈ (recsM t).recs := hp ▸ List.mem_map_of_mem hx
 have := recs_bare t.ns (P := fun n => NdL n ∧ bytesP n.data ≤ 1000000) ⟨⟨Nat.zero_le _, Nat.zero_le _, Nat.zero_le _⟩, Nat.zero_le _⟩ bare_ok t.es (rst0 t.ns) nofun x.p hm
 exact ⟨hi x hx, this.1, this.2⟩
theorem whole_le {t : Tre} (h : mayT t = true) : (recsM t).whole.length ≤ 1000000000 := by
 obtain ⟨_, h1, h2, _⟩ := guess_take h t.es.length (Nat.le_refl _)
 rw [List.take_length] at h1 h2
 unfold mayT at h
 simp only [Bool.and_eq_true, decide_eq_true_eq] at h
 have := h.1.1.1.2
 show (rsts t.ns t.es).whole.length ≤ _
 omega
theorem alike_refl (t : Tre) : alikeT t t = true := by
 unfold alikeT
 simp
theorem archRecs_core (htold : ToldR22) (w0 : World) (ve vn : Value) (nvs : List NdV) (t : Tre) (ht : TrV w0 ve vn nvs t) (hP : PowT w0) : Does Tryz.prog 3 #[.agg #[ve, vn]] w0 fun r w' => r = .bool true ∧ Ext w0 w' := by
 refine does1 Tryz.func3 rfl (by kernel_rfl) ?_
 have hN : ∀ {a b c : World} {g : Nat}, Ext a b → Fr (· = g) b c → a.heap.size ≤ g → Ext a c := fun h1 h2 hg => h1.trans h2 fun j hj e => absurd hj (by omega)
 refine goL ?_
 refine xbox rfl (fun w1 hB1 hE1 hs1 => ?_)
 obtain ⟨g, hg⟩ : ∃ g, g = w0.heap.size := ⟨_, rfl⟩
 rw [← hg] at hB1 ⊢
 have hB1 : Blk w1 g 25 #[ve, vn] := hB1
 refine goL ?_
 refine xlda (t := 25) hB1 rfl rfl ?_
 refine xcallE rfl rfl (few6_does w1 ve vn nvs t (ht.ext hE1)) (fun r w2 h2 => ?_)
 obtain ⟨rfl, hE2⟩ := h2
 have hE02 := hE1.t hE2
 have hB2 := hB1.ext hE2
 cases hfew : fewT t with
 | false =>
  refine goL ?_
  refine xcallE rfl rfl (htold w2) (fun r w3 h3 => ?_)
  obtain ⟨rfl, hE3⟩ := h3
  refine goL ?_
  exact tret1 rfl rfl ⟨rfl, hE02.t hE3⟩
 | true =>
 obtain ⟨hns, hnd, hts, hnl, hel⟩ := few_oks hfew
 refine goL ?_
 refine xlda (t := 25) hB2 rfl rfl ?_
 refine xcallE rfl rfl (recs_does w2 ve vn nvs t (ht.ext hE02) hns hnd (hP.ext hE02)) (fun r w3 h3 => ?_)
 obtain ⟨hE3, h3⟩ := h3
 have hE03 := hE02.t hE3
 have hB3 := hB2.ext hE3
 by_cases hm : mayT t = true
 ·rw [if_pos hm] at h3
  obtain ⟨va, vb, al, rfl, hal, hap, hai, hwb⟩ := h3
  refine goL ?_
  refine xlda (t := 25) hB3 rfl rfl ?_
  refine xcallE rfl rfl (rrecs_does w3 ve vn nvs t (ht.ext hE03) hts hnd (by omega)) (fun r w4 h4 => ?_)
  obtain ⟨hE4, h4⟩ := h4
  rw [if_pos hm] at h4
  obtain ⟨vc, cl, rfl, hcl, hcp, hci⟩ := h4
  have hE04 := hE03.t hE4
  have hB4 := hB3.ext hE4
  have hai4 : ∀ x ∈ al, NdIn w4 x.nd := fun x hx => (hai x hx).i.ext hE4
  have hci4 : ∀ x ∈ cl, NdIn w4 x.nd := fun x hx => (hci x hx).in hE4
  refine goL ?_
  refine xcallE rfl rfl (rrecsames_does w4 va vc al cl (Row.ext hal.rw hE4) hcl.rw hai4 hci4) (fun r w5 h5 => ?_)
  obtain ⟨rfl, hE5⟩ := h5
  rw [hap, hcp, decide_eq_true rfl]
  have hE35 := hE4.t hE5
  have hE05 := hE04.t hE5
  have hB5 := hB4.ext hE5
  have hwb' := Own.row (Own.ext hwb hE35)
  have hbl : (bs (recsM t).whole).length = (recsM t).whole.length := bs_len _
  obtain ⟨Ab, cb, rfl, hb1, hb2, hb3⟩ := hwb'
  have hwb' : Row w5 (.slice Ab (bs (recsM t).whole).length cb) (recsM t).whole.length (bs (recsM t).whole) := by rw [← hbl]; exact ⟨Ab, cb, rfl, hb1, hb2, hb3⟩
  refine goL ?_
  refine xcbr (r := (recsM t).whole) rfl hwb' ?_
  repeat' (first | refine xucmp (op := .neq) (r := false) rfl rfl (by simp [cmpU]) ?_ | refine go1L ?_ | fail)
  refine xcallE rfl rfl (tree_does w5 va _ al (recsM t).whole (Row.ext hal.rw hE35) (recs_ok hap (fun x hx => (hai4 x hx).ext hE5)) hwb' (whole_le hm) (hP.ext hE05)) (fun r w6 h6 => ?_)
  obtain ⟨hE6, h6⟩ := h6
  rw [hap, tree_back hm] at h6
  obtain ⟨ve6, vn6, nv6, rfl, hT6⟩ := h6
  have hv1 : (#[ve6, vn6] : Array Value).all (·.oneCell') = true := by
   obtain ⟨A3, c3, rfl, _⟩ := hT6.e
   obtain ⟨A4, c4, rfl, _⟩ := hT6.n
   exact one_cells (l := [.slice A3 _ c3, .slice A4 _ c4]) rfl
  refine goL ?_
  refine xalloc (z := .agg #[.slice none 0 0, .slice none 0 0]) (by kernel_rfl) (fun w7 hB7 hE7 hs7 => ?_)
  refine xsta hB7 rfl rfl (by kernel_rfl) rfl hv1 (fun w8 hB8 hF8 => ?_)
  have hE8 : Ext w6 w8 := hN hE7 hF8 (Nat.le_refl _)
  have hE08 := (hE05.t hE6).t hE8
  refine goL ?_
  refine xcallE rfl rfl (htold w8) (fun r w9 h9 => ?_)
  obtain ⟨rfl, hE9⟩ := h9
  have hE09 := hE08.t hE9
  refine goL ?_
  refine xlda (t := 25) (hB8.ext hE9) rfl rfl ?_
  refine goL ?_
  refine xlda (t := 25) (hB5.ext ((hE6.t hE8).t hE9)) rfl rfl ?_
  refine goL ?_
  refine xcallE rfl rfl (alike_does w9 ve6 vn6 ve vn nv6 nvs t t (hT6.ext (hE8.t hE9)) (ht.ext hE09)) (fun r w10 h10 => ?_)
  obtain ⟨rfl, hE10⟩ := h10
  rw [alike_refl]
  refine goL ?_
  exact tret1 rfl rfl ⟨rfl, hE09.t hE10⟩
 ·rw [if_neg hm] at h3
  subst h3
  refine goL ?_
  refine xlda (t := 25) hB3 rfl rfl ?_
  refine xcallE rfl rfl (rrecs_does w3 ve vn nvs t (ht.ext hE03) hts hnd (by omega)) (fun r w4 h4 => ?_)
  obtain ⟨hE4, h4⟩ := h4
  rw [if_neg hm] at h4
  subst h4
  have hE04 := hE03.t hE4
  refine goL ?_
  refine xcallE rfl rfl (rrecsames_does w4 _ _ [] [] (Rw.nil w4 0 (by decide)) (Rw.nil w4 0 (by decide)) nofun nofun) (fun r w5 h5 => ?_)
  obtain ⟨rfl, hE5⟩ := h5
  rw [decide_eq_true rfl]
  refine goL ?_
  refine xcbr (r := []) rfl (Rw.nil (cf := b1C) w5 0 (by decide)) ?_
  repeat' (first | refine xucmp (op := .neq) (r := false) rfl rfl rfl ?_ | refine go1L ?_ | fail)
  refine xcallE rfl rfl (htold w5) (fun r w6 h6 => ?_)
  obtain ⟨rfl, hE6⟩ := h6
  refine goL ?_
  exact tret1 rfl rfl ⟨rfl, (hE04.t hE5).t hE6⟩
end
end Go.Proofs.YtbpmlbjapapoaaaGreatDoor.Eng
