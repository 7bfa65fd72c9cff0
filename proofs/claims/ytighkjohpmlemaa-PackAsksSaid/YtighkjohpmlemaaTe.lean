/-
  The reference's opened and Unpack.
-/
import Derived.Test.YtighkjohpmlemaaTc
import Derived.Test.YtighkjohpmlemaaTd
namespace Go.Proofs.Ytighkjohpmlemaa
open Go.RowKit
namespace Eng
attribute [local irreducible] xs T

/-- What the reference opens. -/
def opnR (bs : List Int) : Option (List Int) :=
  if bs.length = 0 ∨ 1 < bs.getD 0 0 then none else
  if bs.getD 0 0 = 0 then some (bs.drop 1) else
  match rgB bs 1 with
  | none => none
  | some (n, at_) => if 12000 < n then none else unB 12066 (bs.drop at_) n

theorem opnR_put {xs : List Int} (hb : Byts xs) (hl : xs.length ≤ 12000) : opnR (putB xs) = some xs := by
  unfold putB
  by_cases h : (sqB xs).length < 1 + xs.length
  · rw [if_pos h]
    unfold opnR
    rw [if_neg (by intro hc; rcases hc with hc | hc
                   · simp [sqB] at hc
                   · simp [sqB] at hc), if_neg (by simp [sqB])]
    have hn := rg_num (n := xs.length) (by omega) (pk (sqBits (toksB xs)))
    unfold sqB
    rw [hn]
    dsimp only
    rw [if_neg (by omega), show 1 + (numB xs.length).length = (numB xs.length).length + 1 from by omega, List.drop_succ_cons, List.drop_left, un_sq hb (by omega)]
  · rw [if_neg h]
    unfold opnR
    rw [if_neg (by intro hc; rcases hc with hc | hc
                   · simp at hc
                   · simp at hc), if_pos (by simp)]
    rfl
theorem opnR_byts {bs x : List Int} (hb : Byts bs) (h : opnR bs = some x) : Byts x := by
  unfold opnR at h
  split at h
  · cases h
  split at h
  · injection h with h; subst h; exact fun z hz => hb z (List.mem_of_mem_drop hz)
  split at h
  · cases h
  split at h
  · cases h
  · exact unB_byts h
theorem joinB_len (most : Nat) : ∀ (ts : List Tkn) (acc : List Int), acc.length ≤ most → (joinB most acc ts).2.length ≤ most
  | [], acc, h => h
  | t :: r, acc, h => by
    unfold joinB
    by_cases h1 : mayT t = false
    · rw [if_pos h1]; exact Nat.zero_le _
    rw [if_neg h1]
    by_cases h2 : (acc.length : Int) < t.back
    · rw [if_pos h2]; exact Nat.zero_le _
    rw [if_neg h2]
    by_cases h3 : (most : Int) - acc.length < max t.long 1
    · rw [if_pos h3]; exact Nat.zero_le _
    rw [if_neg h3]
    exact joinB_len most r _ (by rw [addB_len acc t (by simpa using h1)]; omega)
theorem opnR_len {bs x : List Int} (h : opnR bs = some x) : x.length ≤ bs.length + 12066 := by
  unfold opnR at h
  split at h
  · cases h
  split at h
  · injection h with h; subst h; rw [List.length_drop]; omega
  split at h
  · cases h
  split at h
  · cases h
  · unfold unB at h
    split at h
    · cases h
    split at h
    · cases h
    · rename_i ts _
      split at h
      · injection h with h; subst h
        have := joinB_len 12066 ts [] (Nat.zero_le _)
        omega
      · cases h
/-- What is unpacked is the same. -/
theorem opn_same {bs : List Int} (hb : Byts bs) (most : Int) : gtB bs most = match opnR bs with
    | none => (3, [])
    | some x => if ptE x ≠ 0 ∨ ptB x ≠ bs then (3, []) else if max most 0 < (x.length : Int) then (13, []) else (0, x) := by
  rcases gt_op hb most with h | ⟨x, hx, lx, hp, hg⟩
  · rw [h]
    cases ho : opnR bs with
    | none => rfl
    | some x =>
      dsimp only
      by_cases hp : ptE x ≠ 0 ∨ ptB x ≠ bs
      · rw [if_pos hp]
      · exfalso
        have h1 : ptE x = 0 := Decidable.not_not.1 fun hh => hp (.inl hh)
        have h2 : ptB x = bs := Decidable.not_not.1 fun hh => hp (.inr hh)
        have hl : x.length ≤ 12000 := by
          unfold ptE at h1
          split at h1
          · cases h1
          · omega
        rw [ptB_ok hl] at h2
        have := gt_put (opnR_byts hb ho) hl most
        rw [h2, h] at this
        split at this <;> cases this
  · rw [hg, ← hp, opnR_put hx lx]
    dsimp only
    have hc : ¬ (ptE x ≠ 0 ∨ ptB x ≠ putB x) := by rw [ptE_ok lx, ptB_ok lx]; simp
    rw [if_neg hc]

theorem rgB_place {bs : List Int} {at_ : Nat} : ∀ (f n u k : Nat) {m j : Nat}, rgGo bs at_ f n u k = some (m, j) → j ≤ bs.length
  | 0, n, u, k, m, j, h => by
    rw [rgGo] at h
    unfold rgEnd at h
    split at h
    · cases h
    split at h
    · cases h
    · injection h with h; injection h with _ h; omega
  | f + 1, n, u, k, m, j, h => by
    rw [rgGo] at h
    split at h
    · split at h
      · cases h
      · exact rgB_place f _ _ _ h
    · unfold rgEnd at h
      split at h
      · cases h
      split at h
      · cases h
      · injection h with h; injection h with _ h; omega

structure OpA (ys : List Int) (gi gl : Nat) (w0 : World) (i : Nat) (w : World) : Prop where
  le : i ≤ 320
  inn : RIn w gi ys (4 * i)
  lens : IB w gl (lensR ys i ++ List.replicate (320 - i) 0)
  fr : Ext w0 w

structure OpC (ys : List Int) (n gi gl : Nat) (w0 : World) (x : Nat × Nat × Value × List Tkn) (w : World) : Prop where
  inn : RIn w gi ys x.2.1
  lens : IB w gl (lensR ys 320)
  own : OwnZ w w0.heap.size 67 3 x.2.2.1 x.2.2.2.length (tksC x.2.2.2)
  len : x.2.2.2.length ≤ x.1
  top : x.1 ≤ n + 1000
  go : ∃ f, n - x.1 ≤ f ∧ (unGo (lensR ys 320) ys n f x.2.1 x.1).map (x.2.2.2 ++ ·) = unGo (lensR ys 320) ys n n 1280 0
  tne : ∀ b, x.2.2.1.ownBlock = some b → b ≠ gl ∧ b ≠ gi
  fr : Ext w0 w

theorem RIn.fr {S : Nat → Prop} {w w' : World} {g : Nat} {zs : List Int} {p : Nat} (h : RIn w g zs p) (hf : Fr S w w') (hS : ¬ S g) : RIn w' g zs p := ⟨h.blk.fr hf hS, h.byts, h.le⟩
theorem RIn.lt {w : World} {g : Nat} {zs : List Int} {p : Nat} (h : RIn w g zs p) : g < w.heap.size := h.blk.lt

set_option maxRecDepth 20000 in
set_option maxHeartbeats 8000000 in
theorem ropened_does (w : World) (bs : List Int) (hb : Byts bs) (hl : bs.length ≤ 2 ^ 30) :
    Does Try.prog 67 #[.string (strOfNums bs)] w fun r w' => Ext w w' ∧ match opnR bs with
      | none => ∃ v', r = .tuple #[v', .bool false]
      | some zs => r = .tuple #[.string (strOfNums zs), .bool true] := by
  refine does1 Try.func67 rfl (by kernel_rfl) ?_
  unfold opnR
  by_cases h0 : bs.length = 0
  · rw [if_pos (.inl h0)]
    repeat' (first | refine xsln rfl rfl ?_ | refine go1L ?_ | fail)
    exact tret2 rfl rfl rfl ⟨Fr.refl _ _, _, rfl⟩
  obtain ⟨z, hz⟩ : ∃ z, bs[0]? = some z := ⟨_, List.getElem?_eq_getElem (by omega)⟩
  have hzb := hb z (List.mem_of_getElem? hz)
  rw [getD_of hz]
  by_cases h2 : 1 < z
  · rw [if_pos (.inr h2)]
    repeat' (first | refine xsi 0 rfl rfl rfl rfl hz hzb ?_ | refine xsln rfl rfl ?_ | refine go1L ?_ | fail)
    exact tret2 rfl rfl rfl ⟨Fr.refl _ _, _, rfl⟩
  rw [if_neg (by omega)]
  by_cases h3 : z = 0
  · rw [if_pos h3]
    subst h3
    repeat' (first | refine xsi 0 rfl rfl rfl rfl hz hzb ?_ | refine xsln rfl rfl ?_ | refine go1L ?_ | fail)
    refine xssl1 1 rfl rfl rfl rfl (by omega) ?_
    refine goL ?_
    exact tret2 rfl rfl rfl ⟨Fr.refl _ _, rfl⟩
  rw [if_neg h3]
  repeat' (first | refine xsi 0 rfl rfl rfl rfl hz hzb ?_ | refine xsln rfl rfl ?_ | refine go1L ?_ | fail)
  refine xcall rfl rfl (rnget_does w bs 1 hb (by omega) (by omega)) (fun r w1 h1 => ?_)
  obtain ⟨rfl, rfl⟩ := h1
  cases hg : rgB bs 1 with
  | none =>
    dsimp only
    refine goL ?_
    exact tret2 rfl rfl rfl ⟨Fr.refl _ _, _, rfl⟩
  | some q =>
    obtain ⟨n, at_⟩ := q
    have hat : at_ ≤ bs.length := rgB_place _ _ _ _ hg
    dsimp only
    by_cases hn : 12000 < n
    · rw [if_pos hn]
      refine goL ?_
      exact tret2 rfl rfl rfl ⟨Fr.refl _ _, _, rfl⟩
    rw [if_neg hn]
    refine goL ?_
    refine xssl1 at_ rfl rfl rfl rfl (by omega) ?_
    have hyb : Byts (bs.drop at_) := fun z hz => hb z (List.mem_of_mem_drop hz)
    have hyl : (bs.drop at_).length ≤ 2 ^ 40 := by rw [List.length_drop]; omega
    obtain ⟨ys, hys⟩ : ∃ ys, ys = bs.drop at_ := ⟨_, rfl⟩
    rw [← hys] at hyb hyl ⊢
    have hL := lensR_len ys 320
    refine xbd (cells := #[.string (strOfNums ys), .int .i64 0]) rfl (by kernel_rfl) ?_
    refine xbox rfl (fun w2 hB2 hE2 hs2 => ?_)
    have hin2 : RIn w2 w.heap.size ys 0 := ⟨hB2, hyb, by omega⟩
    refine goL ?_
    refine xmk sl_ints rfl rfl rfl (by omega) (by omega) (by omega) (fun w3 hB3 hE3 hs3 => ?_)
    have hcnt : IB w3 w2.heap.size (List.replicate 320 0) := IB.new hB3
    refine goL ?_
    refine tloop (α := Nat) (fun k => [(4, .int .u64 (n : Int)), (7, .pointer (some ⟨w.heap.size, 0, none⟩)), (8, .slice (some ⟨w2.heap.size, 0, none⟩) 320 320), (9, .int .i64 (k : Int))]) (OpA ys w.heap.size w2.heap.size w) (fun k => 320 - k) 0 (sub ⟨rfl, rfl, rfl, rfl⟩) ⟨Nat.zero_le _, hin2.ext hE3, hcnt, hE2.t hE3⟩ ?_
    rintro i w4 ⟨hi4, hin4, hlens4, hE4⟩
    have hll : (lensR ys i ++ List.replicate (320 - i) 0).length = 320 := by rw [List.length_append, lensR_len, List.length_replicate]; omega
    by_cases hlt : i < 320
    · by_cases hc : 8 * ys.length - 4 * i < 4
      · have hu : unB 12066 ys n = none := by unfold unB; rw [if_pos (by have := hin4.le; omega)]
        rw [hu]
        refine goL ?_
        refine xcall rfl rfl (rgetcut_does w4 _ ys _ 4 hin4 (by decide) hc hyl) (fun r w5 h5 => ?_)
        obtain ⟨rfl, hE5⟩ := h5
        refine goL ?_
        exact tret2 rfl rfl rfl ⟨hE4.t hE5, _, rfl⟩
      · refine goL ?_
        refine xcall rfl rfl (rget_does w4 _ ys _ 4 hin4 (by decide) (by omega) hyl) (fun r w5 h5 => ?_)
        obtain ⟨rfl, hin5, hF5⟩ := h5
        have hv4 : val (unpk ys (4 * i) 4) < 16 := by
          have := val_lt (bits_unpk ys (4 * i) 4)
          rw [length_unpk] at this
          exact this
        have hlens5 := hlens4.fr hF5 (by show ¬ w2.heap.size = w.heap.size; omega)
        repeat' (first | refine xcvi rfl rfl rfl (by omega) (by omega) ?_ | refine xisq i i rfl rfl rfl rfl (by omega) (by omega) ?_ | refine go1L ?_ | fail)
        refine xsti hlens5 rfl rfl rfl (by omega) (fun w6 hlens6 hF6 => ?_)
        rw [lensR_set ys hlt] at hlens6
        refine goL ?_
        have hE5 : Ext w w5 := Ext.te hE4 hF5 fun j hj e => by have e' : j = w.heap.size := e; omega
        exact tfin ⟨i + 1, sub ⟨rfl, rfl, rfl, rfl⟩, ⟨by omega, hin5.fr hF6 (by show ¬ w.heap.size = w2.heap.size; omega), hlens6, Ext.te hE5 hF6 fun j hj e => by have e' : j = w2.heap.size := e; omega⟩, (by show 320 - (i + 1) < 320 - i; omega)⟩
    obtain rfl : i = 320 := by omega
    rw [Nat.sub_self, List.replicate_zero, List.append_nil] at hlens4
    have hle := hin4.le
    have hge : 1280 ≤ 8 * ys.length := by omega
    refine goL ?_
    refine tloop (α := Nat × Nat × Value × List Tkn) (fun x => [(4, .int .u64 (n : Int)), (7, .pointer (some ⟨w.heap.size, 0, none⟩)), (8, .slice (some ⟨w2.heap.size, 0, none⟩) 320 320), (12, x.2.2.1), (13, .int .i64 (x.1 : Int))]) (OpC ys n w.heap.size w2.heap.size w) (fun x => n - x.1) (0, 1280, .slice none 0 0, []) (sub ⟨rfl, rfl, rfl, rfl, rfl⟩) ⟨hin4, hlens4, OwnZ.nil _ _ _ _, Nat.zero_le _, by dsimp only; omega, ⟨n, by dsimp only; omega, by dsimp only; simp⟩, fun b hb => (by cases hb), hE4⟩ ?_
    rintro ⟨long, p, tv, ts⟩ w5 ⟨hin, hlens, hown, hlen, htop, ⟨f, hf, hgo⟩, htne, hE5⟩
    dsimp only at hin hlens hown hlen htop hf hgo htne hE5 ⊢
    have hsz5 := hE5.size
    have hgl := hlens.lt
    by_cases hlt : long < n
    · obtain ⟨f, rfl⟩ : ∃ f', f = f' + 1 := ⟨f - 1, by omega⟩
      rw [unGo, if_neg (by omega)] at hgo
      have hlr : IRow w5 (.slice (some ⟨w2.heap.size, 0, none⟩) 320 320) (lensR ys 320) := hlens.row (by rw [hL]; decide) _ hL.symm
      repeat' (first | refine xcvi rfl rfl rfl (by omega) (by omega) ?_ | refine go1L ?_ | fail)
      have hnone : tokB (lensR ys 320) ys p = none → unB 12066 ys n = none := fun ht => by
        rw [ht] at hgo
        unfold unB
        rw [if_neg (by omega), ← hgo]
        rfl
      cases hok : okGet (lensR ys 320) with
      | false =>
        refine xcall rfl rfl (rgetc_no w5 _ _ (lensR ys 320) hlr (by omega) hok) (fun r w6 h6 => ?_)
        obtain ⟨rfl, rfl⟩ := h6
        rw [hnone (by unfold tokB; rw [if_pos hok])]
        refine goL ?_
        exact tret2 rfl rfl rfl ⟨hE5, _, rfl⟩
      | true =>
        have hbd := getB_bd (lensR ys 320) ys p
        refine xcall rfl rfl (rgetc_ok w5 _ _ (lensR ys 320) ys p hin hlr (fun e => by have e' : (some w2.heap.size : Option Nat) = some w.heap.size := e; injection e' with e'; omega) hok hyl) (fun r w6 h6 => ?_)
        obtain ⟨rfl, hin6, hF6⟩ := h6
        have hE6 : Ext w w6 := Ext.te hE5 hF6 fun j hj e => by have e' : j = w.heap.size := e; omega
        by_cases he : (getB (lensR ys 320) ys p).2.1 ≠ 0
        · rw [hnone (by unfold tokB; rw [if_neg (by rw [hok]; decide), if_pos he])]
          refine goL ?_
          exact tret2 rfl rfl rfl ⟨hE6, _, rfl⟩
        have he0 := Decidable.not_not.1 he
        rw [if_pos he0] at hin6
        have hsz6 := hF6.size
        have hlens6 := hlens.fr hF6 (by show ¬ w2.heap.size = w.heap.size; omega)
        have hown6 := hown.fr hF6 fun b hb e => (htne b hb).2 e
        refine goL ?_
        refine xbd (cells := #[.int .i64 (getB (lensR ys 320) ys p).1, .int .i64 0, .int .i64 0]) rfl (by kernel_rfl) ?_
        refine xalloc (z := .agg #[.int .i64 0, .int .i64 0, .int .i64 0]) (by kernel_rfl) (fun w7 hB7 hE7 hs7 => ?_)
        refine xsta (cs := (tkC ⟨(getB (lensR ys 320) ys p).1, 0, 0⟩).toArray) hB7 rfl rfl rfl rfl (tkC_all _) (fun w8 hB8 hF8 => ?_)
        have hE68 : Ext w6 w8 := Ext.te hE7 hF8 fun j hj e => by have e' : j = w6.heap.size := e; omega
        have hsz8 := hE68.size
        by_cases h256 : (getB (lensR ys 320) ys p).1 < 256
        · have hin8 := hin6.ext hE68
          have hlens8 := hlens6.ext hE68
          have hown8 := hown6.ext hE68
          have hE8 : Ext w w8 := hE6.t hE68
          have htk : tokB (lensR ys 320) ys p = some (⟨(getB (lensR ys 320) ys p).1, 0, 0⟩, (getB (lensR ys 320) ys p).2.2) := by unfold tokB; rw [if_neg (by rw [hok]; decide), if_neg he, if_pos h256]
          rw [htk] at hgo
          dsimp only at hgo
          have htb := tokB_long htk (by omega)
          have htl : (tlen ⟨(getB (lensR ys 320) ys p).1, 0, 0⟩ : Int) = max (⟨(getB (lensR ys 320) ys p).1, 0, 0⟩ : Tkn).long 1 := by unfold tlen; omega
          have hszx := hE8.size
          refine goL ?_
          refine xlda hB8 rfl rfl ?_
          refine xbz1 sl_rtoks rfl rfl (by decide) (by decide) (fun v1 hBv hEv hsv => ?_)
          refine xapz sl_rtoks rfl (by decide) rfl (hown8.ext hEv) rfl (blk_row hBv (by decide) rfl) rfl (fun u hu => tkC_one ⟨(getB (lensR ys 320) ys p).1, 0, 0⟩ u hu) (by unfold maxLen; omega) (by omega) (by omega) (fun v6 v2 hownv hFv hv6 => ?_)
          have hnb : ∀ b, tv.ownBlock = some b → w.heap.size ≤ b ∧ b < w5.heap.size := fun b hb => hown.blk hb
          have hBz : Blk v2 w6.heap.size 67 (tkC ⟨(getB (lensR ys 320) ys p).1, 0, 0⟩).toArray := (hB8.ext hEv).fr hFv fun e => by have := (hnb _ e).2; omega
          have c2 : v2.cell? ⟨w6.heap.size, 2, none⟩ = some (.int .i64 (⟨(getB (lensR ys 320) ys p).1, 0, 0⟩ : Tkn).long) := hBz.cell 2
          have hlb := hlens8.lt
          refine goLM ?_
          refine tfin ⟨(long + tlen ⟨(getB (lensR ys 320) ys p).1, 0, 0⟩, (getB (lensR ys 320) ys p).2.2, v6, ts ++ [⟨(getB (lensR ys 320) ys p).1, 0, 0⟩]), sub ⟨rfl, rfl, rfl, rfl, ieq (by dsimp only at htl ⊢; omega)⟩, ⟨(hin8.ext hEv).fr hFv fun e => (htne _ e).2 rfl, (hlens8.ext hEv).fr hFv fun e => (htne _ e).1 rfl, ?_, ?_, ?_, ⟨f, ?_, ?_⟩, ?_, Ext.te (hE8.t hEv) hFv fun j hj e => by have := (hnb j e).1; omega⟩, (by show n - (long + tlen ⟨(getB (lensR ys 320) ys p).1, 0, 0⟩) < n - long; omega)⟩
          · dsimp only; rw [List.length_append, tksC_snoc]; exact hownv
          · dsimp only; rw [List.length_append]; simp; omega
          · dsimp only; omega
          · dsimp only; omega
          · dsimp only
            rw [← hgo, Option.map_map]
            congr 1
            funext l
            simp
          · dsimp only
            intro b hb
            rcases hv6 with h | h
            · exact htne b (by rw [← h]; exact hb)
            · rw [h] at hb
              injection hb with hb
              have hszv := hEv.size
              omega
        have hin8 := hin6.ext hE68
        have hlens8 := hlens6.ext hE68
        have hown8 := hown6.ext hE68
        have hE8 : Ext w w8 := hE6.t hE68
        by_cases h10 : 8 * ys.length - (getB (lensR ys 320) ys p).2.2 < 10
        · rw [hnone (by unfold tokB; rw [if_neg (by rw [hok]; decide), if_neg he, if_neg h256, if_pos h10])]
          refine goL ?_
          refine xcall rfl rfl (rgetcut_does w8 _ ys _ 10 hin8 (by decide) h10 hyl) (fun r w9 h9 => ?_)
          obtain ⟨rfl, hE9⟩ := h9
          refine goL ?_
          exact tret2 rfl rfl rfl ⟨hE8.t hE9, _, rfl⟩
        have hv10 : val (unpk ys (getB (lensR ys 320) ys p).2.2 10) < 1024 := by
          have := val_lt (bits_unpk ys (getB (lensR ys 320) ys p).2.2 10)
          rw [length_unpk] at this
          exact this
        refine goL ?_
        refine xcall rfl rfl (rget_does w8 _ ys _ 10 hin8 (by decide) (by omega) hyl) (fun r w9 h9 => ?_)
        obtain ⟨rfl, hin9, hF9⟩ := h9
        have hE9 : Ext w w9 := Ext.te hE8 hF9 fun j hj e => by have e' : j = w.heap.size := e; omega
        have hB9 := hB8.fr hF9 (by show ¬ w6.heap.size = w.heap.size; omega)
        have hlens9 := hlens8.fr hF9 (by show ¬ w2.heap.size = w.heap.size; omega)
        have hown9 := hown8.fr hF9 fun b hb e => (htne b hb).2 e
        repeat' (first | refine xcvi rfl rfl rfl (by omega) (by omega) ?_ | refine go1L ?_ | fail)
        refine xbd (cells := #[.int .i64 (-1), .int .i64 ((val (unpk ys (getB (lensR ys 320) ys p).2.2 10) : Int) + 1), .int .i64 ((getB (lensR ys 320) ys p).1 - 256 + 3)]) rfl (by kernel_rfl) ?_
        refine xsta (cs := (tkC ⟨-1, (val (unpk ys (getB (lensR ys 320) ys p).2.2 10) : Int) + 1, (getB (lensR ys 320) ys p).1 - 256 + 3⟩).toArray) hB9 rfl rfl rfl rfl (tkC_all _) (fun w10 hB10 hF10 => ?_)
        have hbb : ∀ b, tv.ownBlock = some b → b ≠ w6.heap.size := fun b hb => by have := (hown.blk hb).2; omega
        have hgl6 := hlens.lt
        have hin10 := hin9.fr hF10 (by show ¬ w.heap.size = w6.heap.size; omega)
        have hlens10 := hlens9.fr hF10 (by show ¬ w2.heap.size = w6.heap.size; omega)
        have hown10 := hown9.fr hF10 fun b hb e => hbb b hb e
        have hE10 : Ext w w10 := Ext.te hE9 hF10 fun j hj e => by have e' : j = w6.heap.size := e; omega
        have htk : tokB (lensR ys 320) ys p = some (⟨-1, (val (unpk ys (getB (lensR ys 320) ys p).2.2 10) : Int) + 1, (getB (lensR ys 320) ys p).1 - 256 + 3⟩, ((getB (lensR ys 320) ys p).2.2 + 10)) := by unfold tokB; rw [if_neg (by rw [hok]; decide), if_neg he, if_neg h256, if_neg h10]
        rw [htk] at hgo
        dsimp only at hgo
        have htb := tokB_long htk (by omega)
        have htl : (tlen ⟨-1, (val (unpk ys (getB (lensR ys 320) ys p).2.2 10) : Int) + 1, (getB (lensR ys 320) ys p).1 - 256 + 3⟩ : Int) = max (⟨-1, (val (unpk ys (getB (lensR ys 320) ys p).2.2 10) : Int) + 1, (getB (lensR ys 320) ys p).1 - 256 + 3⟩ : Tkn).long 1 := by unfold tlen; omega
        have hszx := hE10.size
        refine goL ?_
        refine xlda hB10 rfl rfl ?_
        refine xbz1 sl_rtoks rfl rfl (by decide) (by decide) (fun v1 hBv hEv hsv => ?_)
        refine xapz sl_rtoks rfl (by decide) rfl (hown10.ext hEv) rfl (blk_row hBv (by decide) rfl) rfl (fun u hu => tkC_one ⟨-1, (val (unpk ys (getB (lensR ys 320) ys p).2.2 10) : Int) + 1, (getB (lensR ys 320) ys p).1 - 256 + 3⟩ u hu) (by unfold maxLen; omega) (by omega) (by omega) (fun v6 v2 hownv hFv hv6 => ?_)
        have hnb : ∀ b, tv.ownBlock = some b → w.heap.size ≤ b ∧ b < w5.heap.size := fun b hb => hown.blk hb
        have hBz : Blk v2 w6.heap.size 67 (tkC ⟨-1, (val (unpk ys (getB (lensR ys 320) ys p).2.2 10) : Int) + 1, (getB (lensR ys 320) ys p).1 - 256 + 3⟩).toArray := (hB10.ext hEv).fr hFv fun e => by have := (hnb _ e).2; omega
        have c2 : v2.cell? ⟨w6.heap.size, 2, none⟩ = some (.int .i64 (⟨-1, (val (unpk ys (getB (lensR ys 320) ys p).2.2 10) : Int) + 1, (getB (lensR ys 320) ys p).1 - 256 + 3⟩ : Tkn).long) := hBz.cell 2
        have hlb := hlens10.lt
        refine goLM ?_
        refine tfin ⟨(long + tlen ⟨-1, (val (unpk ys (getB (lensR ys 320) ys p).2.2 10) : Int) + 1, (getB (lensR ys 320) ys p).1 - 256 + 3⟩, ((getB (lensR ys 320) ys p).2.2 + 10), v6, ts ++ [⟨-1, (val (unpk ys (getB (lensR ys 320) ys p).2.2 10) : Int) + 1, (getB (lensR ys 320) ys p).1 - 256 + 3⟩]), sub ⟨rfl, rfl, rfl, rfl, ieq (by dsimp only at htl ⊢; omega)⟩, ⟨(hin10.ext hEv).fr hFv fun e => (htne _ e).2 rfl, (hlens10.ext hEv).fr hFv fun e => (htne _ e).1 rfl, ?_, ?_, ?_, ⟨f, ?_, ?_⟩, ?_, Ext.te (hE10.t hEv) hFv fun j hj e => by have := (hnb j e).1; omega⟩, (by show n - (long + tlen ⟨-1, (val (unpk ys (getB (lensR ys 320) ys p).2.2 10) : Int) + 1, (getB (lensR ys 320) ys p).1 - 256 + 3⟩) < n - long; omega)⟩
        · dsimp only; rw [List.length_append, tksC_snoc]; exact hownv
        · dsimp only; rw [List.length_append]; simp; omega
        · dsimp only; omega
        · dsimp only; omega
        · dsimp only
          rw [← hgo, Option.map_map]
          congr 1
          funext l
          simp
        · dsimp only
          intro b hb
          rcases hv6 with h | h
          · exact htne b (by rw [← h]; exact hb)
          · rw [h] at hb
            injection hb with hb
            have hszv := hEv.size
            omega
    · rw [unGo_done (by omega)] at hgo
      have hgo' : unGo (lensR ys 320) ys n n 1280 0 = some ts := by rw [← hgo]; simp
      obtain ⟨A, c, rfl, hc, hcm⟩ := hown.form
      repeat' (first | refine xcvi rfl rfl rfl (by omega) (by omega) ?_ | refine go1L ?_ | fail)
      refine xcall rfl rfl (rjoin_does w5 _ ts 12066 hown.row (by decide) (by omega)) (fun r w6 h6 => ?_)
      obtain ⟨rfl, hE6⟩ := h6
      unfold unB
      rw [if_neg (by omega), hgo']
      dsimp only
      by_cases h0 : (joinB 12066 [] ts).1 = 0
      · rw [if_pos h0]
        refine goL ?_
        exact tret2 rfl rfl rfl ⟨hE5.t hE6, rfl⟩
      · rw [if_neg h0]
        refine goL ?_
        exact tret2 rfl rfl rfl ⟨hE5.t hE6, _, rfl⟩

set_option maxRecDepth 20000 in
set_option maxHeartbeats 4000000 in
theorem runpack_does (w : World) (bs : List Int) (most : Int) (hb : Byts bs) (hl : bs.length ≤ 10000) :
    Does Try.prog 36 #[.string (strOfNums bs), .int .i64 most] w fun r w' => r = .tuple #[.string (strOfNums (gtB bs most).2), .int .i64 (gtB bs most).1] ∧ Ext w w' := by
  refine does2 Try.func36 rfl (by kernel_rfl) ?_
  refine goL ?_
  refine xcall rfl rfl (ropened_does w bs hb (by omega)) (fun r w1 h1 => ?_)
  obtain ⟨hE1, h1⟩ := h1
  rw [opn_same hb most]
  cases ho : opnR bs with
  | none =>
    rw [ho] at h1
    obtain ⟨v', rfl⟩ := h1
    dsimp only
    refine goL ?_
    exact tret2 rfl rfl rfl ⟨rfl, hE1⟩
  | some x =>
    rw [ho] at h1
    dsimp only at h1 ⊢
    subst h1
    have hxb := opnR_byts hb ho
    have hxl := opnR_len ho
    refine goL ?_
    refine xcall rfl rfl (rpack_does w1 x hxb (by omega)) (fun r w2 h2 => ?_)
    obtain ⟨rfl, hE2⟩ := h2
    by_cases he : ptE x ≠ 0
    · rw [if_pos (.inl he)]
      refine goL ?_
      exact tret2 rfl rfl rfl ⟨rfl, hE1.t hE2⟩
    have he0 : ptE x = 0 := Decidable.not_not.1 he
    rw [he0]
    by_cases hq : ptB x = bs
    · rw [if_neg (by simp [hq]), hq]
      refine goL ?_
      refine xsneb rfl rfl (r := false) (by rw [str_ne hb hb]; simp) ?_
      by_cases hm : max most 0 < (x.length : Int)
      · rw [if_pos hm]
        repeat' (first | refine xsln rfl rfl ?_ | refine go1LM ?_ | fail)
        exact tret2 rfl rfl rfl ⟨rfl, hE1.t hE2⟩
      · rw [if_neg hm]
        repeat' (first | refine xsln rfl rfl ?_ | refine go1LM ?_ | fail)
        exact tret2 rfl rfl rfl ⟨rfl, hE1.t hE2⟩
    · rw [if_pos (.inr hq)]
      refine goL ?_
      refine xsneb rfl rfl (r := true) (by rw [str_ne (ptB_byts hxb) hb]; simp [hq]) ?_
      refine goL ?_
      exact tret2 rfl rfl rfl ⟨rfl, hE1.t hE2⟩
end Eng
end Go.Proofs.Ytighkjohpmlemaa
