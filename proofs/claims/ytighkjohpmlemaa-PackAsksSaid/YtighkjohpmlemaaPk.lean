/-
  Package pack: unpack.
-/
import Derived.Test.YtighkjohpmlemaaPj
namespace Go.Proofs.Ytighkjohpmlemaa
open Go.RowKit
namespace Eng
attribute [local irreducible] xs T

theorem lensR_set (ys : List Int) {i : Nat} (h : i < 320) : (lensR ys i ++ List.replicate (320 - i) 0).set i (val (unpk ys (4 * i) 4) : Int) = lensR ys (i + 1) ++ List.replicate (320 - (i + 1)) 0 := by
  have hl : (lensR ys i).length = i := by simp [lensR]
  rw [List.set_append_right _ _ (by omega), hl, Nat.sub_self]
  obtain ⟨m, hm⟩ : ∃ m, 320 - i = m + 1 := ⟨320 - i - 1, by omega⟩
  have hm' : 320 - (i + 1) = m := by omega
  rw [hm, hm', List.replicate_succ, List.set_cons_zero]
  unfold lensR
  rw [List.range_succ, List.map_append, List.append_assoc]
  rfl
theorem lensR_len (ys : List Int) (k : Nat) : (lensR ys k).length = k := by simp [lensR]

structure UnA (ys : List Int) (gi gl : Nat) (w0 : World) (i : Nat) (w : World) : Prop where
  le : i ≤ 320
  inn : InR w gi ys (4 * i)
  lens : IB w gl (lensR ys i ++ List.replicate (320 - i) 0)
  fr : Fr (· = gi) w0 w

structure UnC (ys : List Int) (n gi gl : Nat) (w0 : World) (x : Nat × Nat × Value × List Tkn) (w : World) : Prop where
  inn : InR w gi ys x.2.1
  lens : IB w gl (lensR ys 320)
  own : OwnZ w w0.heap.size 59 3 x.2.2.1 x.2.2.2.length (tksC x.2.2.2)
  len : x.2.2.2.length ≤ x.1
  top : x.1 ≤ n + 1000
  go : ∃ f, n - x.1 ≤ f ∧ (unGo (lensR ys 320) ys n f x.2.1 x.1).map (x.2.2.2 ++ ·) = unGo (lensR ys 320) ys n n 1280 0
  glb : w0.heap.size ≤ gl
  tne : ∀ b, x.2.2.1.ownBlock = some b → b ≠ gl
  fr : Fr (· = gi) w0 w

theorem tokB_long {lens ys : List Int} {p p' : Nat} {t : Tkn} (h : tokB lens ys p = some (t, p')) (hl : lens.length ≤ 500) : 0 ≤ t.long ∧ t.long ≤ 500 ∧ -1 ≤ t.lit ∧ t.lit ≤ 500 ∧ 0 ≤ t.back ∧ t.back ≤ 1024 := by
  have hb := getB_bd lens ys p
  unfold tokB at h
  split at h
  · cases h
  split at h
  · cases h
  split at h
  · injection h with h; injection h with h _; subst h; dsimp only; omega
  split at h
  · cases h
  have hv10 : val (unpk ys (getB lens ys p).2.2 10) < 1024 := by
    have := val_lt (bits_unpk ys (getB lens ys p).2.2 10)
    rw [length_unpk] at this
    exact this
  injection h with h; injection h with h _; subst h; dsimp only; omega
theorem unGo_done {lens ys : List Int} {n f p long : Nat} (h : n ≤ long) : unGo lens ys n f p long = some [] := by
  cases f <;> rw [unGo, if_pos h]

set_option maxRecDepth 20000 in
set_option maxHeartbeats 8000000 in
theorem unpack_does (w : World) (gi : Nat) (ys : List Int) (n : Nat) (hi : InR w gi ys 0) (hn : n ≤ 12000) (hy : ys.length ≤ 2 ^ 40) :
    Does Try.prog 79 #[.pointer (some ⟨gi, 0, none⟩), .int .i64 (n : Int)] w fun r w' => Fr (· = gi) w w' ∧ match unB n ys n with
      | none => ∃ v', r = .tuple #[v', .bool false]
      | some zs => ∃ v', r = .tuple #[v', .bool true] ∧ Own w' w.heap.size 5 v' (zs.map (Value.int .u8)) := by
  refine does2 Try.func79 rfl (by kernel_rfl) ?_
  have hgl := hi.lt
  have hL := lensR_len ys 320
  refine goL ?_
  refine tscope1 (α := Nat × Nat × Nat × Value × List Tkn) 0 rfl (fun x => [(0, .pointer (some ⟨gi, 0, none⟩)), (1, .int .i64 (n : Int)), (6, .slice (some ⟨x.1, 0, none⟩) 320 320), (10, x.2.2.2.1), (11, .int .i64 (x.2.1 : Int))]) (fun x w' => 1280 ≤ 8 * ys.length ∧ UnC ys n gi x.1 w x.2 w') (fun x => n - x.2.1) ?_ ?_
  · rintro ⟨gl, long, p, tv, ts⟩ w1 ⟨hge, hin, hlens, hown, hlen, htop, ⟨f, hf, hgo⟩, hglb, htne, hF⟩
    dsimp only at hin hlens hown hlen htop hf hgo hglb htne hF ⊢
    have hlr : IRow w1 (.slice (some ⟨gl, 0, none⟩) 320 320) (lensR ys 320) := hlens.row (by rw [hL]; decide) _ hL.symm
    have hsz := hF.size
    by_cases hlt : long < n
    · obtain ⟨f, rfl⟩ : ∃ f', f = f' + 1 := ⟨f - 1, by omega⟩
      rw [unGo, if_neg (by omega)] at hgo
      refine goL ?_
      refine xcall rfl rfl (token_does w1 gi _ (lensR ys 320) ys p hin hlr (fun e => by have e' : (some gl : Option Nat) = some gi := e; injection e' with e'; omega) (by rw [hL]; decide) hy) (fun r w2 h2 => ?_)
      obtain ⟨hF2, h2⟩ := h2
      have hsz2 := hF2.size
      cases ht : tokB (lensR ys 320) ys p with
      | none =>
        rw [ht] at h2 hgo
        dsimp only at h2 hgo
        subst h2
        refine goL ?_
        refine xalloc (z := .agg #[.int .i64 0, .int .i64 0, .int .i64 0]) (by kernel_rfl) (fun w3 hB3 hE3 hs3 => ?_)
        refine xsta (cs := (tkC ⟨0, 0, 0⟩).toArray) hB3 rfl rfl rfl rfl (tkC_all _) (fun w4 hB4 hF4 => ?_)
        refine goL ?_
        have hu : unB n ys n = none := by unfold unB; rw [if_neg (by omega), ← hgo]; rfl
        rw [hu]
        refine tret2 rfl rfl rfl ⟨((hF.t hF2).t (Ext.fr hE3)).trans hF4 fun j hj e => ?_, _, rfl⟩
        have e' : j = w2.heap.size := e
        omega
      | some q =>
        obtain ⟨t, p'⟩ := q
        rw [ht] at h2 hgo
        dsimp only at h2 hgo
        obtain ⟨rfl, hin2⟩ := h2
        have htb := tokB_long ht (by omega)
        have htl : (tlen t : Int) = max t.long 1 := by unfold tlen; omega
        refine goL ?_
        refine xalloc (z := .agg #[.int .i64 0, .int .i64 0, .int .i64 0]) (by kernel_rfl) (fun w3 hB3 hE3 hs3 => ?_)
        refine xsta (cs := (tkC t).toArray) hB3 rfl rfl rfl rfl (tkC_all _) (fun w4 hB4 hF4 => ?_)
        refine goL ?_
        have hE24 : Ext w2 w4 := Ext.te hE3 hF4 fun j hj e => by have e' : j = w2.heap.size := e; omega
        refine xlda hB4 rfl rfl ?_
        refine xbz1 sl_toks rfl rfl (by decide) (by decide) (fun w5 hB5 hE5 hs5 => ?_)
        have hnb : ∀ b, tv.ownBlock = some b → w.heap.size ≤ b ∧ b < w1.heap.size := fun b hb => hown.blk hb
        have hown2 := hown.fr hF2 fun b hb e => by have := (hnb b hb).1; have e' : b = gi := e; omega
        have hsz4 := hE24.size
        refine xapz sl_toks rfl (by decide) rfl ((hown2.ext hE24).ext hE5) rfl (blk_row hB5 (by decide) rfl) rfl (fun u hu => tkC_one t u hu) (by unfold maxLen; omega) (by omega) (by omega) (fun v6 w6 hown6 hF6 hv6 => ?_)
        have hB5' := hB4.ext hE5
        have hE25 : Ext w2 w5 := hE24.t hE5
        have hF16 : Fr (· = gi) w w6 := ((hF.t hF2).t (Ext.fr hE25)).trans hF6 fun j hj e => by have := (hnb j e).1; omega
        have hB6 : Blk w6 w2.heap.size 59 #[.int .i64 t.lit, .int .i64 t.back, .int .i64 t.long] := hB5'.fr hF6 fun e => by have := (hnb _ e).2; omega
        have c2 : w6.cell? ⟨w2.heap.size, 2, none⟩ = some (.int .i64 t.long) := hB6.cell 2
        repeat' (first | refine xmax rfl rfl ?_ | refine go1L ?_ | fail)
        have hin6 : InR w6 gi ys p' := (hin2.ext hE25).above hF6 fun b hb e => by have := (hnb b e).1; omega
        have hlens6 : IB w6 gl (lensR ys 320) := ((hlens.fr hF2 (by show ¬ gl = gi; omega)).ext hE25).fr hF6 fun e => htne _ e rfl
        have hgl1 := hlens.lt
        refine tgoto rfl ⟨_, (by show n - (long + tlen t) < n - long; omega), rfl, (gl, long + tlen t, p', v6, ts ++ [t]), sub ⟨rfl, rfl, rfl, rfl, ieq (by dsimp only; omega)⟩, ⟨hge, hin6, ?_, ?_, ?_, ?_, ⟨f, ?_, ?_⟩, hglb, ?_, hF16⟩, rfl⟩
        · exact hlens6
        · dsimp only; rw [List.length_append, tksC_snoc]; exact hown6
        · dsimp only; rw [List.length_append]; simp; omega
        · dsimp only; omega
        · dsimp only; omega
        · dsimp only
          rw [← hgo, Option.map_map]
          congr 1
          funext l
          simp
        · dsimp only
          intro b hb
          rcases hv6 with h | h
          · exact htne b (by rw [← h]; exact hb)
          · rw [h] at hb
            injection hb with hb
            have hsz5 := hE5.size
            omega
    · rw [unGo_done (by omega)] at hgo
      have hgo' : unGo (lensR ys 320) ys n n 1280 0 = some ts := by rw [← hgo]; simp
      obtain ⟨A, c, rfl, hc, hcm⟩ := hown.form
      refine goL ?_
      refine xcall rfl rfl (join_does w1 _ ts n hown.row (by omega)) (fun r w2 h2 => ?_)
      obtain ⟨v', rfl, hown2, hE2⟩ := h2
      have hF2 : Fr (· = gi) w w2 := hF.t (Ext.fr hE2)
      unfold unB
      rw [if_neg (by omega), hgo']
      dsimp only
      by_cases h0 : (joinB n [] ts).1 = 0
      · rw [if_pos h0]
        refine goL ?_
        exact tret2 rfl rfl rfl ⟨hF2, _, rfl, hown2.mono (by omega)⟩
      · rw [if_neg h0]
        refine goL ?_
        exact tret2 rfl rfl rfl ⟨hF2, _, rfl⟩
  · intro H
    refine goL ?_
    refine xmk sl_ints rfl rfl rfl (by omega) (by omega) (by omega) (fun w2 hB2 hE2 hs2 => ?_)
    have hcnt : IB w2 w.heap.size (List.replicate 320 0) := IB.new hB2
    refine goL ?_
    refine tloop (α := Nat) (fun k => [(0, .pointer (some ⟨gi, 0, none⟩)), (1, .int .i64 (n : Int)), (6, .slice (some ⟨w.heap.size, 0, none⟩) 320 320), (18, .int .i64 320), (19, .int .i64 (k : Int))]) (UnA ys gi w.heap.size w) (fun k => 320 - k) 0 (sub ⟨rfl, rfl, rfl, rfl, rfl⟩) ⟨Nat.zero_le _, hi.ext hE2, hcnt, Ext.fr hE2⟩ ?_
    rintro i w3 ⟨hi3, hin3, hlens3, hF3⟩
    have hll : (lensR ys i ++ List.replicate (320 - i) 0).length = 320 := by rw [List.length_append, lensR_len, List.length_replicate]; omega
    by_cases hlt : i < 320
    · refine goL ?_
      refine xcall rfl rfl (get_does w3 gi ys _ 4 hin3 (by decide) hy) (fun r w4 h4 => ?_)
      rcases h4 with ⟨hc, rfl, hin4, hF4⟩ | ⟨hc, rfl, hin4, hF4⟩
      · have hu : unB n ys n = none := by unfold unB; rw [if_pos (by omega)]
        rw [hu]
        refine goL ?_
        exact tret2 rfl rfl rfl ⟨hF3.t hF4, _, rfl⟩
      · have hv4 : val (unpk ys (4 * i) 4) < 16 := by
          have := val_lt (bits_unpk ys (4 * i) 4)
          rw [length_unpk] at this
          exact this
        have hlens4 := hlens3.fr hF4 (by show ¬ w.heap.size = gi; omega)
        repeat' (first | refine xcvi rfl rfl rfl (by omega) (by omega) ?_ | refine xisq i i rfl rfl rfl rfl (by omega) (by omega) ?_ | refine go1L ?_ | fail)
        refine xsti hlens4 rfl rfl rfl (by omega) (fun w5 hlens5 hF5 => ?_)
        rw [lensR_set ys hlt] at hlens5
        refine goL ?_
        exact tfin ⟨i + 1, sub ⟨rfl, rfl, rfl, rfl, rfl⟩, ⟨by omega, hin4.st hlens4 (fun j u hu => by
          rw [List.getElem?_toArray] at hu
          obtain ⟨z, _, hz⟩ := List.mem_map.1 (List.mem_of_getElem? hu)
          exact ⟨z, hz.symm⟩) hF5 (by omega), hlens5, (hF3.t hF4).trans hF5 fun j hj e => by have e' : j = w.heap.size := e; omega⟩, (by show 320 - (i + 1) < 320 - i; omega)⟩
    · obtain rfl : i = 320 := by omega
      rw [Nat.sub_self, List.replicate_zero, List.append_nil] at hlens3
      have hle := hin3.le
      refine goL ?_
      refine tlabel ?_
      exact tweak (H (w.heap.size, 0, 1280, .slice none 0 0, []) w3 ⟨by omega, hin3, hlens3, OwnZ.nil _ _ _ _, Nat.zero_le _, by dsimp only; omega, ⟨n, by dsimp only; omega, by dsimp only; simp⟩, Nat.le_refl _, fun b hb => (by cases hb), hF3⟩) (sub ⟨rfl, rfl, rfl, rfl, rfl⟩)
end Eng
end Go.Proofs.Ytighkjohpmlemaa
