/-
  Parts of the proof: Ohb.
-/
import Derived.Test.YtoheknblphcloaaGreatDoorQOha
set_option maxRecDepth 100000
set_option maxHeartbeats 64000000
namespace Go.Proofs.YtoheknblphcloaaGreatDoor
open Go.RowKit
namespace Eng
namespace Rn
set_option maxRecDepth 100000
theorem make_run {r : Nat} (hr : r ≤ 3) (h : isY (mkR r) = true) (w : World) (hT : TabI noneB w) : Does Tryz.prog 4 #[.slice none 0 0] w fun t w1 => Ext w w1 ∧ (∃ a b, t = .agg #[a, b] ∧ a.oneCell' = true ∧ b.oneCell' = true) ∧ ∀ (s0 s1 s2 s3 s4 s5 s6 s7 : UInt8) (w2 : World), Ext w1 w2 →
  Does Tryz.prog 5 #[t, .string (su []), .string (su [s0, s1, s2, s3, s4, s5, s6, s7]), .int .i64 (r : Int)] w2 fun v w3 => Ext w w3 ∧ ∃ l : Str, v = .tuple #[.string (su ([83, 84, 69, 49, s0, s1, s2, s3, s4, s5, s6, s7, UInt8.ofNat r] ++ l)), .int .i64 0] ∧ 17 ≤ l.length ∧ l.length ≤ 987 := by
 obtain ⟨q, hq, hn⟩ := isY_inv h
 clear h
 unfold mkR at hq
 obtain ⟨v, e, σ, h1, hq⟩ := valR_inv hn hq
 obtain ⟨hg2, hq⟩ := okK_inv hq hn
 rw [fN_eq] at hq
 obtain ⟨σ8, hq, hU⟩ := unkR_inv hn hq
 obtain ⟨v2, e2, σ', h2, hq⟩ := valR_inv hn hq
 obtain ⟨hc, _⟩ := okK_inv hq hn
 obtain ⟨l, rfl, hl1, hl2⟩ := chk_inv hc
 refine Does.mono (run_sound tabM_ok 100 ⟨noneB, w, hT⟩ _ [.v .l0] ⟨0, .nil, []⟩ _ e σ [] [.slice none 0 0] w h1 (.cons rfl .nil) (MR.z w hT)) fun val w1 hh => ?_
 obtain ⟨ρ, _, hav, hM⟩ := hh
 refine ⟨hM.old, g2_inv hg2 hav, fun s0 s1 s2 s3 s4 s5 s6 s7 w2 hE => ?_⟩
 have hM8 := hU [s0.toNat, s1.toNat, s2.toNat, s3.toNat, s4.toNat, s5.toNat, s6.toNat, s7.toNat] _ ρ w2 rfl (hM.ext hE)
 have hnl : ρ.length = σ.n := hM.len
 obtain ⟨ρ8, hρ8⟩ : ∃ ρ8, ρ8 = ρ ++ [s0.toNat, s1.toNat, s2.toNat, s3.toNat, s4.toNat, s5.toNat, s6.toNat, s7.toNat].map atU := ⟨_, rfl⟩
 rw [← hρ8] at hM8
 have hu8 : Up ρ ρ8 := fun i p hp => by
  rw [hρ8, List.getElem?_append_left (List.getElem?_eq_some_iff.1 hp).1]; exact hp
 have hat : ∀ i b, [s0.toNat, s1.toNat, s2.toNat, s3.toNat, s4.toNat, s5.toNat, s6.toNat, s7.toNat][i]? = some b → ρ8[σ.n + i]? = some (atU b) := fun i b hb => by
  rw [hρ8, List.getElem?_append_right (by omega), hnl, Nat.add_sub_cancel_left, List.getElem?_map, hb]
  rfl
 have huc : ∀ ρ', Up ρ8 ρ' → [ucOf ρ' (σ.n + 256), ucOf ρ' (σ.n + 257), ucOf ρ' (σ.n + 258), ucOf ρ' (σ.n + 259), ucOf ρ' (σ.n + 260), ucOf ρ' (σ.n + 261), ucOf ρ' (σ.n + 262), ucOf ρ' (σ.n + 263)] = [s0, s1, s2, s3, s4, s5, s6, s7] := fun ρ' hu => by
  have e : ∀ i b, [s0.toNat, s1.toNat, s2.toNat, s3.toNat, s4.toNat, s5.toNat, s6.toNat, s7.toNat][i]? = some b → ucOf ρ' (σ.n + i + 256) = UInt8.ofNat b := fun i b hb => ucOf_at hu (hat i b hb)
  have e0 : ucOf ρ' (σ.n + 256) = s0 := (e 0 _ rfl).trans UInt8.ofNat_toNat
  have e1 : ucOf ρ' (σ.n + 257) = s1 := (e 1 _ rfl).trans UInt8.ofNat_toNat
  have e2 : ucOf ρ' (σ.n + 258) = s2 := (e 2 _ rfl).trans UInt8.ofNat_toNat
  have e3 : ucOf ρ' (σ.n + 259) = s3 := (e 3 _ rfl).trans UInt8.ofNat_toNat
  have e4 : ucOf ρ' (σ.n + 260) = s4 := (e 4 _ rfl).trans UInt8.ofNat_toNat
  have e5 : ucOf ρ' (σ.n + 261) = s5 := (e 5 _ rfl).trans UInt8.ofNat_toNat
  have e6 : ucOf ρ' (σ.n + 262) = s6 := (e 6 _ rfl).trans UInt8.ofNat_toNat
  have e7 : ucOf ρ' (σ.n + 263) = s7 := (e 7 _ rfl).trans UInt8.ofNat_toNat
  rw [e0, e1, e2, e3, e4, e5, e6, e7]
 have hsl : SR ρ8 (.sl [Nat.add σ.n 256, Nat.add σ.n 257, Nat.add σ.n 258, Nat.add σ.n 259, Nat.add σ.n 260, Nat.add σ.n 261, Nat.add σ.n 262, Nat.add σ.n 263]) (.string (su [s0, s1, s2, s3, s4, s5, s6, s7])) := by
  refine ⟨congrArg (fun l => Value.string (su l)) (huc ρ8 (Up.refl ρ8)).symm, fun q hq => .inr ?_, show 8 ≤ maxLen by decide⟩
  have h256 : ∀ i b, [s0.toNat, s1.toNat, s2.toNat, s3.toNat, s4.toNat, s5.toNat, s6.toNat, s7.toNat][i]? = some b → b < 256 → ∃ p, ρ8[σ.n + (256 + i) - 256]? = some p ∧ p.b < 256 := fun i b hb hlt => ⟨_, by rw [show σ.n + (256 + i) - 256 = σ.n + i from by omega]; exact hat i b hb, hlt⟩
  simp only [List.mem_cons, List.not_mem_nil, or_false] at hq
  rcases hq with rfl | rfl | rfl | rfl | rfl | rfl | rfl | rfl
  ·exact h256 0 _ rfl s0.toNat_lt
  ·exact h256 1 _ rfl s1.toNat_lt
  ·exact h256 2 _ rfl s2.toNat_lt
  ·exact h256 3 _ rfl s3.toNat_lt
  ·exact h256 4 _ rfl s4.toNat_lt
  ·exact h256 5 _ rfl s5.toNat_lt
  ·exact h256 6 _ rfl s6.toNat_lt
  ·exact h256 7 _ rfl s7.toNat_lt
 refine Does.mono (run_sound tabM_ok 100 _ _ _ σ8 _ e2 σ' ρ8 [val, .string (su []), .string (su [s0, s1, s2, s3, s4, s5, s6, s7]), .int .i64 (r : Int)] w2 h2 (.cons (hav.up hu8) (.cons ⟨rfl, by simp, by decide⟩ (.cons hsl (.cons ⟨rfl, Nat.le_trans hr (by decide)⟩ .nil)))) hM8) fun v w3 hh => ?_
 obtain ⟨ρ', hu', hav', hM'⟩ := hh
 obtain ⟨vs, hvs, rfl⟩ := hav'
 cases hvs with
 | cons g1 gs =>
  cases gs with
  | cons g2 gs =>
   cases gs
   obtain ⟨rfl, _, _⟩ := (show SR ρ' (.sl (preL σ.n r ++ l)) _ from g1)
   obtain ⟨rfl, _⟩ := (show SR ρ' (.n .i64 0) _ from g2)
   refine ⟨hM'.old, l.map (ucOf ρ'), ?_, by rw [List.length_map]; exact hl1, by rw [List.length_map]; exact hl2⟩
   have h8 := huc ρ' hu'
   simp only [List.cons.injEq, and_true] at h8
   obtain ⟨g0, g1, g2, g3, g4, g5, g6, g7⟩ := h8
   have e83 : ucOf ρ' 83 = 83 := rfl
   have e84 : ucOf ρ' 84 = 84 := rfl
   have e69 : ucOf ρ' 69 = 69 := rfl
   have e49 : ucOf ρ' 49 = 49 := rfl
   have er : ucOf ρ' r = UInt8.ofNat r := by unfold ucOf; rw [if_pos (by omega)]
   have hp : (preL σ.n r).map (ucOf ρ') = [83, 84, 69, 49, s0, s1, s2, s3, s4, s5, s6, s7, UInt8.ofNat r] := by
    show [ucOf ρ' 83, ucOf ρ' 84, ucOf ρ' 69, ucOf ρ' 49, ucOf ρ' (σ.n + 256), ucOf ρ' (σ.n + 257), ucOf ρ' (σ.n + 258), ucOf ρ' (σ.n + 259), ucOf ρ' (σ.n + 260), ucOf ρ' (σ.n + 261), ucOf ρ' (σ.n + 262), ucOf ρ' (σ.n + 263), ucOf ρ' r] = _
    rw [e83, e84, e69, e49, g0, g1, g2, g3, g4, g5, g6, g7, er]
   rw [List.map_append, hp]
   rfl
end Rn
end Eng
end Go.Proofs.YtoheknblphcloaaGreatDoor
