/-
  Parts of the proof: Ar.
-/
import Derived.Test.YtoheknblphcloaaGreatDoorQOhc
set_option maxRecDepth 100000
set_option maxHeartbeats 64000000
namespace Go.Proofs.YtoheknblphcloaaGreatDoor.Eng
open Go.RowKit
section
open Go.ChangeShapes Go.WideShapes Go.ChangeAt Go.RowKit
set_option maxRecDepth 100000
theorem trodAll_five' {H : Type} {enc : TypeId × Value → H} {W : World} {P : Program} {t t' t'' t3 t4 : TypeId} {args : Array Value} {ds : List (DataW H)} {ps : List MemPlace} (h : DataW.TrodAll enc P W 0 (fun _ => true) true [t, t', t'', t3, t4] args.toList ds ps) :
  ∃ v v' v'' v3 v4 d d' d'' d3 d4 p p' p'' p3 p4, args = #[v, v', v'', v3, v4] ∧ ds = [d, d', d'', d3, d4] ∧ ps = p ++ p' ++ p'' ++ p3 ++ p4 ∧ DataW.Trod enc P W 0 (fun _ => true) true t v d p ∧ DataW.Trod enc P W 0 (fun _ => true) true t' v' d' p' ∧ DataW.Trod enc P W 0 (fun _ => true) true t'' v'' d'' p'' ∧ DataW.Trod enc P W 0 (fun _ => true) true t3 v3 d3 p3 ∧ DataW.Trod enc P W 0 (fun _ => true) true t4 v4 d4 p4 := by
 obtain ⟨v, vs, d, e1, p, q, hargs, rfl, rfl, hd, hrest⟩ := trodAll_cons h
 obtain ⟨v', vs', d', e2, p', q', rfl, rfl, rfl, hd', hrest'⟩ := trodAll_cons hrest
 obtain ⟨v'', vs'', d'', e3, p'', q'', rfl, rfl, rfl, hd'', hrest''⟩ := trodAll_cons hrest'
 obtain ⟨v3, vs3, d3, e4, p3, q3, rfl, rfl, rfl, hd3, hrest3⟩ := trodAll_cons hrest''
 obtain ⟨v4, vs4, d4, e5, p4, q4, rfl, rfl, rfl, hd4, hrest4⟩ := trodAll_cons hrest3
 obtain ⟨rfl, rfl, rfl⟩ := trodAll_nil hrest4
 exact ⟨v, v', v'', v3, v4, d, d', d'', d3, d4, p, p', p'', p3, p4, by cases args; simp_all, rfl, by simp, hd, hd', hd'', hd3, hd4⟩
theorem cell_u8 {W : World} {base : Nat} {v : Value} (h : Cell.okWide Tryz.prog W .any base 5 v) : ∃ x : UInt8, v = .int .u8 (x.toNat : Int) := by
 cases v with
 | int k n =>
  have h : k = .u8 ∧ IntKind.u8.has n := by simpa [Cell.okWide, Cell.ok, Tryz.underlying5] using h
  obtain ⟨rfl, h1, h2⟩ := h
  have h1 : 0 ≤ n := h1
  have h2 : n ≤ 255 := h2
  exact ⟨UInt8.ofNat n.toNat, by simp; omega⟩
 | _ => exact absurd h (by simp [Cell.okWide, Cell.ok, Tryz.underlying5])
theorem u8_of {W : World} {base : Nat} {v : Value} (h : Value.okWide Tryz.prog W .any base 5 v) : ∃ x : UInt8, v = .int .u8 (x.toNat : Int) := by
 refine cell_u8 (W := W) (base := base) ?_
 simpa [Value.okWide, Tryz.underlying5] using h
theorem arr8_of {W : World} {base : Nat} {v : Value} (h : Value.okWide Tryz.prog W .any base 22 v) : ∃ s0 s1 s2 s3 s4 s5 s6 s7 : UInt8, v = .agg (bs [s0, s1, s2, s3, s4, s5, s6, s7]).toArray := by
 have h' : ∃ cs, v = .agg cs ∧ cs.size = Tryz.prog.cellsOf 22 ∧ Row.okWide Tryz.prog W .any base 22 cs := by simpa [Value.okWide, Tryz.underlying22] using h
 obtain ⟨cs, rfl, hs, ts, ht, _, hc⟩ := h'
 have hs : cs.size = 8 := hs.trans (by kernel_rfl)
 obtain rfl : ts = List.replicate 8 5 := Option.some.inj (ht.symm.trans (by kernel_rfl))
 have key : ∀ i, i < 8 → ∃ x : UInt8, cs[i]? = some (.int .u8 (x.toNat : Int)) := fun i hi => by
  have hg : cs[i]? = some (cs[i]'(by omega)) := Array.getElem?_eq_getElem (by omega)
  obtain ⟨u, hu, hk⟩ := hc i _ hg
  rw [List.length_replicate, Nat.mod_eq_of_lt hi, List.getElem?_replicate, if_pos hi] at hu
  obtain rfl := Option.some.inj hu
  obtain ⟨x, hx⟩ := cell_u8 hk
  exact ⟨x, by rw [hg, hx]⟩
 obtain ⟨x0, e0⟩ := key 0 (by decide)
 obtain ⟨x1, e1⟩ := key 1 (by decide)
 obtain ⟨x2, e2⟩ := key 2 (by decide)
 obtain ⟨x3, e3⟩ := key 3 (by decide)
 obtain ⟨x4, e4⟩ := key 4 (by decide)
 obtain ⟨x5, e5⟩ := key 5 (by decide)
 obtain ⟨x6, e6⟩ := key 6 (by decide)
 obtain ⟨x7, e7⟩ := key 7 (by decide)
 refine ⟨x0, x1, x2, x3, x4, x5, x6, x7, congrArg Value.agg (Array.ext_getElem? fun i => ?_)⟩
 match i with
 | 0 => rw [e0]; rfl
 | 1 => rw [e1]; rfl
 | 2 => rw [e2]; rfl
 | 3 => rw [e3]; rfl
 | 4 => rw [e4]; rfl
 | 5 => rw [e5]; rfl
 | 6 => rw [e6]; rfl
 | 7 => rw [e7]; rfl
 | i + 8 => rw [Array.getElem?_eq_none (by omega), Array.getElem?_eq_none (by show 8 ≤ i + 8; omega)]
end
end Go.Proofs.YtoheknblphcloaaGreatDoor.Eng
