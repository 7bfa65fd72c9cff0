/-
  Maps from numbers to numbers.
-/
import Derived.Test.YtalnkjpgnkfedaaGreatDoorEyf
namespace Go.Proofs.YtalnkjpgnkfedaaGreatDoor
open Go.RowKit
namespace Eng
namespace Rn
theorem mpT_spec {t : TypeId} (h : mpT t = true) : ∃ kt et, Tryz.prog.underlying t = some (.map kt et) ∧ Tryz.prog.underlying kt = some (.int .i64) ∧ ∀ w : World, (zeroValue et).run Tryz.prog w = .ok (.int .i64 0) w := by
  unfold mpT at h
  split at h
  · rename_i kt et hu
    split at h
    · rename_i hk
      refine ⟨kt, et, hu, kind_spec hk, fun w => ?_⟩
      unfold zeB at h
      split at h
      · rename_i n hz
        have h := Nat.eq_of_beq_eq_true h
        subst h
        cases hi : Tryz.prog.info? et with
        | none => rw [hi] at hz; cases hz
        | some i =>
          rw [hi] at hz
          have hz : i.zero = some (.int .i64 (Int.ofNat 0)) := hz
          simp [zeroValue, typeInfo, hi, hz]
      · cases h
    · cases h
  · cases h
theorem zeB_spec {et : TypeId} (h : zeB ((Tryz.prog.info? et).bind (·.zero)) = true) (w : World) : (zeroValue et).run Tryz.prog w = .ok (.int .i64 0) w := by
  unfold zeB at h
  split at h
  · rename_i n hz
    have h := Nat.eq_of_beq_eq_true h
    subst h
    cases hi : Tryz.prog.info? et with
    | none => rw [hi] at hz; cases hz
    | some i =>
      rw [hi] at hz
      have hz : i.zero = some (.int .i64 (Int.ofNat 0)) := hz
      simp [zeroValue, typeInfo, hi, hz]
  · cases h
theorem mpS_spec {t : TypeId} (h : mpS t = true) : ∃ kt et, Tryz.prog.underlying t = some (.map kt et) ∧ Tryz.prog.underlying kt = some .string ∧ ∀ w : World, (zeroValue et).run Tryz.prog w = .ok (.int .i64 0) w := by
  unfold mpS at h
  split at h
  · rename_i kt et hu
    split at h
    · rename_i hk
      exact ⟨kt, et, hu, hk, zeB_spec h⟩
    · cases h
  · cases h
theorem run_lke {w : World} {g : Nat} (hB : MpB w g []) (t kt et : TypeId) (hu : Tryz.prog.underlying t = some (.map kt et)) (hk : Tryz.prog.underlying kt = some .string) (hz : (zeroValue et).run Tryz.prog w = .ok (.int .i64 0) w) (s : ByteArray) :
    (Instr.lookup t (.map (some g)) (.string s) false).run Tryz.prog w = .ok (.int .i64 0) w := by
  obtain ⟨es, clock, h1, h2⟩ := hB
  have he : es.toList = [] := List.map_eq_nil_iff.1 h2
  have hc : (Instr.checkKey es.isEmpty 10000 kt (.string s)).run Tryz.prog w = .ok () w := MapKept.run_checkKey (k := .string s) hk (by simp [MapKept.IsKey]) _ 9999
  have hg : (getObj g).run Tryz.prog w = .ok (.map es clock) w := by simp [getObj, Sem.run, h1]
  have hf : (Instr.findKey kt (.string s) es.toList).run Tryz.prog w = .ok none w := by
    rw [he]
    simp [Instr.findKey, run_underlying hk, Instr.findNow]
  simp only [Instr.lookup, Sem.run_bind, run_underlying hu, Result.andThen_ok, hg, hc, Sem.run_pure, hf]
  simp [hz]
theorem nilK_inv {l : List (Nat × Nat)} {r res : Rs} (hr : res ≠ .no) (h : nilK l r = res) : l = [] ∧ r = res := by
  cases l with
  | nil => exact ⟨rfl, h⟩
  | cons _ _ => exact absurd h.symm hr
theorem onM_inv {x : AV} {f : Nat → Rs} {res : Rs} (hr : res ≠ .no) (h : onM x f = res) : ∃ id, x = .v (.mp id) ∧ f id = res := by
  cases x with
  | v x => cases x <;> first | exact ⟨_, rfl, h⟩ | exact absurd h.symm hr
  | _ => exact absurd h.symm hr
theorem asK_inv {α : Type} {x : Option α} {f : α → Rs} {res : Rs} (hr : res ≠ .no) (h : asK x f = res) : ∃ a, x = some a ∧ f a = res := by
  cases x with
  | none => exact absurd h.symm hr
  | some a => exact ⟨a, rfl, h⟩
theorem asc_ints (a : Nat) : ∀ l : List (Nat × Nat), asc (a : Int) (ints l) = (asL a l).map Int.ofNat
  | [] => rfl
  | (i, x) :: l => by
    rw [asL_cons]
    show (if ((i : Nat) : Int) = (a : Int) then some (x : Int) else asc (a : Int) (ints l)) = _
    rw [asc_ints a l]
    by_cases h : i = a
    · rw [if_pos h, if_pos (by omega)]; rfl
    · rw [if_neg h, if_neg (by omega)]
/-- A new map. -/
theorem MR.newmap {w0 : Fm} {ρ : Pl} {σ : Mem} {w w' : World} (h : MR w0 ρ σ w) (hE : Ext w w') (hB : MpB w' w.heap.size []) : MR w0 (ρ ++ [⟨w.heap.size, 0, 0⟩]) ⟨σ.n + 1, σ.h, (σ.n, []) :: σ.mp⟩ w' := by
  have hu := Up.snoc ρ ⟨w.heap.size, 0, 0⟩
  have hlast : (ρ ++ [(⟨w.heap.size, 0, 0⟩ : At)])[σ.n]? = some ⟨w.heap.size, 0, 0⟩ := by rw [← h.len]; simp
  have old : ∀ id o p, (cget σ id o).isSome = true → (ρ ++ [(⟨w.heap.size, 0, 0⟩ : At)])[id]? = some p → ρ[id]? = some p := fun id o p hs hp => by
    obtain ⟨x, hx⟩ := Option.isSome_iff_exists.1 hs
    obtain ⟨q, _, _, _, h1, _⟩ := h.at_ hx
    have := hu _ _ h1
    rw [hp] at this
    rw [h1, Option.some.inj this]
  have hm := h.mps.to (w0' := w0) hu (fun _ _ hb => hb.ext hE) fun _ _ _ hb => hb
  refine ⟨by simp [h.len], fun id ob h1 h2 => ?_, h.old.te hE, fun id o p hs hp => h.far id o p hs (old id o p hs hp), h.pre, fun id id' o o' p p' hne a1 a2 a3 a4 => h.apart id id' o o' p p' hne a1 a2 (old id o p a1 a3) (old id' o' p' a2 a4), fun id l h1 => ?_, fun id id' l l' p p' hne a1 a2 a3 a4 => ?_⟩
  · obtain ⟨p, cs, h3, h4, h5, h6⟩ := h.blk id ob h1 h2
    refine ⟨p, cs, hu _ _ h3, h4.ext hE, h5, fun o x hx => ?_⟩
    obtain ⟨v, h7, h8⟩ := h6 o x hx
    exact ⟨v, h7, h8.up hu⟩
  · rw [asL_cons] at h1
    split at h1
    · rename_i hid
      subst hid
      obtain rfl := Option.some.inj h1
      exact ⟨_, hlast, hB, .inl h.old.size⟩
    · exact hm.1 id l h1
  · have far : ∀ id l p, asL id σ.mp = some l → (ρ ++ [(⟨w.heap.size, 0, 0⟩ : At)])[id]? = some p → p.b < w.heap.size := fun id l p b1 b2 => by
      obtain ⟨q, c1, c2, _⟩ := h.mps.1 id l b1
      have := hu _ _ c1
      rw [b2] at this
      rw [Option.some.inj this]
      exact c2.lt
    rw [asL_cons] at a1 a2
    split at a1
    · rename_i hid
      subst hid
      rw [hlast] at a3
      obtain rfl := Option.some.inj a3
      rw [if_neg hne] at a2
      have := far _ _ _ a2 a4
      show w.heap.size ≠ p'.b
      omega
    · split at a2
      · rename_i hid
        subst hid
        rw [hlast] at a4
        obtain rfl := Option.some.inj a4
        have := far _ _ _ a1 a3
        show p.b ≠ w.heap.size
        omega
      · exact hm.2 id id' l l' p p' hne a1 a2 a3 a4
/-- A map anew. -/
theorem MR.updmap {w0 : Fm} {ρ : Pl} {σ : Mem} {w w' : World} {id : Nat} {l l' : List (Nat × Nat)} {p : At} (h : MR w0 ρ σ w) (hl : asL id σ.mp = some l) (hp : ρ[id]? = some p) (hF : Fr (· = p.b) w w') (hB : MpB w' p.b (ints l')) : MR w0 ρ ⟨σ.n, σ.h, (id, l') :: σ.mp⟩ w' := by
  obtain ⟨q, h1, h2, h3⟩ := h.mps.1 id l hl
  rw [hp] at h1
  obtain rfl := Option.some.inj h1
  refine ⟨h.len, fun i ob g1 g2 => ?_, h.old.trans hF fun j hj e => ?_, h.far, h.pre, h.apart, fun i k g1 => ?_, fun i i' k k' q q' hne a1 a2 a3 a4 => ?_⟩
  · obtain ⟨q, cs, g3, g4, g5⟩ := h.blk i ob g1 g2
    exact ⟨q, cs, g3, g4.fr hF fun e => g4.no_map (by rw [show q.b = p.b from e]; exact h2), g5⟩
  · have e : j = p.b := e
    subst e
    exact h3.resolve_left (by omega)
  · rw [asL_cons] at g1
    split at g1
    · rename_i hid
      subst hid
      obtain rfl := Option.some.inj g1
      exact ⟨p, hp, hB, h3⟩
    · rename_i hid
      obtain ⟨q, g2, g3, g4⟩ := h.mps.1 i k g1
      exact ⟨q, g2, g3.fr hF fun e => h.mps.2 id i l k p q hid hl g1 hp g2 (show q.b = p.b from e).symm, g4⟩
  · have get : ∀ i k, asL i ((id, l') :: σ.mp) = some k → ∃ k', asL i σ.mp = some k' := fun i k b => by
      rw [asL_cons] at b
      split at b
      · rename_i hid
        subst hid
        exact ⟨l, hl⟩
      · exact ⟨k, b⟩
    obtain ⟨b, hb⟩ := get i k a1
    obtain ⟨b', hb'⟩ := get i' k' a2
    exact h.mps.2 i i' b b' q q' hne hb hb' a3 a4
section
variable {m : Nat} {ih : Cl} {e : En} {σ : Mem} {c : Kt} {res : Rs} {ρ : Pl} {env : Env} {w0 : Fm} {w : World} {full : Array Oper} {d : Tmp} {ty : TypeId} {pos : String} {af : Array Edge} (hr : res ≠ .no)
include hr
theorem s_mkm (hM : MR w0 ρ σ w) {t : TypeId} (h : (mkM t).f ih e σ c = res) : xs Tryz.prog isI isS [] Eng.noH full (Good w0 ρ c res env (some d)) [⟨some d, .makeMap t none, ty, pos, af, none⟩] env w := by
  unfold mkM at h
  split at h
  · have h : fN (Nat.add σ.n 1) (fun n => c (.v (.mp σ.n)) ⟨n, σ.h, (σ.n, []) :: σ.mp⟩) = res := h
    rw [fN_eq] at h
    exact xmkm fun w' hB hE hs => ⟨_, _, _, _, h, Up.snoc ρ ⟨w.heap.size, 0, 0⟩, ⟨⟨w.heap.size, 0, 0⟩, by rw [← hM.len]; simp, rfl⟩, hM.newmap hE hB, rfl⟩
  · exact absurd h.symm hr
variable (hE : ER m ρ e env) (hM : MR w0 ρ σ w)
include hE hM
theorem s_lk {t : TypeId} {x y : Operand} (h : (lkW m t x y).f ih e σ c = res) : xs Tryz.prog isI isS [] Eng.noH full (Good w0 ρ c res env (some d)) [⟨some d, .lookup t x y true, ty, pos, af, none⟩] env w := by
  unfold lkW at h
  split at h
  · rename_i ht
    obtain ⟨kt, et, hu, hk, hz⟩ := mpT_spec ht
    obtain ⟨a, va, h1, h2, q0⟩ := gtW_inv hr hE h
    clear h
    obtain ⟨b, vb, h3, h4, q1⟩ := gtW_inv hr hE q0
    clear q0
    obtain ⟨id, e1, q2⟩ := onM_inv hr q1
    clear q1
    obtain ⟨k, n, e2, q3⟩ := onN_inv hr q2
    clear q2
    obtain ⟨e3, q4⟩ := kkK_inv hr q3
    clear q3
    obtain ⟨l, hl, h⟩ := asK_inv hr q4
    clear q4
    subst e1; subst e2; subst e3
    obtain ⟨p, hp, rfl⟩ := h2
    obtain ⟨rfl, _⟩ := h4
    obtain ⟨q, hq, hB, _⟩ := hM.mps.1 id l hl
    rw [hp] at hq
    obtain rfl := Option.some.inj hq
    refine xlk hu hk hz hB h1 h3 ?_
    have ha := asc_ints n l
    show Good w0 ρ c res env (some d) ((d, .tuple #[.int .i64 ((asc (n : Int) (ints l)).getD 0), .bool (asc (n : Int) (ints l)).isSome]) :: env) w
    rw [ha]
    unfold lkK at h
    split at h
    · rename_i v hv
      obtain ⟨hle, h⟩ := okK_inv h hr
      rw [hv]
      exact ⟨_, σ, ρ, _, h, Up.refl ρ, ⟨_, .cons (x := .v (.n .i64 v)) ⟨rfl, Nat.le_of_ble_eq_true hle⟩ (.cons (x := .v (.b true)) rfl .nil), rfl⟩, hM, rfl⟩
    · rename_i hv
      rw [hv]
      exact ⟨_, σ, ρ, _, h, Up.refl ρ, ⟨_, .cons (x := .v (.n .i64 0)) ⟨rfl, Nat.zero_le _⟩ (.cons (x := .v (.b false)) rfl .nil), rfl⟩, hM, rfl⟩
  · exact absurd h.symm hr
theorem s_le {t : TypeId} {x y : Operand} (h : (leW m t x y).f ih e σ c = res) : xs Tryz.prog isI isS [] Eng.noH full (Good w0 ρ c res env (some d)) [⟨some d, .lookup t x y false, ty, pos, af, none⟩] env w := by
  unfold leW at h
  split at h
  · rename_i ht
    obtain ⟨kt, et, hu, hk, hz⟩ := mpS_spec ht
    obtain ⟨a, va, h1, h2, q0⟩ := gtW_inv hr hE h
    clear h
    obtain ⟨b, vb, h3, h4, q1⟩ := gtW_inv hr hE q0
    clear q0
    obtain ⟨id, e1, q2⟩ := onM_inv hr q1
    clear q1
    obtain ⟨s, e2, q3⟩ := onS_inv hr q2
    clear q2
    obtain ⟨l, hl, h⟩ := asK_inv hr q3
    clear q3
    obtain ⟨e3, h⟩ := nilK_inv hr h
    subst e1; subst e2; subst e3
    obtain ⟨p, hp, rfl⟩ := h2
    obtain ⟨rfl, _⟩ := h4
    obtain ⟨q, hq, hB, _⟩ := hM.mps.1 id [] hl
    rw [hp] at hq
    obtain rfl := Option.some.inj hq
    have hB : MpB w p.b [] := hB
    refine xw (v := .int .i64 0) (w' := w) (by simp [opsOK, Op.operands, h1, h3]) rfl ?_ ⟨_, σ, ρ, _, h, Up.refl ρ, ⟨rfl, Nat.zero_le _⟩, hM, rfl⟩ True.intro
    simp [execOp, ev_of h1, ev_of h3, run_lke hB t kt et hu hk (hz w)]
  · exact absurd h.symm hr
theorem s_mu {t : TypeId} {x y z : Operand} (h : (muW m t x y z).f ih e σ c = res) : xs Tryz.prog isI isS [] Eng.noH full (Good w0 ρ c res env none) [⟨none, .mapUpdate t x y z, ty, pos, af, none⟩] env w := by
  unfold muW at h
  split at h
  · rename_i ht
    obtain ⟨kt, et, hu, hk, hz⟩ := mpT_spec ht
    obtain ⟨a, va, h1, h2, q0⟩ := gtW_inv hr hE h
    clear h
    obtain ⟨b, vb, h3, h4, q1⟩ := gtW_inv hr hE q0
    clear q0
    obtain ⟨g, vg, h5, h6, q2⟩ := gtW_inv hr hE q1
    clear q1
    obtain ⟨id, e1, q3⟩ := onM_inv hr q2
    clear q2
    obtain ⟨k, n, e2, q4⟩ := onN_inv hr q3
    clear q3
    obtain ⟨e3, q5⟩ := kkK_inv hr q4
    clear q4
    obtain ⟨k', n', e4, q6⟩ := onN_inv hr q5
    clear q5
    obtain ⟨e5, q7⟩ := kkK_inv hr q6
    clear q6
    obtain ⟨l, hl, h⟩ := asK_inv hr q7
    clear q7
    subst e1; subst e2; subst e3; subst e4; subst e5
    obtain ⟨p, hp, rfl⟩ := h2
    obtain ⟨rfl, _⟩ := h4
    obtain ⟨rfl, _⟩ := h6
    obtain ⟨q, hq, hB, _⟩ := hM.mps.1 id l hl
    rw [hp] at hq
    obtain rfl := Option.some.inj hq
    unfold muK at h
    split at h
    · exact absurd h.symm hr
    · rename_i hn
      rw [fP_eq] at h
      refine xmup hu hk hB (by rw [show asc (Int.ofNat n) (ints l) = _ from asc_ints n l, hn]; rfl) h1 h3 h5 fun w' hB' hF => ?_
      refine ⟨_, _, ρ, undef, h, Up.refl ρ, rfl, hM.updmap hl hp hF ?_, rfl⟩
      unfold ints at hB' ⊢
      rw [List.map_append]
      exact hB'
  · exact absurd h.symm hr
end
end Rn
end Eng
end Go.Proofs.YtalnkjpgnkfedaaGreatDoor
