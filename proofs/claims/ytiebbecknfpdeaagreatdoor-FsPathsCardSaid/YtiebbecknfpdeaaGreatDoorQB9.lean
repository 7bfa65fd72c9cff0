/-
  Parts of the proof, joined: Wu, Zb, Zc.
-/
import Derived.Test.YtiebbecknfpdeaaGreatDoorQB0b
import Derived.Test.YtiebbecknfpdeaaGreatDoorQWo
namespace Go.Proofs.YtiebbecknfpdeaaGreatDoor
open Go.RowKit
namespace Eng
/-- The first place where p holds, or -1. -/
def idxF (p : En → Bool) : List En → Nat → Int
  | [], _ => -1
  | x :: r, k => if p x then (k : Int) else idxF p r (k + 1)
set_option maxRecDepth 20000 in
set_option maxHeartbeats 2000000 in
theorem indexFunc_does (w : World) (v : Value) (l : List En) (f : FuncId) (cap : Array Value) (p : En → Bool) (hv : Rw enC w v l) (hf : bit m_cal f = true) (hp : ∀ w', Ext w w' → ∀ x ∈ l, Does Tryz.prog f (#[.agg (enC x).toArray] ++ cap) w' fun r w'' => r = .bool (p x) ∧ Ext w' w'') : Does Tryz.prog 123 #[v, .func (.func f) #[] cap] w fun r w' => r = .int .i64 (idxF p l 0) ∧ Ext w w' := by
  refine does2 Tryz.func123 rfl (by kernel_rfl) ?_
  obtain ⟨A, c, rfl, hc1, hc2, hA⟩ := hv.op enC_len
  refine goL ?_
  refine tloop (α := Nat) (fun i => [(0, .slice A l.length c), (1, .func (.func f) #[] cap), (7, .int .i64 (l.length : Int)), (8, .int .i64 (i : Int))]) (fun i w' => Ext w w' ∧ i ≤ l.length ∧ idxF p (l.drop i) i = idxF p l 0) (fun i => l.length - i) 0 (sub ⟨rfl, rfl, rfl, rfl⟩) ⟨Fr.refl _ _, Nat.zero_le _, rfl⟩ ?_
  rintro i w1 ⟨hE, hi, hgo⟩
  by_cases hlt : i < l.length
  · obtain ⟨b, o, x, rfl, _, hx, hdr, hcell⟩ := hA.at_ hlt
    rw [hdr, idxF] at hgo
    repeat' (first | refine xizq i (o + i * 2) rfl rfl rfl rfl rfl hlt ?_ | refine go1L ?_ | fail)
    refine xldz (cs := enC x) rfl (by kernel_rfl) (fun j u hu => hE.cell (hcell j u hu)) ?_
    refine xcallv (vs := [.agg (enC x).toArray]) rfl rfl hf (hp w1 hE x (List.mem_of_getElem? hx)) (fun r w2 h2 => ?_)
    obtain ⟨rfl, hE2⟩ := h2
    cases h : p x with
    | true =>
      rw [h, if_pos rfl] at hgo
      refine goL ?_
      exact tret1 rfl rfl ⟨by rw [← hgo], hE.t hE2⟩
    | false =>
      rw [h, if_neg (by decide)] at hgo
      refine goL ?_
      exact tfin ⟨i + 1, sub ⟨rfl, rfl, rfl, rfl⟩, ⟨hE.t hE2, by omega, hgo⟩, (by show l.length - (i + 1) < l.length - i; omega)⟩
  · obtain rfl : i = l.length := by omega
    rw [List.drop_length, idxF] at hgo
    refine goL ?_
    exact tret1 rfl rfl ⟨by rw [← hgo], hE⟩
end Eng
end Go.Proofs.YtiebbecknfpdeaaGreatDoor
namespace Go.Proofs.YtiebbecknfpdeaaGreatDoor
open Go.RowKit
namespace Eng
end Eng
end Go.Proofs.YtiebbecknfpdeaaGreatDoor
namespace Go.Proofs.YtiebbecknfpdeaaGreatDoor
open Go.RowKit
namespace Eng
section
variable {hs : List Nat} {H : World → Prop} {full : Array Oper} {K : Env → World → Prop} {rest : List Oper} {env : Env} {w : World} {d : Tmp} {ty : TypeId} {pos : String} {af : Array Edge}
theorem Row.cut {A : Option Addr} {n c z l h : Nat} {vs : List Value} (hr : Row w (.slice A n c) n vs) (h1 : l ≤ h) (h2 : h ≤ n) :
    Row w (.slice (if c = l then A else A.map (·.add (l * z))) (h - l) (c - l)) (h - l) ((vs.drop (l * z)).take ((h - l) * z)) := by
  obtain ⟨A', c', e, h3, h4, h5⟩ := hr
  injection e with e1 e2 e3
  subst e1; subst e3
  refine ⟨_, _, rfl, by omega, by omega, fun hp => ?_⟩
  obtain ⟨b, o, rfl, hb, hc⟩ := h5 (by omega)
  refine ⟨b, o + l * z, by rw [if_neg (by omega)]; simp [Addr.add_lit], hb, fun j u hu => ?_⟩
  have hj : j < (h - l) * z := by
    have := (List.getElem?_eq_some_iff.1 hu).1
    rw [List.length_take] at this
    omega
  rw [List.getElem?_take_of_lt hj, List.getElem?_drop] at hu
  rw [Nat.add_assoc]
  exact hc _ u hu
end
attribute [local irreducible] xs T
end Eng
end Go.Proofs.YtiebbecknfpdeaaGreatDoor
namespace Go.Proofs.YtiebbecknfpdeaaGreatDoor
open Go.RowKit
namespace Eng
section
variable {hs : List Nat} {H : World → Prop} {full : Array Oper} {K : Env → World → Prop} {rest : List Oper} {env : Env} {w : World} {d : Tmp} {ty : TypeId} {pos : String} {af : Array Edge}
/-- x[:hi], the place kept. -/
theorem xsl0o {t : TypeId} {x hi : Operand} {k' : IntKind} {b o n c z : Nat} {jh : Int} (h : Nat) (hz : es t = some z) (hx : evo env x = some (.slice (some ⟨b, o, none⟩) n c)) (hhi : evo env hi = some (.int k' jh)) (eh : jh = h) (h2 : h ≤ n) (hcc : n ≤ c)
    (hc : xs Tryz.prog isI isS hs H full K rest ((d, .slice (some ⟨b, o, none⟩) h c) :: env) w) :
    xs Tryz.prog isI isS hs H full K (⟨some d, .slice t x none (some hi) none, ty, pos, af, none⟩ :: rest) env w := by
  obtain ⟨e, i, hu, hi', hsz⟩ := es_spec hz
  subst eh
  refine x_gen rfl (by simp [opsOK, Op.operands, hx, hhi]) ⟨_, fun w' => ?_, hc⟩
  have := run_sl (A := some ⟨b, o, none⟩) (n := n) (c := c) (lo := none) (hi := some (.int k' h)) (l := 0) (h := h) hu hi' (.inl ⟨rfl, rfl⟩) (.inr ⟨k', rfl⟩) (by omega) (by omega) w'
  simp [execOp, ev_of hx, ev_of hhi, this, Addr.add_lit]
end
/-- The first elements of an own row. -/
theorem Ow.pre {α : Type} {cf : α → List Value} {z B : Nat} {w : World} {e : TypeId} {b o n c k : Nat} {l : List α} (hz : ∀ x, (cf x).length = z) (h : Ow cf z w B e (.slice (some ⟨b, o, none⟩) n c) l) (hk : k ≤ l.length) : Ow cf z w B e (.slice (some ⟨b, o, none⟩) k c) (l.take k) := by
  obtain ⟨h1, h2⟩ := h
  rcases h2 with ⟨h2, _⟩ | ⟨g, cap, cur, h3, h4, h5, h6, h7, h8, h9⟩
  · cases h2
  injection h3 with e1 e2 e3
  injection e1 with e1
  injection e1 with e4 e5
  subst e4; subst e5; subst e3
  have hl : (l.take k).length = k := by rw [List.length_take]; omega
  refine ⟨flat_len hz _, .inr ⟨_, _, cur, by rw [hl], h4, h5, by rw [hl]; omega, h7, h8, ?_⟩⟩
  rw [hl]
  have e6 : (l.take k).flatMap cf = (l.flatMap cf).take (k * z) := by
    have hsp : l.flatMap cf = (l.take k).flatMap cf ++ (l.drop k).flatMap cf := by rw [← List.flatMap_append, List.take_append_drop]
    conv => rhs; rw [hsp]
    rw [List.take_append_of_le_length (by rw [flat_len hz, hl]; exact Nat.le_refl _)]
    exact (List.take_of_length_le (by rw [flat_len hz, hl]; exact Nat.le_refl _)).symm
  rw [e6, ← h9, List.take_take]
  congr 1
  have : k * z ≤ l.length * z := Nat.mul_le_mul_right z hk
  omega
attribute [local irreducible] xs T
end Eng
end Go.Proofs.YtiebbecknfpdeaaGreatDoor
