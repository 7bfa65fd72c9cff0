/-
  The reference's Decimal and Join. The reference's Write and Cut of files, with clip and joined.
-/
import Derived.Test.YtiebbecknfpdeaaDoorQB0b
import Derived.Test.YtiebbecknfpdeaaDoorQB3
import Derived.Test.YtiebbecknfpdeaaDoorQB4
import Derived.Test.YtiebbecknfpdeaaDoorQWd
import Derived.Test.YtiebbecknfpdeaaDoorQWe
import Derived.Test.YtiebbecknfpdeaaDoorQWk
namespace Go.Proofs.YtiebbecknfpdeaaDoor
open Go.RowKit
namespace Eng
attribute [local irreducible] xs T
def digs : Str := [48, 49, 50, 51, 52, 53, 54, 55, 56, 57]
theorem digs_cut : ∀ l : Nat, l < 10 → (digs.drop l).take (l + 1 - l) = [dg l] := by decide
section
variable {hs : List Nat} {H : World → Prop} {full : Array Oper} {K : Env → World → Prop} {rest : List Oper} {env : Env} {w : World} {d : Tmp} {ty : TypeId} {pos : String} {af : Array Edge}
/-- A digit, cut out of the ten. -/
theorem xdg {t : TypeId} {x lo hi : Operand} {k k' : IntKind} {jl jh : Int} (l : Nat) (ht : isS t = true) (hx : evo env x = some (.string (su digs))) (hlo : evo env lo = some (.int k jl)) (hhi : evo env hi = some (.int k' jh)) (el : jl = l) (eh : jh = (l : Int) + 1) (hl : l < 10)
    (hc : xs Tryd.prog isI isS hs H full K rest ((d, .string (su [dg l])) :: env) w) :
    xs Tryd.prog isI isS hs H full K (⟨some d, .slice t x (some lo) (some hi) none, ty, pos, af, none⟩ :: rest) env w := by
  refine xusl2 l (l + 1) ht hx hlo hhi el (by omega) (by omega) (by show l + 1 ≤ 10; omega) ?_
  rw [digs_cut l hl]
  exact hc
end
set_option maxRecDepth 20000 in
set_option maxHeartbeats 4000000 in
theorem rdec_does (w : World) (n : Nat) (hn : n ≤ 9223372036854775807) : Does Tryd.prog 4 #[.int .i64 (n : Int)] w fun r w' => r = .string (su (decU n)) ∧ w = w' := by
  have hn0 : n < 10 ^ 21 := Nat.lt_of_le_of_lt hn (by decide)
  refine does1 Tryd.func4 rfl (by kernel_rfl) ?_
  refine goL ?_
  refine tloop (α := Nat × Nat × Str) (fun x => [(0, .int .i64 (x.2.1 : Int)), (3, .string (su x.2.2))]) (fun x w' => w = w' ∧ decF x.1 x.2.1 x.2.2 = decU n ∧ x.2.1 < 10 ^ (x.1 + 1) ∧ x.2.1 ≤ n ∧ x.2.2.length + x.1 ≤ 20) (fun x => x.2.1) (20, n, []) (sub ⟨rfl, rfl⟩) ⟨rfl, rfl, hn0, Nat.le_refl _, Nat.le_refl _⟩ ?_
  rintro ⟨k, m, s⟩ w1 ⟨rfl, hgo, hm, hmn, hs⟩
  dsimp only at hgo hm hmn hs ⊢
  by_cases h9 : 9 < m
  · cases k with
    | zero => omega
    | succ k =>
      rw [decF, if_pos h9] at hgo
      have h10 : m % 10 < 10 := Nat.mod_lt _ (by decide)
      repeat' (first | refine xrem rfl rfl (by omega) (by omega) (by omega) ?_ | refine xquo rfl rfl (by omega) (by omega) (by omega) ?_ | refine xdg (m % 10) rfl rfl rfl rfl (by omega) (by omega) h10 ?_ | refine xuadd (a := [dg (m % 10)]) (b := s) rfl rfl (by simp only [List.length_cons, List.length_nil]; omega) ?_ | refine go1L ?_ | fail)
      exact tfin ⟨(k, m / 10, dg (m % 10) :: s), sub ⟨ieq (by dsimp only; omega), rfl⟩, ⟨rfl, hgo, (by dsimp only; rw [Nat.pow_succ] at hm; omega), (by dsimp only; omega), (by dsimp only [List.length_cons]; omega)⟩, (by show m / 10 < m; omega)⟩
  · have hr : decU n = dg m :: s := by
      rw [← hgo]
      cases k with
      | zero => rfl
      | succ k => rw [decF, if_neg h9]
    rw [hr]
    repeat' (first | refine xdg m rfl rfl rfl rfl rfl rfl (by omega) ?_ | refine xuadd (a := [dg m]) (b := s) rfl rfl (by simp only [List.length_cons, List.length_nil]; omega) ?_ | refine go1L ?_ | fail)
    exact tret1 rfl rfl ⟨rfl, rfl⟩
/-- What Join answers. -/
def joinR (a b : Str) : Str × Int := if mayP a && nameU b then (if mayP (joinB a b) then (joinB a b, 0) else ([], 2)) else ([], 1)
theorem joinR_some {a b s : Str} (h : joinP a b = some s) : joinR a b = (s, 0) := by
  unfold joinP at h
  unfold joinR
  split at h
  · rename_i h1
    rw [if_pos h1]
    split at h
    · rename_i h2
      rw [if_pos h2, Option.some.inj h]
    · cases h
  · cases h
end Eng
end Go.Proofs.YtiebbecknfpdeaaDoor
namespace Go.Proofs.YtiebbecknfpdeaaDoor
open Go.RowKit
namespace Eng
section
variable {hs : List Nat} {H : World → Prop} {full : Array Oper} {K : Env → World → Prop} {rest : List Oper} {env : Env} {w : World} {d : Tmp} {ty : TypeId} {pos : String} {af : Array Edge}
end
theorem Ow.typ {α : Type} {cf : α → List Value} {z B : Nat} {w : World} {e : TypeId} {v : Value} {l : List α} (h : Ow cf z w B e v l) {b : Nat} (hb : v.ownBlock = some b) : ∃ cur, Blk w b e cur := by
  obtain ⟨_, h2⟩ := h
  rcases h2 with ⟨rfl, _⟩ | ⟨g, cap, cur, rfl, _, hh, _⟩
  · cases hb
  · have : g = b := by simpa [Value.ownBlock] using hb
    subst this
    exact ⟨cur, hh⟩
theorem Ow.apart {α β : Type} {cf : α → List Value} {cf' : β → List Value} {z z' B B' : Nat} {w : World} {e e' : TypeId} {v v' : Value} {l : List α} {l' : List β} (h : Ow cf z w B e v l) (h' : Ow cf' z' w B' e' v' l') (hne : e ≠ e') {b : Nat} (hb : v.ownBlock = some b) : ¬ v'.ownBlock = some b := fun hb' => by
  obtain ⟨c, h1⟩ := h.typ hb
  obtain ⟨c', h2⟩ := h'.typ hb'
  exact h1.ne_ h2 hne rfl
attribute [local irreducible] xs T
end Eng
end Go.Proofs.YtiebbecknfpdeaaDoor
