/-
  append, copy, conversions, calls: the operations.
-/
import Derived.Test.YtalnkjpgnkfedaaGreatDoorEyd
namespace Go.Proofs.YtalnkjpgnkfedaaGreatDoor
open Go.RowKit
open Go.Lib (strCells strCells_length run_firstCells_string)
namespace Eng
namespace Rn
theorem zA_cells {t : TypeId} {l : List SV} {i : TypeInfo} (hi : Tryz.prog.info? t = some i) (h : zA t = some l) : ∃ v, i.zero = some v ∧ v.cells.size = l.length := by
  obtain ⟨i', v, h1, h2, h3⟩ := zA_inv (ρ := []) h
  rw [hi] at h1; obtain rfl := Option.some.inj h1
  exact ⟨v, h2, by simpa using h3.len⟩
theorem few_spec {t : TypeId} {i : TypeInfo} (hi : Tryz.prog.info? t = some i) (h : few t = true) : i.bytes ≤ 1000000 := by
  unfold few at h
  rw [hi] at h
  exact Nat.le_of_ble_eq_true h
theorem firsts {w : World} {t u : TypeId} {z q : Nat} {vy : Value} {news : List Value} (hS : Src w t z u vy q news) (r : Nat) (hrq : r ≤ q) : (Builtin.firstCells z r vy).run Tryz.prog w = .ok (news.take (r * z)).toArray w := by
  cases hS with
  | @sl A _ c _ hl hcell hn =>
    cases A with
    | none =>
      have h0 : r = 0 := by have := hn rfl; omega
      subst h0
      simp [Builtin.firstCells]
    | some a =>
      refine run_firstCells_some (P := Tryz.prog) w z r a q c (news.take (r * z)) ?_ (fun j v hj => ?_)
      · rw [List.length_take, hl]
        exact Nat.min_eq_left (Nat.mul_le_mul_right z hrq)
      · rw [List.getElem?_take] at hj
        split at hj
        · exact hcell a rfl j v hj
        · cases hj
  | @st _ b hus hz1 =>
    subst hz1
    obtain ⟨l, rfl⟩ := su_of b
    have e := su_cut l 0 r
    simp only [List.drop_zero, Nat.sub_zero] at e
    simp only [Builtin.firstCells, e]
    simp [strCells, su, List.map_take]
section
variable {m : Nat} {ih : Cl} {e : En} {σ : Mem} {c : Kt} {res : Rs} {ρ : Pl} {env : Env} {w0 : Fm} {w : World} {full : Array Oper} {d : Tmp} {dst : Option Tmp} {ty : TypeId} {pos : String} {af : Array Edge} (hr : res ≠ .no) (hE : ER m ρ e env) (hM : MR w0 ρ σ w)
include hr hE hM
theorem s_ap {t u : TypeId} {x y : Operand} (h : (apW m t u x y).f ih e σ c = res) : xs Tryz.prog isI isS [] Eng.noH full (Good w0 ρ c res env dst) [⟨dst, .call { callee := .builtin .append, args := ⟨[x, y]⟩, argTypes := ⟨[t, u]⟩ }, ty, pos, af, none⟩] env w := by
  unfold apW at h
  split at h
  · rename_i el z hel
    obtain ⟨hu, hsz⟩ := elemOf_inv hel
    obtain ⟨⟨i, hi, hz⟩, _⟩ := size_spec hsz
    split at h
    · rename_i zs hfew hzs
      split at h
      · rename_i r k1 k2 hsc
        rw [cN_eq] at h
        have k1 := Nat.eq_of_beq_eq_true k1
        have k2 := Nat.le_of_ble_eq_true k2
        obtain ⟨a, b, va, vb, h1, h2, h3, h4, g1⟩ := two hr hE h
        obtain ⟨q, new, news, g2, hn, hS⟩ := scW_inv hr hM hsc h4 g1
        obtain ⟨zv, hzv, hzc⟩ := zA_cells hi hzs
        obtain ⟨v', w', x', σ', ρ', hrun, a1, a2, a3, a4⟩ := apK_inv (ty := ty) (c := c) hr hM hu hi hz hS hn hzv (by rw [hzc, k1]) (by omega) (few_spec hi hfew) h3 g2
        refine xw (by simp [opsOK, Op.operands, Call.operands, h1, h2]) rfl (v := v') (w' := w') ?_ ⟨x', σ', ρ', _, a1, a2, a3, a4, rfl⟩ trivial
        simp [execOp, resolve, invoke, builtin, ev_of h1, ev_of h2, hrun]
      · exact absurd h.symm hr
    · exact absurd h.symm hr
  · exact absurd h.symm hr
theorem s_cp {t u : TypeId} {x y : Operand} (h : (cpW m t u x y).f ih e σ c = res) : xs Tryz.prog isI isS [] Eng.noH full (Good w0 ρ c res env dst) [⟨dst, .call { callee := .builtin .copy, args := ⟨[x, y]⟩, argTypes := ⟨[t, u]⟩ }, ty, pos, af, none⟩] env w := by
  unfold cpW at h
  split at h
  · rename_i el z hel
    obtain ⟨hu, hsz⟩ := elemOf_inv hel
    obtain ⟨⟨i, hi, hz⟩, _⟩ := size_spec hsz
    split at h
    · rename_i r hz1 hsc
      rw [cN_eq] at h
      have hz1 := Nat.le_of_ble_eq_true hz1
      obtain ⟨a, b, va, vb, h1, h2, h3, h4, g1⟩ := two hr hE h
      obtain ⟨q, new, news, g2, hn, hS⟩ := scW_inv hr hM hsc h4 g1
      have hlen : ∀ w', (Builtin.lenOf vb).run Tryz.prog w' = .ok q w' := fun w' => by cases hS <;> simp [Builtin.lenOf]
      have go : ∀ (A : Option Addr) (n k r : Nat) (y' : SV) (σ' : Mem) (w' : World), va = .slice A n k → Nat.min q n = r → (match A with | some a => (storeCells a (news.take (r * z))).run Tryz.prog w = .ok () w' | none => w' = w) → c (.v y') σ' = res → SR ρ y' (.int .i64 (r : Int)) → MR w0 ρ σ' w' → xs Tryz.prog isI isS [] Eng.noH full (Good w0 ρ c res env dst) [⟨dst, .call { callee := .builtin .copy, args := ⟨[x, y]⟩, argTypes := ⟨[t, u]⟩ }, ty, pos, af, none⟩] env w := fun A n k r y' σ' w' hv hmin hst hc hy hM' => by
        subst hv
        have hfc := firsts hS r (by rw [← hmin]; exact Nat.min_le_left _ _)
        have hrun : (Builtin.copy_ #[t, u] ty #[.slice A n k, vb]).run Tryz.prog w = .ok (.int .i64 (r : Int)) w' := by
          cases A with
          | none =>
            have hst : w' = w := hst
            subst hst
            simp [Builtin.copy_, run_underlying hu, sizeOf, typeInfo, hi, hz, hlen, hmin, hfc, goInt]
          | some a =>
            have hst : (storeCells a (news.take (r * z))).run Tryz.prog w = .ok () w' := hst
            simp [Builtin.copy_, run_underlying hu, sizeOf, typeInfo, hi, hz, hlen, hmin, hfc, hst, goInt]
        refine xw (by simp [opsOK, Op.operands, Call.operands, h1, h2]) rfl (v := .int .i64 (r : Int)) (w' := w') ?_ ⟨_, σ', ρ, _, hc, Up.refl ρ, hy, hM', rfl⟩ trivial
        simp [execOp, resolve, invoke, builtin, ev_of h1, ev_of h2, hrun]
      have gt : ∀ (id z' j n k : Nat) (p : At), va = .slice (some ⟨p.b, j * z', none⟩) n k → ρ[id]? = some p → cpT σ c z id z' j n q new = res → xs Tryz.prog isI isS [] Eng.noH full (Good w0 ρ c res env dst) [⟨dst, .call { callee := .builtin .copy, args := ⟨[x, y]⟩, argTypes := ⟨[t, u]⟩ }, ty, pos, af, none⟩] env w := fun id z' j n k p hv hp h => by
        obtain ⟨hzz, g3⟩ := okK_inv h hr
        have hzz := Nat.eq_of_beq_eq_true hzz
        rw [fN_eq] at g3
        rcases Nat.eq_zero_or_pos (Nat.min q n) with h0 | h0
        · rw [h0] at g3
          refine go _ n k 0 (.n .i64 0) σ w hv h0 ?_ g3 ⟨rfl, Nat.zero_le _⟩ hM
          rw [Nat.zero_mul]
          rfl
        · obtain ⟨r, hr1⟩ : ∃ r, Nat.min q n = r + 1 := ⟨Nat.min q n - 1, by omega⟩
          have hrq : r + 1 ≤ q := by rw [← hr1]; exact Nat.min_le_left _ _
          rw [hr1] at g3
          have g4 : (fP (new.take (Nat.mul (r + 1) z)) fun l => fN (Nat.mul j z) fun o => wrK σ id o l fun σ => lnK σ c (r + 1)) = res := g3
          rw [fP_eq, fN_eq] at g4
          have hSl := hS.len
          have hnl := hn.len
          have hle : (r + 1) * z ≤ q * z := Nat.mul_le_mul_right z hrq
          have hz0 : 0 < (r + 1) * z := Nat.mul_pos (by omega) (by omega)
          · obtain ⟨σ', g5, g6, g7, g8, _⟩ := wr_step hr hM g4 hp (hn.take ((r + 1) * z)) (by rw [List.length_take]; exact Nat.lt_min.2 ⟨hz0, by omega⟩)
            obtain ⟨hb, g9⟩ := okK_inv g5 hr
            refine go _ n k (r + 1) _ σ' _ hv hr1 ?_ g9 ⟨rfl, Nat.le_of_ble_eq_true hb⟩ g8
            have hst := run_storeCells_cells (P := Tryz.prog) p.b (j * z') (news.take ((r + 1) * z)) 0 w (by rw [hzz]; simpa using g6) (by rw [hzz]; simpa using g7) ((hn.take _).cells)
            rw [Nat.add_zero, hzz] at hst
            rw [hzz]
            exact hst
      rcases onL_inv hr g2 with ⟨e0, g3⟩ | ⟨id, z', j, n, e0, g3⟩ | ⟨id, z', j, n, k', e0, g3⟩ | ⟨_, _, _, _, e0, g3⟩ | ⟨l, e0, g3⟩ | ⟨id, o, e0, g3⟩ <;> subst e0
      · exact go none 0 0 0 _ σ w h3 (Nat.min_eq_right (Nat.zero_le _)) rfl g3 ⟨rfl, Nat.zero_le _⟩ hM
      · obtain ⟨p, hp, _, _, _, rfl⟩ := h3
        exact gt id z' j n _ p rfl hp g3
      · obtain ⟨p, hp, _, _, rfl⟩ := h3
        exact gt id z' j n _ p rfl hp g3
      · obtain ⟨A, k, rfl, _⟩ := SR.le_inv h3
        refine go A 0 k 0 _ σ w rfl (Nat.min_eq_right (Nat.zero_le _)) ?_ g3 ⟨rfl, Nat.zero_le _⟩ hM
        cases A with
        | none => rfl
        | some a =>
          rw [Nat.zero_mul]
          rfl
      · exact absurd g3.symm hr
      · exact absurd g3.symm hr
    · exact absurd h.symm hr
  · exact absurd h.symm hr
theorem s_cl {t : TypeId} {x : Operand} (h : (clW m t x).f ih e σ c = res) : xs Tryz.prog isI isS [] Eng.noH full (Good w0 ρ c res env dst) [⟨dst, .call { callee := .builtin .clear, args := ⟨[x]⟩, argTypes := ⟨[t]⟩ }, ty, pos, af, none⟩] env w := by
  unfold clW at h
  split at h
  · rename_i el z hel
    obtain ⟨hu, hsz⟩ := elemOf_inv hel
    split at h
    · rename_i zs hzs
      split at h
      · rename_i k1 k2
        rw [cN_eq, cVs_eq] at h
        have k1 := Nat.eq_of_beq_eq_true k1
        have k2 := Nat.le_of_ble_eq_true k2
        obtain ⟨i, v, hi, hz, hl⟩ := zA_inv (ρ := ρ) hzs
        obtain ⟨a, va, h1, h2, g1⟩ := gtW_inv hr hE h
        have none : ∀ (A : Option Addr) (k : Nat), va = .slice A 0 k → c (.t []) σ = res → xs Tryz.prog isI isS [] Eng.noH full (Good w0 ρ c res env dst) [⟨dst, .call { callee := .builtin .clear, args := ⟨[x]⟩, argTypes := ⟨[t]⟩ }, ty, pos, af, none⟩] env w := fun A k hv hc => by
          subst hv
          have hrun : (Builtin.clear_ #[t] ty #[.slice A 0 k]).run Tryz.prog w = .ok (.tuple #[]) w := by
            cases A <;> simp [Builtin.clear_, run_underlying hu]
          refine xw (v := .tuple #[]) (w' := w) (by simp [opsOK, Op.operands, Call.operands, h1]) rfl ?_ ⟨_, σ, ρ, _, hc, Up.refl ρ, ⟨[], .nil, rfl⟩, hM, rfl⟩ trivial
          simp [execOp, resolve, invoke, builtin, ev_of h1, hrun]
        have gt : ∀ (id z' j n k : Nat) (p : At), va = .slice (some ⟨p.b, j * z', Option.none⟩) n k → ρ[id]? = some p → clT σ c z zs id z' j n = res → xs Tryz.prog isI isS [] Eng.noH full (Good w0 ρ c res env dst) [⟨dst, .call { callee := .builtin .clear, args := ⟨[x]⟩, argTypes := ⟨[t]⟩ }, ty, pos, af, Option.none⟩] env w := fun id z' j n k p hv hp h => by
          obtain ⟨hzz, g3⟩ := okK_inv h hr
          have hzz := Nat.eq_of_beq_eq_true hzz
          cases n with
          | zero => exact none _ k hv g3
          | succ n =>
            have g4 : (fP (rep zs (n + 1)) fun l => fN (Nat.mul j z) fun o => wrK σ id o l fun σ => c (.t []) σ) = res := g3
            rw [fP_eq, fN_eq] at g4
            have hrep := rep_rel hl (n + 1)
            rw [k1] at hrep
            have hlen : (rep zs (n + 1)).length = (n + 1) * z := by rw [rep_len, k1]
            have hpos : 0 < (n + 1) * z := Nat.mul_pos (by omega) (by omega)
            obtain ⟨σ', g5, g6, g7, g8, _⟩ := wr_step hr hM g4 hp hrep (by omega)
            subst hv
            have hst := run_storeCells_cells (P := Tryz.prog) p.b (j * z') (madeCells v.cells ((n + 1) * z)).toList 0 w (by rw [hzz]; simpa using g6) (by rw [hzz]; simpa using g7) hrep.cells
            rw [Nat.add_zero] at hst
            have hvs : v.cells.size = z := by rw [← k1, ← Array.length_toList, hl.len]
            have hzc : Builtin.zeroCells v.cells (n + 1) = madeCells v.cells ((n + 1) * z) := by
              unfold Builtin.zeroCells madeCells
              rw [hvs]
            have hrun : (Builtin.clear_ #[t] ty #[.slice (some ⟨p.b, j * z', Option.none⟩) (n + 1) k]).run Tryz.prog w = .ok (.tuple #[]) (w.setCells p.b (j * z') (madeCells v.cells ((n + 1) * z)).toList) := by
              simp [Builtin.clear_, run_underlying hu, zeroValue, typeInfo, hi, hz, hzc, hst]
            rw [hzz] at hrun
            refine xw (v := .tuple #[]) (by simp [opsOK, Op.operands, Call.operands, h1]) rfl (w' := w.setCells p.b (j * z) (madeCells v.cells ((n + 1) * z)).toList) ?_ ⟨_, σ', ρ, _, g5, Up.refl ρ, ⟨[], .nil, rfl⟩, g8, rfl⟩ trivial
            rw [hzz] at h1
            simp [execOp, resolve, invoke, builtin, ev_of h1, hrun]
        rcases onL_inv hr g1 with ⟨e0, g3⟩ | ⟨id, z', j, n, e0, g3⟩ | ⟨id, z', j, n, k', e0, g3⟩ | ⟨_, _, _, _, e0, g3⟩ | ⟨l, e0, g3⟩ | ⟨id, o, e0, g3⟩ <;> subst e0
        · exact none Option.none 0 h2 g3
        · obtain ⟨p, hp, _, _, _, rfl⟩ := h2
          exact gt id z' j n _ p rfl hp g3
        · obtain ⟨p, hp, _, _, rfl⟩ := h2
          exact gt id z' j n _ p rfl hp g3
        · obtain ⟨A, k, rfl, _⟩ := SR.le_inv h2
          exact none A k rfl g3
        · exact absurd g3.symm hr
        · exact absurd g3.symm hr
      · exact absurd h.symm hr
    · exact absurd h.symm hr
  · exact absurd h.symm hr
omit hr hE hM in
theorem x_cvi {s t : TypeId} {x : Operand} {k0 k k1 : IntKind} {a : Int} (hx : evo env x = some (.int k1 a)) (hsk : kindOf s = some k0) (ht : kindOf t = some k) {K : Env → World → Prop} {hs : List Nat} {H : World → Prop} {rest : List Oper}
    (h : xs Tryz.prog isI isS hs H full K rest ((d, .int k (k.wrap a)) :: env) w) : xs Tryz.prog isI isS hs H full K (⟨some d, .convert s t x, ty, pos, af, none⟩ :: rest) env w := by
  refine x_gen rfl (by simp [opsOK, Op.operands, hx]) ?_
  have hc : clsO isI isS hs ⟨some d, Op.convert s t x, ty, pos, af, none⟩ = .p := by simp [clsO, cls, isI, hsk, ht]
  rw [hc]
  exact ⟨_, fun w' => by simp [execOp, ev_of hx, convert, run_underlying (kind_spec hsk), run_underlying (kind_spec ht), Conv.intToInt], h⟩
end
end Rn
end Eng
end Go.Proofs.YtalnkjpgnkfedaaGreatDoor
