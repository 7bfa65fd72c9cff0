/-
  Rules for arrays inside blocks and for structs that are loaded, stored and returned whole.
-/
import Derived.Test.YtighkjohpmlemaaMemB
import Derived.Laws.Tables
namespace Go.Proofs.Ytighkjohpmlemaa
open Go.RowKit
namespace Eng

theorem agg_spec {t n : Nat} (h : get l_agg t = some n) : ((∃ fs, Try.prog.underlying t = some (.struct fs)) ∨ ∃ m e, Try.prog.underlying t = some (.array m e)) ∧ ∃ i, Try.prog.info? t = some i ∧ i.size = n := by
  have := List.all_eq_true.1 chkAgg_ok _ (get_mem h)
  unfold chkAgg at this
  dsimp only at this
  split at this
  · rename_i fs i h1 h2; exact ⟨.inl ⟨_, h1⟩, i, h2, by simpa using this⟩
  · rename_i a b i h1 h2; exact ⟨.inr ⟨_, _, h1⟩, i, h2, by simpa using this⟩
  · cases this

theorem ld_row {t bt : TypeId} {g : Nat} {cs : Array Value} {w : World} (hB : Blk w g bt cs) (ht : get l_agg t = some cs.size) : (loadVar t ⟨g, 0, none⟩).run Try.prog w = .ok (.agg cs) w := by
  obtain ⟨h1 | h1, i, h3, h4⟩ := agg_spec ht
  · obtain ⟨fs, h1⟩ := h1
    exact run_loadVar_row (P := Try.prog) w g bt t cs (0, 0) _ hB h1 rfl (by rw [h3]; simp [h4])
  · obtain ⟨m, e, h1⟩ := h1
    exact run_loadVar_row (P := Try.prog) w g bt t cs (0, 0) _ hB h1 rfl (by rw [h3]; simp [h4])

theorem arr_spec {t n z : Nat} (h : get l_an t = some n) (hz : get l_ae t = some z) : ∃ e i, Try.prog.underlying t = some (.array n e) ∧ Try.prog.info? e = some i ∧ i.size = z ∧ 1 < n := by
  have := List.all_eq_true.1 chkArr_ok _ (get_mem h)
  unfold chkArr at this
  dsimp only at this
  split at this
  · rename_i n' e he
    simp only [Bool.and_eq_true, beq_iff_eq, decide_eq_true_eq] at this
    obtain ⟨⟨h1, h2⟩, h3⟩ := this
    subst h1
    rw [hz] at h3
    split at h3
    · rename_i i z' hi hz'
      injection hz' with hz'
      exact ⟨e, i, he, hi, by rw [hz']; simpa using h3, h2⟩
    · cases h3
  · cases this

variable {hs : List Nat} {H : World → Prop} {full : Array Oper} {K : Env → World → Prop} {rest : List Oper} {env : Env} {w : World} {d : Tmp} {dst : Option Tmp} {ty : TypeId} {pos : String} {af : Array Edge}

/-- The address of an element of an array. -/
theorem xixa {t : TypeId} {x i : Operand} {k : IntKind} {b o n j : Nat} (hx : evo env x = some (.pointer (some ⟨b, o, none⟩))) (hi : evo env i = some (.int k (j : Int))) (hn : get l_an t = some n) (hz : get l_ae t = some 1) (h1 : j < n)
    (h : xs Try.prog isI isS hs H full K rest ((d, .pointer (some ⟨b, o + j, none⟩)) :: env) w) : xs Try.prog isI isS hs H full K (⟨some d, .indexAddr t x i, ty, pos, af, none⟩ :: rest) env w := by
  obtain ⟨e, ie, h2, h3, h4, h5⟩ := arr_spec hn hz
  refine x_gen rfl (by simp [opsOK, Op.operands, hx, hi]) ⟨_, fun w' => ?_, h⟩
  simp [execOp, ev_of hx, ev_of hi, Instr.indexAt, asIntOf, Instr.sureAddr, run_underlying h2, sizeOf, typeInfo, h3, h4, Addr.add_lit]
  exact fun hh => absurd h1 (by omega)

theorem xiq {t : TypeId} {x i : Operand} {k : IntKind} {b o n : Nat} {jz : Int} (j q : Nat) (hx : evo env x = some (.pointer (some ⟨b, o, none⟩))) (hi : evo env i = some (.int k jz)) (hn : get l_an t = some n) (hz : get l_ae t = some 1) (hj : jz = j) (hq : o + j = q) (h1 : j < n)
    (h : xs Try.prog isI isS hs H full K rest ((d, .pointer (some ⟨b, q, none⟩)) :: env) w) : xs Try.prog isI isS hs H full K (⟨some d, .indexAddr t x i, ty, pos, af, none⟩ :: rest) env w := by
  subst hj; subst hq; exact xixa hx hi hn hz h1 h
/-- The address of an element of a slice, the place given apart. -/
theorem xisq {t : TypeId} {x i : Operand} {k : IntKind} {b o n c : Nat} {jz : Int} (j q : Nat) (hx : evo env x = some (.slice (some ⟨b, o, none⟩) n c)) (hi : evo env i = some (.int k jz)) (hz : es t = some 1) (hj : jz = j) (hq : o + j = q) (h1 : j < n)
    (h : xs Try.prog isI isS hs H full K rest ((d, .pointer (some ⟨b, q, none⟩)) :: env) w) : xs Try.prog isI isS hs H full K (⟨some d, .indexAddr t x i, ty, pos, af, none⟩ :: rest) env w := by
  subst hj; subst hq; exact xixn hx hi hz h1 h

/-- Loading a whole block. -/
theorem xlda {t bt : TypeId} {x : Operand} {g : Nat} {cs : Array Value} (hB : Blk w g bt cs) (hx : evo env x = some (.pointer (some ⟨g, 0, none⟩))) (ht : get l_agg t = some cs.size)
    (h : xs Try.prog isI isS hs H full K rest ((d, .agg cs) :: env) w) (hm : memb hs (some d) = false := by rfl) : xs Try.prog isI isS hs H full K (⟨some d, .load t x, ty, pos, af, none⟩ :: rest) env w := by
  refine x_gen rfl (by simp [opsOK, Op.operands, hx]) ?_
  have hcl : clsO isI isS hs ⟨some d, .load t x, ty, pos, af, none⟩ = .r := by simp [clsO, cls, hm]
  rw [hcl]
  refine ⟨.agg cs, ?_, h⟩
  simp [execOp, ev_of hx, Instr.loadAt, Instr.sureAddr, ld_row hB ht]

/-- Storing a whole block. -/
theorem xsta {t bt : TypeId} {x y : Operand} {g : Nat} {old cs : Array Value} (hB : Blk w g bt old) (hx : evo env x = some (.pointer (some ⟨g, 0, none⟩))) (hy : evo env y = some (.agg cs)) (ht : get l_agg t = some cs.size) (ho : old.size = cs.size) (h1 : cs.all (·.oneCell') = true)
    (h : ∀ w', Blk w' g bt cs → Fr (· = g) w w' → xs Try.prog isI isS hs H full K rest env w') (hH : ∀ w', Fr (· = g) w w' → H w' := by intros; trivial) : xs Try.prog isI isS hs H full K (⟨none, .store t x y, ty, pos, af, none⟩ :: rest) env w := by
  obtain ⟨_, i, h4, h5⟩ := agg_spec ht
  refine x_gen rfl (by simp [opsOK, Op.operands, hx, hy]) ?_
  have hr := run_storeVar_row (P := Try.prog) w g bt t old cs hB (by rw [h4]; simp [h5]) ho h1
  have hF : Fr (· = g) w (w.setRow g cs) := ⟨rfl, rfl, rfl, by simp [World.setRow], fun k hk hn => by simp only [World.setRow, Array.getElem?_modify]; rw [if_neg (fun e => hn e.symm)]⟩
  have hN : Blk (w.setRow g cs) g bt cs := by
    unfold Blk at hB ⊢
    simp [World.setRow, Array.getElem?_modify, hB]
  show out Try.prog ((execOp (ev env) ⟨none, .store t x y, ty, pos, af, none⟩).run Try.prog w) _
  have e : (execOp (ev env) ⟨none, .store t x y, ty, pos, af, none⟩).run Try.prog w = .ok .skip (w.setRow g cs) := by
    simp [execOp, ev_of hx, ev_of hy, Instr.storeAt, Instr.sureAddr, hr]
  rw [e]
  exact ⟨hH _ hF, h _ hN hF⟩

/-- A result that lies in a block. -/
theorem tretc {fn : Func} {R : Value → World → Prop} {k : List It} {t : Tmp} {bt tt : TypeId} {g : Nat} {cs : Array Value} (hr : fn.results = #[.cell t tt]) (hv : look env t = some (.pointer (some ⟨g, 0, none⟩))) (hB : Blk w g bt cs) (ht : get l_agg tt = some cs.size) (h : R (.agg cs) w) :
    T Try.prog fn R (.code .ret :: k) env w := fun a ha => by
  refine wp_ret (sem_ret (show bodyPost Try.prog fn (Ret R) .ret a w from ⟨ha.1, .agg cs, ?_, _, rfl, h⟩) k)
  have hp' : a.tmps[t]?.getD undef = .pointer (some ⟨g, 0, none⟩) := by rw [ha.2.2 t _ hv]; rfl
  simp [results, hr, hp', asAddr, ld_row hB ht]

end Eng
end Go.Proofs.Ytighkjohpmlemaa
