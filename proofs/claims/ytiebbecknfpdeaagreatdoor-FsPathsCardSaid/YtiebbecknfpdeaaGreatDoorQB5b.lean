/-
  Structs compared; the library's Equal of slices; meta.Diff, node.Diff, Same, and the reference's.
-/
import Derived.ChangeKeysEq
import Derived.Laws.StructEq
import Derived.Test.YtiebbecknfpdeaaGreatDoorQWe
namespace Go.Proofs.YtiebbecknfpdeaaGreatDoor
open Go.RowKit
namespace Eng
section
variable {hs : List Nat} {H : World → Prop} {full : Array Oper} {K : Env → World → Prop} {rest : List Oper} {env : Env} {w : World} {d : Tmp} {ty : TypeId} {pos : String} {af : Array Edge}
/-- Two structs of one type compared. -/
def EqS (t : TypeId) (cs ds : List Value) (b : Bool) : Prop := Tryz.prog.eqGuardType Tryz.prog.depth t = false ∧ ∀ w', (Op.equalIn 10000 t (.agg cs.toArray) (.agg ds.toArray)).run Tryz.prog w' = .ok b w'
theorem xstne {t yt : TypeId} {x y : Operand} {cs ds : List Value} {b : Bool} (hx : evo env x = some (.agg cs.toArray)) (hy : evo env y = some (.agg ds.toArray)) (he : EqS t cs ds b)
    (h : xs Tryz.prog isI isS hs H full K rest ((d, .bool (!b)) :: env) w) : xs Tryz.prog isI isS hs H full K (⟨some d, .binOp .neq t x y yt, ty, pos, af, none⟩ :: rest) env w := by
  refine x_gen rfl (by simp [opsOK, Op.operands, hx, hy]) ⟨.bool !b, fun w' => ?_, h⟩
  have h1 := run_eqGuard_agg (P := Tryz.prog) w' .neq t x y cs.toArray ds.toArray he.1
  have h2 := run_neq_struct (P := Tryz.prog) w' t cs.toArray ds.toArray
  rw [he.2 w'] at h2
  simp [execOp, ev_of hx, ev_of hy, h1, h2]
end
theorem eqf_cons {P : Program} {w : World} {d : Nat} {cs ds : Array Value} {f : Field} {fs : List Field} {a b : Value} {r : Bool} (hn : f.name ≠ "_") (hp : P.plainKey f.type = true) (ha : cs[f.offset]? = some a) (hb : ds[f.offset]? = some b) (he : (Op.equalIn d f.type a b).run P w = .ok r w) :
    (Op.eqFields d cs ds (f :: fs)).run P w = if r then (Op.eqFields d cs ds fs).run P w else .ok false w := by
  rw [Op.eqFields, if_pos hn]
  simp only [Sem.run_bind, run_part_plain w hp ha, run_part_plain w hp hb, Result.andThen_ok, he]
  cases r <;> simp
set_option maxRecDepth 20000 in
theorem eq_ac (a b : Ac) : EqS 103 (acC a) (acC b) (decide (a = b)) := by
  refine ⟨by kernel_rfl, fun w' => ?_⟩
  have hf : Tryz.prog.fieldsOf 103 = (match Tryz.prog.underlying 103 with
    | some (.struct fs) => fs
    | _ => #[]) := rfl
  rw [Tryz.underlying103] at hf
  have hu : Tryz.prog.underlying 103 = some (.struct (Tryz.prog.fieldsOf 103)) := by rw [hf]; exact Tryz.underlying103
  rw [run_equalIn_agg w' 9999 _ _ _ hu (by kernel_rfl), hf]
  rw [eqf_cons (r := a.kind == b.kind) (by decide) (by kernel_rfl) rfl rfl (run_equalIn_int w' 9998 _ _ _ _ _ Tryz.underlying3), eqf_cons (r := a.id == b.id) (by decide) (by kernel_rfl) rfl rfl (run_equalIn_int w' 9998 _ _ _ _ _ Tryz.underlying3), eqf_cons (r := a.perm == b.perm) (by decide) (by kernel_rfl) rfl rfl (run_equalIn_int w' 9998 _ _ _ _ _ Tryz.underlying3)]
  obtain ⟨x, y, z⟩ := a
  obtain ⟨x', y', z'⟩ := b
  by_cases h0 : x = x' <;> by_cases h1 : y = y' <;> by_cases h2 : z = z' <;> simp [h0, h1, h2, Op.eqFields]
set_option maxRecDepth 20000 in
theorem eq_att (a b : Att) : EqS 101 (attC a) (attC b) (decide (a = b)) := by
  refine ⟨by kernel_rfl, fun w' => ?_⟩
  have hf : Tryz.prog.fieldsOf 101 = (match Tryz.prog.underlying 101 with
    | some (.struct fs) => fs
    | _ => #[]) := rfl
  rw [Tryz.underlying101] at hf
  have hu : Tryz.prog.underlying 101 = some (.struct (Tryz.prog.fieldsOf 101)) := by rw [hf]; exact Tryz.underlying101
  have pks : Tryz.prog.plainKey 9 = true := by kernel_rfl
  rw [run_equalIn_agg w' 9999 _ _ _ hu (by kernel_rfl), hf]
  rw [eqf_cons (r := (su a.name).toList == (su b.name).toList) (by decide) pks rfl rfl (run_equalIn_string w' 9998 _ _ _ Tryz.underlying9), eqf_cons (r := (su a.value).toList == (su b.value).toList) (by decide) pks rfl rfl (run_equalIn_string w' 9998 _ _ _ Tryz.underlying9)]
  obtain ⟨x, y⟩ := a
  obtain ⟨x', y'⟩ := b
  simp only [su_list]
  by_cases h0 : x = x' <;> by_cases h1 : y = y' <;> simp [h0, h1, Op.eqFields]
set_option maxRecDepth 20000 in
theorem eq_pc (a b : Pce) : EqS 134 (pcC a) (pcC b) (decide (a = b)) := by
  refine ⟨by kernel_rfl, fun w' => ?_⟩
  have hf : Tryz.prog.fieldsOf 134 = (match Tryz.prog.underlying 134 with
    | some (.struct fs) => fs
    | _ => #[]) := rfl
  rw [Tryz.underlying134] at hf
  have hu : Tryz.prog.underlying 134 = some (.struct (Tryz.prog.fieldsOf 134)) := by rw [hf]; exact Tryz.underlying134
  have pks : Tryz.prog.plainKey 9 = true := by kernel_rfl
  rw [run_equalIn_agg w' 9999 _ _ _ hu (by kernel_rfl), hf]
  rw [eqf_cons (r := a.pos == b.pos) (by decide) (by kernel_rfl) rfl rfl (run_equalIn_int w' 9998 _ _ _ _ _ Tryz.underlying2), eqf_cons (r := (su a.data).toList == (su b.data).toList) (by decide) pks rfl rfl (run_equalIn_string w' 9998 _ _ _ Tryz.underlying9)]
  obtain ⟨x, y⟩ := a
  obtain ⟨x', y'⟩ := b
  simp only [su_list]
  by_cases h0 : x = x' <;> by_cases h1 : y = y' <;> simp [h0, h1, Op.eqFields]
set_option maxRecDepth 20000 in
theorem eq_en (a b : En) : EqS 54 (enC a) (enC b) (decide (a = b)) := by
  refine ⟨by kernel_rfl, fun w' => ?_⟩
  have hf : Tryz.prog.fieldsOf 54 = (match Tryz.prog.underlying 54 with
    | some (.struct fs) => fs
    | _ => #[]) := rfl
  rw [Tryz.underlying54] at hf
  have hu : Tryz.prog.underlying 54 = some (.struct (Tryz.prog.fieldsOf 54)) := by rw [hf]; exact Tryz.underlying54
  have pks : Tryz.prog.plainKey 9 = true := by kernel_rfl
  rw [run_equalIn_agg w' 9999 _ _ _ hu (by kernel_rfl), hf]
  rw [eqf_cons (r := (su a.path).toList == (su b.path).toList) (by decide) pks rfl rfl (run_equalIn_string w' 9998 _ _ _ Tryz.underlying9), eqf_cons (r := a.node == b.node) (by decide) (by kernel_rfl) rfl rfl (run_equalIn_int w' 9998 _ _ _ _ _ Tryz.underlying3)]
  obtain ⟨x, y⟩ := a
  obtain ⟨x', y'⟩ := b
  simp only [su_list]
  by_cases h0 : x = x' <;> by_cases h1 : y = y' <;> simp [h0, h1, Op.eqFields]
attribute [local irreducible] xs T
set_option maxRecDepth 20000 in
set_option maxHeartbeats 2000000 in
theorem requal_ac (w : World) (v v' : Value) (l l' : List Ac) (hv : Rw acC w v l) (hv' : Rw acC w v' l') : Does Tryz.prog 190 #[v, v'] w fun r w' => r = .bool (decide (l = l')) ∧ Ext w w' := by
  refine does2 Tryz.func190 rfl (by kernel_rfl) ?_
  obtain ⟨A, c, rfl, hc1, hc2, hA⟩ := hv.op acC_len
  obtain ⟨A', c', rfl, hc1', hc2', hA'⟩ := hv'.op acC_len
  by_cases hlen : l.length = l'.length
  · refine goL ?_
    refine tloop (α := Nat) (fun i => [(0, .slice A l.length c), (1, .slice A' l'.length c'), (5, .int .i64 (i : Int))]) (fun i w' => Ext w w' ∧ i ≤ l.length ∧ decide (l.drop i = l'.drop i) = decide (l = l')) (fun i => l.length - i) 0 (sub ⟨rfl, rfl, rfl⟩) ⟨Fr.refl _ _, Nat.zero_le _, rfl⟩ ?_
    rintro i w1 ⟨hE, hi, hgo⟩
    by_cases hlt : i < l.length
    · obtain ⟨b, o, x, rfl, _, hx, hdr, hcell⟩ := hA.at_ hlt
      obtain ⟨b', o', y, rfl, _, hy, hdr', hcell'⟩ := hA'.at_ (i := i) (by omega)
      rw [hdr, hdr'] at hgo
      have hxc : ∀ j u, (acC x)[j]? = some u → w1.drew.cell? ⟨b, o + i * 3 + j, none⟩ = some u := fun j u hu => hE.cell (hcell j u hu)
      have hyc : ∀ j u, (acC y)[j]? = some u → w1.drew.cell? ⟨b', o' + i * 3 + j, none⟩ = some u := fun j u hu => hE.cell (hcell' j u hu)
      repeat' (first | refine xizq i (o + i * 3) rfl rfl rfl rfl rfl hlt ?_ | refine go1L ?_ | fail)
      refine xldz (cs := acC x) rfl rfl hxc ?_
      repeat' (first | refine xizq i (o' + i * 3) rfl rfl rfl rfl rfl (by omega) ?_ | refine go1L ?_ | fail)
      refine xldz (cs := acC y) rfl rfl hyc ?_
      refine xstne rfl rfl (eq_ac x y) ?_
      by_cases e : x = y
      · subst e
        have hgo : decide (l.drop (i + 1) = l'.drop (i + 1)) = decide (l = l') := by rw [← hgo]; simp
        rw [decide_eq_true rfl]
        refine goL ?_
        exact tfin ⟨i + 1, sub ⟨rfl, rfl, rfl⟩, ⟨hE.d, by omega, hgo⟩, (by show l.length - (i + 1) < l.length - i; omega)⟩
      · rw [decide_eq_false (by simp [e])] at hgo
        rw [decide_eq_false e]
        refine goL ?_
        exact tret1 rfl rfl ⟨by rw [← hgo], hE.d⟩
    · obtain rfl : i = l.length := by omega
      rw [List.drop_length, hlen, List.drop_length] at hgo
      rw [← hgo]
      refine goL ?_
      exact tret1 rfl rfl ⟨rfl, hE⟩
  · refine goL ?_
    exact tret1 rfl rfl ⟨by rw [decide_eq_false fun e => hlen (by rw [e])], Fr.refl _ _⟩
set_option maxRecDepth 20000 in
set_option maxHeartbeats 2000000 in
theorem requal_att (w : World) (v v' : Value) (l l' : List Att) (hv : Rw attC w v l) (hv' : Rw attC w v' l') : Does Tryz.prog 189 #[v, v'] w fun r w' => r = .bool (decide (l = l')) ∧ Ext w w' := by
  refine does2 Tryz.func189 rfl (by kernel_rfl) ?_
  obtain ⟨A, c, rfl, hc1, hc2, hA⟩ := hv.op attC_len
  obtain ⟨A', c', rfl, hc1', hc2', hA'⟩ := hv'.op attC_len
  by_cases hlen : l.length = l'.length
  · refine goL ?_
    refine tloop (α := Nat) (fun i => [(0, .slice A l.length c), (1, .slice A' l'.length c'), (5, .int .i64 (i : Int))]) (fun i w' => Ext w w' ∧ i ≤ l.length ∧ decide (l.drop i = l'.drop i) = decide (l = l')) (fun i => l.length - i) 0 (sub ⟨rfl, rfl, rfl⟩) ⟨Fr.refl _ _, Nat.zero_le _, rfl⟩ ?_
    rintro i w1 ⟨hE, hi, hgo⟩
    by_cases hlt : i < l.length
    · obtain ⟨b, o, x, rfl, _, hx, hdr, hcell⟩ := hA.at_ hlt
      obtain ⟨b', o', y, rfl, _, hy, hdr', hcell'⟩ := hA'.at_ (i := i) (by omega)
      rw [hdr, hdr'] at hgo
      have hxc : ∀ j u, (attC x)[j]? = some u → w1.drew.cell? ⟨b, o + i * 2 + j, none⟩ = some u := fun j u hu => hE.cell (hcell j u hu)
      have hyc : ∀ j u, (attC y)[j]? = some u → w1.drew.cell? ⟨b', o' + i * 2 + j, none⟩ = some u := fun j u hu => hE.cell (hcell' j u hu)
      repeat' (first | refine xizq i (o + i * 2) rfl rfl rfl rfl rfl hlt ?_ | refine go1L ?_ | fail)
      refine xldz (cs := attC x) rfl rfl hxc ?_
      repeat' (first | refine xizq i (o' + i * 2) rfl rfl rfl rfl rfl (by omega) ?_ | refine go1L ?_ | fail)
      refine xldz (cs := attC y) rfl rfl hyc ?_
      refine xstne rfl rfl (eq_att x y) ?_
      by_cases e : x = y
      · subst e
        have hgo : decide (l.drop (i + 1) = l'.drop (i + 1)) = decide (l = l') := by rw [← hgo]; simp
        rw [decide_eq_true rfl]
        refine goL ?_
        exact tfin ⟨i + 1, sub ⟨rfl, rfl, rfl⟩, ⟨hE.d, by omega, hgo⟩, (by show l.length - (i + 1) < l.length - i; omega)⟩
      · rw [decide_eq_false (by simp [e])] at hgo
        rw [decide_eq_false e]
        refine goL ?_
        exact tret1 rfl rfl ⟨by rw [← hgo], hE.d⟩
    · obtain rfl : i = l.length := by omega
      rw [List.drop_length, hlen, List.drop_length] at hgo
      rw [← hgo]
      refine goL ?_
      exact tret1 rfl rfl ⟨rfl, hE⟩
  · refine goL ?_
    exact tret1 rfl rfl ⟨by rw [decide_eq_false fun e => hlen (by rw [e])], Fr.refl _ _⟩
set_option maxRecDepth 20000 in
set_option maxHeartbeats 2000000 in
theorem requal_pc (w : World) (v v' : Value) (l l' : List Pce) (hv : Rw pcC w v l) (hv' : Rw pcC w v' l') : Does Tryz.prog 155 #[v, v'] w fun r w' => r = .bool (decide (l = l')) ∧ Ext w w' := by
  refine does2 Tryz.func155 rfl (by kernel_rfl) ?_
  obtain ⟨A, c, rfl, hc1, hc2, hA⟩ := hv.op pcC_len
  obtain ⟨A', c', rfl, hc1', hc2', hA'⟩ := hv'.op pcC_len
  by_cases hlen : l.length = l'.length
  · refine goL ?_
    refine tloop (α := Nat) (fun i => [(0, .slice A l.length c), (1, .slice A' l'.length c'), (5, .int .i64 (i : Int))]) (fun i w' => Ext w w' ∧ i ≤ l.length ∧ decide (l.drop i = l'.drop i) = decide (l = l')) (fun i => l.length - i) 0 (sub ⟨rfl, rfl, rfl⟩) ⟨Fr.refl _ _, Nat.zero_le _, rfl⟩ ?_
    rintro i w1 ⟨hE, hi, hgo⟩
    by_cases hlt : i < l.length
    · obtain ⟨b, o, x, rfl, _, hx, hdr, hcell⟩ := hA.at_ hlt
      obtain ⟨b', o', y, rfl, _, hy, hdr', hcell'⟩ := hA'.at_ (i := i) (by omega)
      rw [hdr, hdr'] at hgo
      have hxc : ∀ j u, (pcC x)[j]? = some u → w1.drew.cell? ⟨b, o + i * 2 + j, none⟩ = some u := fun j u hu => hE.cell (hcell j u hu)
      have hyc : ∀ j u, (pcC y)[j]? = some u → w1.drew.cell? ⟨b', o' + i * 2 + j, none⟩ = some u := fun j u hu => hE.cell (hcell' j u hu)
      repeat' (first | refine xizq i (o + i * 2) rfl rfl rfl rfl rfl hlt ?_ | refine go1L ?_ | fail)
      refine xldz (cs := pcC x) rfl rfl hxc ?_
      repeat' (first | refine xizq i (o' + i * 2) rfl rfl rfl rfl rfl (by omega) ?_ | refine go1L ?_ | fail)
      refine xldz (cs := pcC y) rfl rfl hyc ?_
      refine xstne rfl rfl (eq_pc x y) ?_
      by_cases e : x = y
      · subst e
        have hgo : decide (l.drop (i + 1) = l'.drop (i + 1)) = decide (l = l') := by rw [← hgo]; simp
        rw [decide_eq_true rfl]
        refine goL ?_
        exact tfin ⟨i + 1, sub ⟨rfl, rfl, rfl⟩, ⟨hE.d, by omega, hgo⟩, (by show l.length - (i + 1) < l.length - i; omega)⟩
      · rw [decide_eq_false (by simp [e])] at hgo
        rw [decide_eq_false e]
        refine goL ?_
        exact tret1 rfl rfl ⟨by rw [← hgo], hE.d⟩
    · obtain rfl : i = l.length := by omega
      rw [List.drop_length, hlen, List.drop_length] at hgo
      rw [← hgo]
      refine goL ?_
      exact tret1 rfl rfl ⟨rfl, hE⟩
  · refine goL ?_
    exact tret1 rfl rfl ⟨by rw [decide_eq_false fun e => hlen (by rw [e])], Fr.refl _ _⟩
end Eng
end Go.Proofs.YtiebbecknfpdeaaGreatDoor
