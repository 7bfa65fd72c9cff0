/-
  Parts of the proof: Wj, Ka, Sk, Sl, Sn, Kb.
-/
import Derived.ChangeKeysEq
import Derived.Laws.StructEq
import Derived.Test.YtiebbecknfpdeaaGreatDoorNB0b
import Derived.Test.YtiebbecknfpdeaaGreatDoorNB5a
import Derived.Test.YtiebbecknfpdeaaGreatDoorNWe
set_option maxRecDepth 100000
set_option maxHeartbeats 64000000
namespace Go.Proofs.YtiebbecknfpdeaaGreatDoor.Eng
open Go.RowKit
section
section
variable {hs : List Nat} {H : World → Prop} {full : Array Oper} {K : Env → World → Prop} {rest : List Oper} {env : Env} {w : World} {d : Tmp} {ty : TypeId} {pos : String} {af : Array Edge}
def EqS (t : TypeId) (cs ds : List Value) (b : Bool) : Prop := Tryz.prog.eqGuardType Tryz.prog.depth t = false ∧ ∀ w', (Op.equalIn 10000 t (.agg cs.toArray) (.agg ds.toArray)).run Tryz.prog w' = .ok b w'
theorem xstne {t yt : TypeId} {x y : Operand} {cs ds : List Value} {b : Bool} (hx : evo env x = some (.agg cs.toArray)) (hy : evo env y = some (.agg ds.toArray)) (he : EqS t cs ds b)
  (h : xs Tryz.prog isI isS hs H full K rest ((d, .bool (!b)) :: env) w) : xs Tryz.prog isI isS hs H full K (⟨some d, .binOp .neq t x y yt, ty, pos, af, none⟩ :: rest) env w := by
 refine x_gen rfl (by simp [opsOK, Op.operands, hx, hy]) ⟨.bool !b, fun w' => ?_, h⟩
 have h1 := run_eqGuard_agg (P := Tryz.prog) w' .neq t x y cs.toArray ds.toArray he.1
 have h2 := run_neq_struct (P := Tryz.prog) w' t cs.toArray ds.toArray
 rw [he.2 w'] at h2
 simp [execOp, ev_of hx, ev_of hy, h1, h2]
end
theorem eqf_cons {P : Program} {w : World} {d : Nat} {cs ds : Array Value} {f : Field} {fs : List Field} {a b : Value} {r : Bool} (hn : f.name ≠ "_") (hp : P.plainKey f.type = true) (ha : cs[f.offset]? = some a) (hb : ds[f.offset]? = some b) (he : (Op.equalIn d f.type a b).run P w = .ok r w) :
  (Op.eqFields d cs ds (f :: fs)).run P w = if r then (Op.eqFields d cs ds fs).run P w else .ok false w := by
 rw [Op.eqFields, if_pos hn]
 simp only [Sem.run_bind, run_part_plain w hp ha, run_part_plain w hp hb, Result.andThen_ok, he]
 cases r <;> simp
theorem eq_ac (a b : Ac) : EqS 103 (acC a) (acC b) (decide (a = b)) := by
 refine ⟨by kernel_rfl, fun w' => ?_⟩
 have hf : Tryz.prog.fieldsOf 103 = (match Tryz.prog.underlying 103 with
  | some (.struct fs) => fs
  | _ => #[]) := rfl
 rw [Tryz.underlying103] at hf
 have hu : Tryz.prog.underlying 103 = some (.struct (Tryz.prog.fieldsOf 103)) := by rw [hf]; exact Tryz.underlying103
 rw [run_equalIn_agg w' 9999 _ _ _ hu (by kernel_rfl), hf]
 rw [eqf_cons (r := a.kind == b.kind) (by decide) (by kernel_rfl) rfl rfl (run_equalIn_int w' 9998 _ _ _ _ _ Tryz.underlying3), eqf_cons (r := a.id == b.id) (by decide) (by kernel_rfl) rfl rfl (run_equalIn_int w' 9998 _ _ _ _ _ Tryz.underlying3), eqf_cons (r := a.perm == b.perm) (by decide) (by kernel_rfl) rfl rfl (run_equalIn_int w' 9998 _ _ _ _ _ Tryz.underlying3)]
 obtain ⟨x, y, z⟩ := a
 obtain ⟨x', y', z'⟩ := b
 by_cases h0 : x = x' <;> by_cases h1 : y = y' <;> by_cases h2 : z = z' <;> simp [h0, h1, h2, Op.eqFields]
theorem eq_att (a b : Att) : EqS 101 (attC a) (attC b) (decide (a = b)) := by
 refine ⟨by kernel_rfl, fun w' => ?_⟩
 have hf : Tryz.prog.fieldsOf 101 = (match Tryz.prog.underlying 101 with
  | some (.struct fs) => fs
  | _ => #[]) := rfl
 rw [Tryz.underlying101] at hf
 have hu : Tryz.prog.underlying 101 = some (.struct (Tryz.prog.fieldsOf 101)) := by rw [hf]; exact Tryz.underlying101
 have pks : Tryz.prog.plainKey 9 = true := by kernel_rfl
 rw [run_equalIn_agg w' 9999 _ _ _ hu (by kernel_rfl), hf]
 rw [eqf_cons (r := (su a.name).toList == (su b.name).toList) (by decide) pks rfl rfl (run_equalIn_string w' 9998 _ _ _ Tryz.underlying9), eqf_cons (r := (su a.value).toList == (su b.value).toList) (by decide) pks rfl rfl (run_equalIn_string w' 9998 _ _ _ Tryz.underlying9)]
 obtain ⟨x, y⟩ := a
 obtain ⟨x', y'⟩ := b
 simp only [su_list]
 by_cases h0 : x = x' <;> by_cases h1 : y = y' <;> simp [h0, h1, Op.eqFields]
theorem eq_pc (a b : Pce) : EqS 134 (pcC a) (pcC b) (decide (a = b)) := by
 refine ⟨by kernel_rfl, fun w' => ?_⟩
 have hf : Tryz.prog.fieldsOf 134 = (match Tryz.prog.underlying 134 with
  | some (.struct fs) => fs
  | _ => #[]) := rfl
 rw [Tryz.underlying134] at hf
 have hu : Tryz.prog.underlying 134 = some (.struct (Tryz.prog.fieldsOf 134)) := by rw [hf]; exact Tryz.underlying134
 have pks : Tryz.prog.plainKey 9 = true := by kernel_rfl
 rw [run_equalIn_agg w' 9999 _ _ _ hu (by kernel_rfl), hf]
 rw [eqf_cons (r := a.pos == b.pos) (by decide) (by kernel_rfl) rfl rfl (run_equalIn_int w' 9998 _ _ _ _ _ Tryz.underlying2), eqf_cons (r := (su a.data).toList == (su b.data).toList) (by decide) pks rfl rfl (run_equalIn_string w' 9998 _ _ _ Tryz.underlying9)]
 obtain ⟨x, y⟩ := a
 obtain ⟨x', y'⟩ := b
 simp only [su_list]
 by_cases h0 : x = x' <;> by_cases h1 : y = y' <;> simp [h0, h1, Op.eqFields]
theorem eq_en (a b : En) : EqS 54 (enC a) (enC b) (decide (a = b)) := by
 refine ⟨by kernel_rfl, fun w' => ?_⟩
 have hf : Tryz.prog.fieldsOf 54 = (match Tryz.prog.underlying 54 with
  | some (.struct fs) => fs
  | _ => #[]) := rfl
 rw [Tryz.underlying54] at hf
 have hu : Tryz.prog.underlying 54 = some (.struct (Tryz.prog.fieldsOf 54)) := by rw [hf]; exact Tryz.underlying54
 have pks : Tryz.prog.plainKey 9 = true := by kernel_rfl
 rw [run_equalIn_agg w' 9999 _ _ _ hu (by kernel_rfl), hf]
 rw [eqf_cons (r := (su a.path).toList == (su b.path).toList) (by decide) pks rfl rfl (run_equalIn_string w' 9998 _ _ _ Tryz.underlying9), eqf_cons (r := a.node == b.node) (by decide) (by kernel_rfl) rfl rfl (run_equalIn_int w' 9998 _ _ _ _ _ Tryz.underlying3)]
 obtain ⟨x, y⟩ := a
 obtain ⟨x', y'⟩ := b
 simp only [su_list]
 by_cases h0 : x = x' <;> by_cases h1 : y = y' <;> simp [h0, h1, Op.eqFields]
attribute [local irreducible] xs T
theorem requal_ac (w : World) (v v' : Value) (l l' : List Ac) (hv : Rw acC w v l) (hv' : Rw acC w v' l') : Does Tryz.prog 190 #[v, v'] w fun r w' => r = .bool (decide (l = l')) ∧ Ext w w' := by
 refine does2 Tryz.func190 rfl (by kernel_rfl) ?_
 obtain ⟨A, c, rfl, hc1, hc2, hA⟩ := hv.op acC_len
 obtain ⟨A', c', rfl, hc1', hc2', hA'⟩ := hv'.op acC_len
 by_cases hlen : l.length = l'.length
 ·refine goL ?_
  refine tloop (α := Nat) (fun i => [(0, .slice A l.length c), (1, .slice A' l'.length c'), (5, .int .i64 (i : Int))]) (fun i w' => Ext w w' ∧ i ≤ l.length ∧ decide (l.drop i = l'.drop i) = decide (l = l')) (fun i => l.length - i) 0 (sub ⟨rfl, rfl, rfl⟩) ⟨Fr.refl _ _, Nat.zero_le _, rfl⟩ ?_
  rintro i w1 ⟨hE, hi, hgo⟩
  by_cases hlt : i < l.length
  ·obtain ⟨b, o, x, rfl, _, hx, hdr, hcell⟩ := hA.at_ hlt
   obtain ⟨b', o', y, rfl, _, hy, hdr', hcell'⟩ := hA'.at_ (i := i) (by omega)
   rw [hdr, hdr'] at hgo
   have hxc : ∀ j u, (acC x)[j]? = some u → w1.drew.cell? ⟨b, o + i * 3 + j, none⟩ = some u := fun j u hu => hE.cell (hcell j u hu)
   have hyc : ∀ j u, (acC y)[j]? = some u → w1.drew.cell? ⟨b', o' + i * 3 + j, none⟩ = some u := fun j u hu => hE.cell (hcell' j u hu)
   refine gz8 ?_
   refine xldz (cs := acC x) rfl rfl hxc ?_
   repeat' (first | refine xizq i (o' + i * 3) rfl rfl rfl rfl rfl (by omega) ?_ | refine go1L ?_ | fail)
   refine xldz (cs := acC y) rfl rfl hyc ?_
   refine xstne rfl rfl (eq_ac x y) ?_
   by_cases e : x = y
   ·exact y16
   ·exact y42
  ·exact y48
 ·exact y61
theorem requal_att (w : World) (v v' : Value) (l l' : List Att) (hv : Rw attC w v l) (hv' : Rw attC w v' l') : Does Tryz.prog 189 #[v, v'] w fun r w' => r = .bool (decide (l = l')) ∧ Ext w w' := by
 refine does2 Tryz.func189 rfl (by kernel_rfl) ?_
 obtain ⟨A, c, rfl, hc1, hc2, hA⟩ := hv.op attC_len
 obtain ⟨A', c', rfl, hc1', hc2', hA'⟩ := hv'.op attC_len
 by_cases hlen : l.length = l'.length
 ·refine goL ?_
  refine tloop (α := Nat) (fun i => [(0, .slice A l.length c), (1, .slice A' l'.length c'), (5, .int .i64 (i : Int))]) (fun i w' => Ext w w' ∧ i ≤ l.length ∧ decide (l.drop i = l'.drop i) = decide (l = l')) (fun i => l.length - i) 0 (sub ⟨rfl, rfl, rfl⟩) ⟨Fr.refl _ _, Nat.zero_le _, rfl⟩ ?_
  rintro i w1 ⟨hE, hi, hgo⟩
  by_cases hlt : i < l.length
  ·obtain ⟨b, o, x, rfl, _, hx, hdr, hcell⟩ := hA.at_ hlt
   obtain ⟨b', o', y, rfl, _, hy, hdr', hcell'⟩ := hA'.at_ (i := i) (by omega)
   rw [hdr, hdr'] at hgo
   have hxc : ∀ j u, (attC x)[j]? = some u → w1.drew.cell? ⟨b, o + i * 2 + j, none⟩ = some u := fun j u hu => hE.cell (hcell j u hu)
   have hyc : ∀ j u, (attC y)[j]? = some u → w1.drew.cell? ⟨b', o' + i * 2 + j, none⟩ = some u := fun j u hu => hE.cell (hcell' j u hu)
   refine gz4 ?_
   refine xldz (cs := attC x) rfl rfl hxc ?_
   repeat' (first | refine xizq i (o' + i * 2) rfl rfl rfl rfl rfl (by omega) ?_ | refine go1L ?_ | fail)
   refine xldz (cs := attC y) rfl rfl hyc ?_
   refine xstne rfl rfl (eq_att x y) ?_
   by_cases e : x = y
   ·exact y16
   ·exact y42
  ·exact y48
 ·exact y61
theorem requal_pc (w : World) (v v' : Value) (l l' : List Pce) (hv : Rw pcC w v l) (hv' : Rw pcC w v' l') : Does Tryz.prog 155 #[v, v'] w fun r w' => r = .bool (decide (l = l')) ∧ Ext w w' := by
 refine does2 Tryz.func155 rfl (by kernel_rfl) ?_
 obtain ⟨A, c, rfl, hc1, hc2, hA⟩ := hv.op pcC_len
 obtain ⟨A', c', rfl, hc1', hc2', hA'⟩ := hv'.op pcC_len
 by_cases hlen : l.length = l'.length
 ·refine goL ?_
  refine tloop (α := Nat) (fun i => [(0, .slice A l.length c), (1, .slice A' l'.length c'), (5, .int .i64 (i : Int))]) (fun i w' => Ext w w' ∧ i ≤ l.length ∧ decide (l.drop i = l'.drop i) = decide (l = l')) (fun i => l.length - i) 0 (sub ⟨rfl, rfl, rfl⟩) ⟨Fr.refl _ _, Nat.zero_le _, rfl⟩ ?_
  rintro i w1 ⟨hE, hi, hgo⟩
  by_cases hlt : i < l.length
  ·obtain ⟨b, o, x, rfl, _, hx, hdr, hcell⟩ := hA.at_ hlt
   obtain ⟨b', o', y, rfl, _, hy, hdr', hcell'⟩ := hA'.at_ (i := i) (by omega)
   rw [hdr, hdr'] at hgo
   have hxc : ∀ j u, (pcC x)[j]? = some u → w1.drew.cell? ⟨b, o + i * 2 + j, none⟩ = some u := fun j u hu => hE.cell (hcell j u hu)
   have hyc : ∀ j u, (pcC y)[j]? = some u → w1.drew.cell? ⟨b', o' + i * 2 + j, none⟩ = some u := fun j u hu => hE.cell (hcell' j u hu)
   refine gz4 ?_
   refine xldz (cs := pcC x) rfl rfl hxc ?_
   repeat' (first | refine xizq i (o' + i * 2) rfl rfl rfl rfl rfl (by omega) ?_ | refine go1L ?_ | fail)
   refine xldz (cs := pcC y) rfl rfl hyc ?_
   refine xstne rfl rfl (eq_pc x y) ?_
   by_cases e : x = y
   ·exact y16
   ·exact y42
  ·exact y48
 ·exact y61
end
end Go.Proofs.YtiebbecknfpdeaaGreatDoor.Eng
namespace Go.Proofs.YtiebbecknfpdeaaGreatDoor
open Go.RowKit
namespace Eng
structure OrdL {α : Type} (lt : α → α → Bool) : Prop where
 irr : ∀ x, lt x x = false
 tr : ∀ x y z, lt x y = true → lt y z = true → lt x z = true
 neg : ∀ x y z, lt x z = true → lt x y = true ∨ lt y z = true
namespace OrdL
variable {α : Type} {lt : α → α → Bool}
theorem asym (h : OrdL lt) {x y : α} (hx : lt x y = true) : lt y x = false := by
 cases e : lt y x with
 | false => rfl
 | true => have := h.tr _ _ _ hx e; rw [h.irr] at this; cases this
def Wk (lt : α → α → Bool) (l : List α) : Prop := l.Pairwise fun a b => lt b a = false
theorem le_tr (h : OrdL lt) {x y z : α} (h1 : lt y x = false) (h2 : lt z y = false) : lt z x = false := by
 cases e : lt z x with
 | false => rfl
 | true =>
  rcases h.neg _ y _ e with g | g
  ·rw [h2] at g; cases g
  ·rw [h1] at g; cases g
theorem one (h : OrdL lt) : ∀ (l l' : List α), l.Pairwise (fun a b => lt a b = true) → Wk lt l' → l'.Perm l → l' = l
 | [], _, _, _, hp => hp.eq_nil
 | _ :: _, [], _, _, hp => by have := hp.length_eq; simp at this
 | x :: l, y :: l', h1, h2, hp => by
  unfold Wk at h2
  rw [List.pairwise_cons] at h1 h2
  have hxy : y = x := by
   rcases List.mem_cons.1 (hp.mem_iff.1 (List.mem_cons_self)) with e | hy
   ·exact e
   ·rcases List.mem_cons.1 (hp.mem_iff.2 (List.mem_cons_self)) with e | hx
    ·exact e.symm
    ·have h3 := h1.1 y hy
     have h4 := h2.1 x hx
     rw [h3] at h4; cases h4
  subst hxy
  rw [one h l l' h1.2 h2.2 (List.perm_cons y |>.1 hp)]
theorem asc_pair (h : OrdL lt) : ∀ (l : List α) (p : α), ascF lt (some p) l = true ↔ (∀ x ∈ l, lt p x = true) ∧ l.Pairwise fun a b => lt a b = true
 | [], p => by simp [ascF]
 | x :: r, p => by
  rw [ascF, Bool.and_eq_true, asc_pair h r x, List.pairwise_cons]
  constructor
  ·rintro ⟨h1, h2, h3⟩
   refine ⟨fun y hy => ?_, h2, h3⟩
   rcases List.mem_cons.1 hy with e | hy
   ·rw [e]; exact h1
   ·exact h.tr _ _ _ h1 (h2 y hy)
  ·rintro ⟨h1, h2, h3⟩
   exact ⟨h1 x (List.mem_cons_self), h2, h3⟩
theorem asc_none (h : OrdL lt) (l : List α) : ascF lt none l = true ↔ l.Pairwise fun a b => lt a b = true := by
 cases l with
 | nil => simp [ascF]
 | cons x r => rw [ascF, h.asc_pair, List.pairwise_cons]
def srt (lt : α → α → Bool) (l : List α) : List α := l.mergeSort fun a b => !lt b a
theorem srt_perm (lt : α → α → Bool) (l : List α) : (srt lt l).Perm l := List.mergeSort_perm l _
theorem srt_wk (h : OrdL lt) (l : List α) : Wk lt (srt lt l) := by
 have := List.pairwise_mergeSort (le := fun a b => !lt b a) (fun a b c h1 h2 => by
  simp only [Bool.not_eq_eq_eq_not, Bool.not_true] at h1 h2 ⊢
  exact h.le_tr h1 h2) (fun a b => by
  cases e : lt b a with
  | false => rfl
  | true => rw [h.asym e]; rfl) l
 exact this.imp fun hx => by simpa using hx
theorem any (h : OrdL lt) {l l' : List α} (hp : l'.Perm l) (hw : Wk lt l') : ascF lt none l' = ascF lt none (srt lt l) ∧ (ascF lt none l' = true → l' = srt lt l) := by
 have hpp : l'.Perm (srt lt l) := hp.trans (srt_perm lt l).symm
 have key : ∀ {a b : List α}, a.Perm b → Wk lt a → ascF lt none b = true → a = b := fun {a b} h1 h2 h3 => h.one b a ((h.asc_none b).1 h3) h2 h1
 have e : ascF lt none l' = ascF lt none (srt lt l) := by
  rw [Bool.eq_iff_iff]
  constructor
  ·intro h1
   rw [← key hpp.symm (h.srt_wk l) h1] at h1
   exact h1
  ·intro h1
   rw [key hpp hw h1]; exact h1
 exact ⟨e, fun h1 => key hpp hw (e ▸ h1)⟩
theorem ins (h : OrdL lt) {a b : List α} {x : α} (hw : Wk lt (a ++ b)) (h1 : ∀ y ∈ a.getLast?, lt x y = false) (h2 : ∀ y ∈ b, lt x y = true) : Wk lt (a ++ [x] ++ b) := by
 unfold Wk at *
 rw [List.pairwise_append] at hw
 obtain ⟨ha, hb, hab⟩ := hw
 have hax : ∀ y ∈ a, lt x y = false := fun y hy => by
  have hne : a ≠ [] := fun e => by rw [e] at hy; cases hy
  have hl := h1 (a.getLast hne) (by rw [List.getLast?_eq_some_getLast hne]; rfl)
  have ha' := ha
  rw [← List.dropLast_concat_getLast hne] at hy ha'
  rw [List.pairwise_append] at ha'
  rcases List.mem_append.1 hy with g | g
  ·exact h.le_tr (ha'.2.2 y g _ (List.mem_singleton.2 rfl)) hl
  ·rw [List.mem_singleton.1 g]; exact hl
 rw [List.append_assoc, List.pairwise_append]
 refine ⟨ha, ?_, ?_⟩
 ·rw [List.singleton_append, List.pairwise_cons]
  exact ⟨fun y hy => h.asym (h2 y hy), hb⟩
 ·intro y hy z hz
  rw [List.singleton_append] at hz
  rcases List.mem_cons.1 hz with e | hz
  ·rw [e]; exact hax y hy
  ·exact hab y hy z hz
end OrdL
theorem attLt_ord : OrdL attLt := ⟨fun x => bl_irr _, fun x y z => bl_trans _ _ _, fun x y z h => by
 unfold attLt at *
 by_cases e : x.name = y.name
 ·rw [← e]; exact .inr h
 ·rcases bl_tri _ _ e with g | g
  ·exact .inl g
  ·exact .inr (bl_trans _ _ _ g h)⟩
theorem acLt_iff (x y : Ac) : acLt x y = true ↔ x.kind < y.kind ∨ x.kind = y.kind ∧ x.id < y.id := by
 unfold acLt
 simp only [Bool.or_eq_true, Bool.and_eq_true, decide_eq_true_eq]
theorem acLt_ord : OrdL acLt := ⟨fun x => by
  cases e : acLt x x with
  | false => rfl
  | true => rw [acLt_iff] at e; omega, fun x y z h1 h2 => by rw [acLt_iff] at *; omega, fun x y z h => by rw [acLt_iff] at *; rw [acLt_iff]; omega⟩
def nrmG {α : Type} (ok : α → Bool) (lt : α → α → Bool) (mx : Nat) (l : List α) : Int × List α :=
 if l.all ok = false then (1, []) else if ascF lt none (OrdL.srt lt l) = false then (6, []) else if mx < l.length then (13, []) else (0, OrdL.srt lt l)
def nrmA (l : List Att) : Int × List Att := nrmG attOK attLt 8 l
def nrmB (l : List Ac) : Int × List Ac :=
 if (nrmG acOK acLt 16 l).1 ≠ 0 then nrmG acOK acLt 16 l else if l.length ≠ 0 ∧ (l.any fun a => decide (a.kind = 3)) = false then (7, []) else nrmG acOK acLt 16 l
section
variable {α : Type} {ok : α → Bool} {lt : α → α → Bool} {mx : Nat} {l : List α}
theorem nrm_bad (h : l.all ok = false) : nrmG ok lt mx l = (1, []) := if_pos h
theorem nrm_dup (h : l.all ok = true) {l' : List α} (ho : OrdL lt) (hp : l'.Perm l) (hw : OrdL.Wk lt l') (hd : ascF lt none l' = false) : nrmG ok lt mx l = (6, []) := by
 unfold nrmG
 rw [if_neg (by rw [h]; decide), if_pos (by rw [← (ho.any hp hw).1]; exact hd)]
theorem nrm_long (h : l.all ok = true) {l' : List α} (ho : OrdL lt) (hp : l'.Perm l) (hw : OrdL.Wk lt l') (hd : ascF lt none l' = true) (hl : mx < l'.length) : nrmG ok lt mx l = (13, []) := by
 unfold nrmG
 rw [if_neg (by rw [h]; decide), if_neg (by rw [← (ho.any hp hw).1, hd]; decide), if_pos (by rw [← hp.length_eq]; exact hl)]
theorem nrm_ok (h : l.all ok = true) {l' : List α} (ho : OrdL lt) (hp : l'.Perm l) (hw : OrdL.Wk lt l') (hd : ascF lt none l' = true) (hl : ¬ mx < l'.length) : nrmG ok lt mx l = (0, l') := by
 unfold nrmG
 rw [if_neg (by rw [h]; decide), if_neg (by rw [← (ho.any hp hw).1, hd]; decide), if_neg (by rw [← hp.length_eq]; exact hl), ← (ho.any hp hw).2 hd]
theorem nrm_zero (h : (nrmG ok lt mx l).1 = 0) : (nrmG ok lt mx l).2.Perm l ∧ l.length ≤ mx := by
 unfold nrmG at *
 split at h
 ·cases h
 ·rename_i h1
  split at h
  ·cases h
  ·rename_i h2
   split at h
   ·cases h
   ·rename_i h3
    rw [if_neg h1, if_neg h2, if_neg h3]
    exact ⟨OrdL.srt_perm lt l, by omega⟩
end
end Eng
end Go.Proofs.YtiebbecknfpdeaaGreatDoor
namespace Go.Proofs.YtiebbecknfpdeaaGreatDoor.Eng
open Go.RowKit
section
open Go.RowKit Go.Shelf Go.Lib Go.Sort
theorem flatK_eq {α : Type} [Inhabited α] {cf : α → List Value} {z : Nat} (hz0 : 0 < z) (hz : ∀ x, (cf x).length = z) (l : List α) : flatK cf z l.toArray = (l.flatMap cf).toArray := by
 have hfl := flat_len hz l
 apply ext_get!
 ·rw [size_flatK, List.size_toArray, List.size_toArray, hfl]
 ·intro t ht
  rw [size_flatK, List.size_toArray] at ht
  rw [get_flatK _ _ _ _ (by rw [List.size_toArray]; exact ht)]
  have hi : t / z < l.length := Nat.div_lt_of_lt_mul (by rwa [Nat.mul_comm] at ht)
  have hj : t % z < z := Nat.mod_lt _ hz0
  have hx : l[t / z]? = some l[t / z] := List.getElem?_eq_getElem hi
  have hd : (l.toArray)[t / z]! = l[t / z] := by rw [getElem!_pos l.toArray (t / z) (by rw [List.size_toArray]; exact hi)]; simp
  have hcl : t % z < (cf l[t / z]).length := by rw [hz]; exact hj
  have hg := flat_get hz hx (j := t % z) (u := (cf l[t / z])[t % z]) (List.getElem?_eq_getElem hcl)
  rw [show t / z * z + t % z = t by rw [Nat.mul_comm]; exact Nat.div_add_mod t z] at hg
  rw [hd, getElem!_pos (cf l[t / z]) (t % z) hcl]
  obtain ⟨h1, h2⟩ := List.getElem?_eq_some_iff.1 hg
  rw [getElem!_pos ((l.flatMap cf).toArray) t (by rw [List.size_toArray]; exact h1)]
  simp [h2]
theorem putId_take {n : Nat} (F : Array Value) (cur : Array Value) (hd : F.size = n) (hn : n ≤ cur.size) : (putCells id 0 F cur).toList.take n = F.toList := by
 apply List.ext_getElem?
 intro k
 by_cases hk : k < n
 ·rw [List.getElem?_take_of_lt hk, Array.getElem?_toList]
  unfold putCells
  rw [Array.getElem?_mapIdx, Array.getElem?_eq_getElem (by omega), Option.map_some, if_pos ⟨Nat.zero_le _, by omega⟩, Array.getElem?_toList, Array.getElem?_eq_getElem (by omega), Nat.sub_zero, getElem!_pos F k (by omega)]
  rfl
 ·rw [List.getElem?_eq_none (by rw [List.length_take]; omega), List.getElem?_eq_none (by rw [Array.length_toList]; omega)]
theorem sortK_does {α : Type} [Inhabited α] {ρ : Ren} (L : Go.Proofs.SlLaysF0.n6 Tryz.prog ρ) {cf : α → List Value} {z : Nat} (hz0 : 0 < z) (hz : ∀ x, (cf x).length = z) (h1 : ∀ x, ∀ v ∈ cf x, v.oneCell' = true) {e : TypeId} (aE : ∀ w, (isAgg (ρ.t 24)).run Tryz.prog w = .ok true w) (zE : ∀ w, (Go.sizeOf (ρ.t 24)).run Tryz.prog w = .ok z w) (cm : α → α → Int) (hO : SWO (ltOf cm)) (g : FuncId) (eg : ∀ args w, (callFunc g args).run Tryz.prog w = .ok (.enter g args) w)
  (hc : ∀ (w : World) (x y : α), Calls Tryz.prog g #[.agg (cf x).toArray, .agg (cf y).toArray] w fun e w' => e = .returned (.int .i64 (cm x y)) ∧ ∃ q os', w' = grow (w.drewN q) os')
  (w : World) (B : Nat) (v : Value) (l : List α) (hv : Ow cf z w B e v l) (h0 : l ≠ []) (hn : l.length ≤ 1000000) :
  Does Tryz.prog (ρ.f 6) #[v, .func (.func g) #[] #[]] w fun _ w' => (∃ l', l'.Perm l ∧ l'.Pairwise (fun a b => ¬ cm b a < 0) ∧ Ow cf z w' B e v l') ∧ Fr (fun b => v.ownBlock = some b) w w' := by
 obtain ⟨hlen, hOw⟩ := hv
 rcases hOw with ⟨rfl, hzz⟩ | ⟨b, cap, cur, rfl, hB, hh, h3, h4, h5, h6⟩
 ·exact absurd (List.length_eq_zero_iff.1 hzz) h0
 have hlt : b < w.heap.size := Blk.lt (t := e) (cs := cur) hh
 have hflat := flatK_eq hz0 hz l
 have hfl := flat_len hz l
 have hcs : l.length * z ≤ cur.size := by
  have := congrArg List.length h6
  rw [List.length_take, hfl, Array.length_toList] at this
  exact Nat.le_trans (Nat.le_of_eq this.symm) (Nat.min_le_right _ _)
 have hH : HoldsK cf z w b 0 l.toArray := by
  unfold HoldsK
  rw [hflat]
  intro j hj
  rw [List.size_toArray, hfl] at hj
  refine ⟨?_, ?_⟩
  ·have := Blk.cell (t := e) (cs := cur) hh (0 + j)
   rw [this, Nat.zero_add]
   have e1 : (cur.toList.take (l.length * z))[j]? = (l.flatMap cf)[j]? := by rw [h6]
   rw [List.getElem?_take_of_lt hj, Array.getElem?_toList] at e1
   rw [e1, getElem!_pos ((l.flatMap cf).toArray) j (by rw [List.size_toArray, hfl]; exact hj), List.getElem?_eq_getElem (by rw [hfl]; exact hj)]
   simp
  ·simp only [World.frozen?, hh]
   simp
 have hcmp : CmpLays Tryz.prog g #[] cf z cm b 0 l.toArray.size w := fun m os dk _ x y => hc (sortWorldK cf z w b 0 m dk os) x y
 have hcall := AnyQ.slices_SortFunc L z aE zE cf hz h1 cm hO g #[] b 0 cap l.toArray w eg hcmp hH hlt (by rw [List.size_toArray]; omega)
 rw [List.size_toArray] at hcall
 refine Calls.mono hcall fun e' w' ⟨he, d', n, os, hp, hs, hw⟩ => ?_
 refine ⟨.tuple #[], he, ?_, ?_⟩
 ·obtain ⟨hsz, _, hperm⟩ := hp
  have hsz' : d'.size = l.length := by rw [hsz, List.size_toArray]
  have hdf : flatK cf z d' = (d'.toList.flatMap cf).toArray := by
   have := flatK_eq hz0 hz d'.toList
   simpa using this
  have hdl : (d'.toList.flatMap cf).length = l.length * z := by rw [flat_len hz, Array.length_toList, hsz']
  refine ⟨d'.toList, ?_, ?_, ?_⟩
  ·have e1 : (d'.extract 0 l.length).toList = d'.toList := by rw [← hsz']; simp
   have e2 : (l.toArray.extract 0 l.length).toList = l := by simp
   rw [e1, e2] at hperm
   exact hperm
  ·rw [List.pairwise_iff_getElem]
   intro i j hi hj hij
   have hi' : i < d'.size := by simpa using hi
   have hj' : j < d'.size := by simpa using hj
   have := hs i j (Nat.zero_le _) hij (by omega)
   rw [getElem!_pos d' j hj', getElem!_pos d' i hi'] at this
   unfold ltOf at this
   simp only [decide_eq_false_iff_not] at this
   simpa only [Array.getElem_toList] using this
  ·have hb2 : w'.heap[b]? = some (.cells (putCells id 0 (flatK cf z d') cur) e (0, 0)) := by
    rw [hw]
    unfold sortWorldK putRowK
    rw [heap_grow_old _ _ (by simpa [putRow, mapBlock] using hlt)]
    simp only [putRow, mapBlock, Array.getElem?_modify, if_true, heap_ahead, hh, Option.map_some, onCells]
   have hps : (putCells id 0 (flatK cf z d') cur).size = cur.size := by simp [putCells]
   refine ⟨?_, .inr ⟨b, cap, putCells id 0 (flatK cf z d') cur, ?_, hB, hb2, ?_, h4, ?_, ?_⟩⟩
   ·rw [hdl]; simp [hsz']
   ·simp [hsz']
   ·simpa [hsz'] using h3
   ·rw [hps]; exact h5
   ·rw [Array.length_toList, hsz', putId_take _ _ (by rw [size_flatK, hsz']) hcs, hdf]
 ·rw [hw]
  unfold sortWorldK putRowK
  refine ⟨rfl, rfl, rfl, by simp, fun k hk hne => ?_⟩
  have hkb : k ≠ b := fun e => hne (by rw [e]; rfl)
  rw [heap_grow_old _ _ (by simpa [putRow, mapBlock] using hk)]
  simp only [putRow, mapBlock, Array.getElem?_modify, if_neg (Ne.symm hkb), heap_ahead]
theorem grown_of {w w' : World} (hE : Ext w w') (hd : w.drawn ≤ w'.drawn) : ∃ q os', w' = grow (w.drewN q) os' := by
 refine ⟨w'.drawn - w.drawn, w'.heap.extract w.heap.size w'.heap.size, ?_⟩
 obtain ⟨h1, h2, h3, h4, h5⟩ := hE
 have hh : w'.heap = w.heap ++ w'.heap.extract w.heap.size w'.heap.size := by
  apply Array.ext
  ·rw [Array.size_append, Array.size_extract]; omega
  ·intro i hi1 hi2
   by_cases h : i < w.heap.size
   ·have := h5 i h (fun h => h)
    rw [Array.getElem?_eq_getElem hi1, Array.getElem?_eq_getElem h] at this
    rw [Array.getElem_append_left h]
    exact Option.some.inj this
   ·rw [Array.getElem_append_right (by omega), Array.getElem_extract]
    congr 1
    omega
 obtain ⟨heap, tape, drawn, os, output⟩ := w
 obtain ⟨heap', tape', drawn', os', output'⟩ := w'
 dsimp only at h1 h2 h3 hh hd
 subst h1; subst h2; subst h3
 show _ = (⟨heap ++ _, tape', drawn + (drawn' - drawn), os', output'⟩ : World)
 rw [Nat.add_sub_cancel' hd]
 congr 1
section
variable {hs : List Nat} {H : World → Prop} {full : Array Oper} {K : Env → World → Prop} {rest : List Oper} {env : Env} {w : World} {d : Tmp} {ty : TypeId} {pos : String} {af : Array Edge}
theorem xboxD {t : TypeId} {x : Operand} {v : Value} (hx : evo env x = some v)
  (h : ∀ w', Blk w' w.heap.size t v.cells → Ext w w' → w'.heap.size = w.heap.size + 1 → w'.drawn = w.drawn → xs Tryz.prog isI isS hs H full K rest ((d, .pointer (some ⟨w.heap.size, 0, none⟩)) :: env) w') (hH : ∀ w', Ext w w' → H w' := by intros; trivial) :
  xs Tryz.prog isI isS hs H full K (⟨some d, .box t x, ty, pos, af, none⟩ :: rest) env w := by
 refine xw (by simp [opsOK, Op.operands, hx]) rfl (v := .pointer (some ⟨w.heap.size, 0, none⟩)) (w' := w.alloc (.cells v.cells t)) ?_ (h _ (Blk.new _ _ _) (Fr.alloc _ _ _) (by simp) rfl) (hH _ (Fr.alloc _ _ _))
 simp [execOp, ev_of hx, Instr.box, newVar, newRow]
end
def cmpS (a b : Str) : Int := if Op.bytesLess a b then -1 else if Op.bytesLess b a then 1 else 0
theorem cmpS_lt (a b : Str) : cmpS a b < 0 ↔ Op.bytesLess a b = true := by
 unfold cmpS
 split
 ·rename_i h; exact ⟨fun _ => h, fun _ => by decide⟩
 ·rename_i h
  split
  ·exact ⟨fun h => by omega, fun h' => absurd h' h⟩
  ·exact ⟨fun h => by omega, fun h' => absurd h' h⟩
def cmA (x y : Att) : Int := cmpS x.name y.name
theorem swoS {α : Type} (f : α → Str) (cm : α → α → Int) (h : ∀ x y, cm x y < 0 ↔ Op.bytesLess (f x) (f y) = true) : SWO (ltOf cm) := by
 have e : ∀ x y, ltOf cm x y = Op.bytesLess (f x) (f y) := fun x y => by
  unfold ltOf
  rw [Bool.eq_iff_iff, decide_eq_true_eq]
  exact h x y
 refine ⟨fun x => by rw [e]; exact bl_irr _, fun x y z h1 h2 => ?_, fun x y z h1 h2 => ?_⟩
 ·rw [e] at *; exact bl_trans _ _ _ h1 h2
 ·rw [e] at *
  cases h3 : Op.bytesLess (f x) (f z) with
  | false => rfl
  | true =>
   by_cases hxy : f x = f y
   ·rw [hxy, h2] at h3; cases h3
   ·rcases bl_tri _ _ hxy with h4 | h4
    ·rw [h1] at h4; cases h4
    ·have := bl_trans _ _ _ h4 h3
     rw [h2] at this; cases this
theorem cmA_swo : SWO (ltOf cmA) := swoS (fun x : Att => x.name) cmA fun x y => cmpS_lt x.name y.name
attribute [local irreducible] xs T
theorem isnans_does (w : World) (a : Str) : Does Tryz.prog 208 #[.string (su a)] w fun r w' => r = .bool false ∧ w = w' := by
 refine does1 Tryz.func208 rfl (by kernel_rfl) ?_
 repeat' (first | refine xucmp (op := .neq) (a := a) (b := a) (r := false) rfl rfl (by simp [cmpU]) ?_ | refine go1L ?_ | fail)
 exact y10
theorem cmps_does (w : World) (a b : Str) : Does Tryz.prog 184 #[.string (su a), .string (su b)] w fun r w' => r = .int .i64 (cmpS a b) ∧ w = w' := by
 refine does2 Tryz.func184 rfl (by kernel_rfl) ?_
 refine goL ?_
 refine xcallE rfl rfl (isnans_does w a) (fun r w1 h1 => ?_)
 obtain ⟨rfl, rfl⟩ := h1
 refine goL ?_
 refine xcallE rfl rfl (isnans_does w b) (fun r w1 h1 => ?_)
 obtain ⟨rfl, rfl⟩ := h1
 unfold cmpS
 cases h1 : Op.bytesLess a b with
 | true =>
  rw [if_pos rfl]
  repeat' (first | refine xucmp (op := .lss) (a := a) (b := b) (r := true) rfl rfl (by simp [cmpU, h1]) ?_ | refine go1L ?_ | fail)
  exact y10
 | false =>
  rw [if_neg (by decide)]
  cases h2 : Op.bytesLess b a with
  | true =>
   have hne : ¬ a = b := fun e => by rw [e, bl_irr] at h2; cases h2
   rw [if_pos rfl]
   repeat' (first | refine xucmp (op := .lss) (a := a) (b := b) (r := false) rfl rfl (by simp [cmpU, h1]) ?_ | refine xucmp (op := .gtr) (a := a) (b := b) (r := true) rfl rfl (by simp [cmpU, h1, hne]) ?_ | refine go1L ?_ | fail)
   exact y10
  | false =>
   have he : a = b := by
    by_cases h : a = b
    ·exact h
    ·rcases bl_tri a b h with h3 | h3
     ·rw [h1] at h3; cases h3
     ·rw [h2] at h3; cases h3
   rw [if_neg (by decide)]
   repeat' (first | refine xucmp (op := .lss) (a := a) (b := b) (r := false) rfl rfl (by simp [cmpU, h1]) ?_ | refine xucmp (op := .gtr) (a := a) (b := b) (r := false) rfl rfl (by simp [cmpU, he]) ?_ | refine go1L ?_ | fail)
   exact y10
theorem norm1a_does (w : World) (x y : Att) : Does Tryz.prog 183 #[.agg (attC x).toArray, .agg (attC y).toArray] w fun r w' => r = .int .i64 (cmA x y) ∧ Ext w w' ∧ w.drawn ≤ w'.drawn := by
 refine does2 Tryz.func183 rfl (by kernel_rfl) ?_
 refine goL ?_
 refine xboxD rfl (fun w1 hB1 hE1 hs1 hd1 => ?_)
 refine goL ?_
 refine xboxD rfl (fun w2 hB2 hE2 hs2 hd2 => ?_)
 have k1 : w2.cell? ⟨w.heap.size, 0, none⟩ = some (.string (su x.name)) := (Blk.ext hB1 hE2).cell 0
 have k2 : w2.cell? ⟨w1.heap.size, 0, none⟩ = some (.string (su y.name)) := Blk.cell hB2 0
 refine goL ?_
 refine xcallE rfl rfl (cmps_does w2 x.name y.name) (fun r w3 h3 => ?_)
 obtain ⟨rfl, rfl⟩ := h3
 refine goL ?_
 exact tret1 rfl rfl ⟨rfl, hE1.t hE2, by omega⟩
theorem sortA_does (w : World) (B : Nat) (v : Value) (l : List Att) (hv : Ow attC 2 w B 101 v l) (h0 : l ≠ []) (hn : l.length ≤ 1000000) :
  Does Tryz.prog 182 #[v, .func (.func 183) #[] #[]] w fun _ w' => (∃ l', l'.Perm l ∧ l'.Pairwise (fun a b => ¬ cmA b a < 0) ∧ Ow attC 2 w' B 101 v l') ∧ Fr (fun b => v.ownBlock = some b) w w' :=
 sortK_does sortA (by decide) attC_len (fun x v hv => by
  simp only [attC, List.mem_cons, List.not_mem_nil, or_false] at hv
  rcases hv with rfl | rfl <;> rfl) (fun w => Tryz.isAgg101 w) (fun w => Tryz.sizeOf101 w) cmA cmA_swo 183 (enters_of Tryz.func183 (by kernel_rfl) rfl)
  (fun w x y => Calls.mono (norm1a_does w x y) fun e w' ⟨u, he, hr, hE, hd⟩ => by
   subst hr
   exact ⟨he, grown_of hE hd⟩) w B v l hv h0 hn
end
section
open Go.RowKit Go.Shelf Go.Lib Go.Sort
section
variable {hs : List Nat} {H : World → Prop} {full : Array Oper} {K : Env → World → Prop} {rest : List Oper} {env : Env} {w : World} {d : Tmp} {ty : TypeId} {pos : String} {af : Array Edge}
theorem xbsD {t e : TypeId} {z : Value} {bytes n : Nat} {parts : List (Nat × Operand)} {vs : List Value} (hT : SlT t e z 1 bytes) (hp : evp env 0 parts = some vs) (hn : vs.length = n) (h0 : 0 < n) (hn2 : n ≤ 16777216) (h1 : ∀ u ∈ vs, u.oneCell' = true)
  (h : ∀ w', Blk w' w.heap.size e vs.toArray → Ext w w' → w'.drawn = w.drawn → xs Tryz.prog isI isS hs H full K rest ((d, .slice (some ⟨w.heap.size, 0, none⟩) n n) :: env) w') (hH : ∀ w', Ext w w' → H w' := by intros; trivial) :
  xs Tryz.prog isI isS hs H full K (⟨some d, .buildSlice t n parts.toArray, ty, pos, af, none⟩ :: rest) env w := by
 obtain ⟨hu, i, hi, hz, hs, hby⟩ := hT
 obtain ⟨he, ho⟩ := evp_spec hp
 refine xw (by simp only [opsOK, Op.operands]; rw [List.all_eq_true]; intro x hx; simp at hx; obtain ⟨j, hj⟩ := hx; exact ho _ hj) rfl (v := .slice (some ⟨w.heap.size, 0, none⟩) n n) (w' := w.alloc (.cells vs.toArray e)) ?_ (h _ (Blk.new _ _ _) (Fr.alloc _ _ _) rfl) (hH _ (Fr.alloc _ _ _))
 have hr := run_buildSlice (P := Tryz.prog) w t e n ((parts.map fun p => (p.1, ev env p.2)).toArray) vs.toArray i z hu hi hz (by rw [hs]; omega) (by rw [hs]; omega) (by
  rw [hs]
  show Instr.fill _ _ (parts.map fun p => (p.1, ev env p.2)) = _
  rw [he]
  exact Great.fill_flat _ _ (fun v hv => by have := h1 v hv; cases v <;> first | rfl | cases this) (by simp [hn]))
 have e2 : (parts.toArray.map fun x => match x with | (i, x) => (i, ev env x)) = (parts.map fun p => (p.1, ev env p.2)).toArray := by simp
 simp only [execOp]
 rw [e2]
 simp [hr]
end
theorem cmpA_swo : SWO (ltOf cmpA) := by
 have e : ∀ x y, ltOf cmpA x y = decide (x.kind < y.kind ∨ x.kind = y.kind ∧ x.id < y.id) := fun x y => by
  unfold ltOf
  have := cmpA_lt x y
  unfold acLt at this
  simp only [Bool.or_eq_true, Bool.and_eq_true, decide_eq_true_eq] at this
  rw [Bool.eq_iff_iff, decide_eq_true_eq, decide_eq_true_eq]
  exact this.symm
 refine ⟨fun x => ?_, fun x y z h1 h2 => ?_, fun x y z h1 h2 => ?_⟩
 ·rw [e]; simp only [decide_eq_false_iff_not]; omega
 ·rw [e] at *; simp only [decide_eq_true_eq] at *; omega
 ·rw [e] at *; simp only [decide_eq_false_iff_not] at *; omega
attribute [local irreducible] xs T
theorem accmpD_does (w : World) (a b : Ac) : Does Tryz.prog 187 #[.agg (acC a).toArray, .agg (acC b).toArray] w fun r w' => r = .int .i64 (cmpA a b) ∧ Ext w w' ∧ w.drawn ≤ w'.drawn := by
 refine does2 Tryz.func187 rfl (by kernel_rfl) ?_
 refine goL ?_
 refine xboxD rfl (fun w1 hB1 hE1 hs1 hd1 => ?_)
 refine goL ?_
 refine xboxD rfl (fun w2 hB2 hE2 hs2 hd2 => ?_)
 have hA : Blk w2 w.heap.size 103 #[.int .i64 a.kind, .int .i64 a.id, .int .i64 a.perm] := hB1.ext hE2
 have hB : Blk w2 w1.heap.size 103 #[.int .i64 b.kind, .int .i64 b.id, .int .i64 b.perm] := hB2
 have a0 : w2.drew.cell? ⟨w.heap.size, 0, none⟩ = some (.int .i64 a.kind) := hA.cell 0
 have a1 : w2.drew.cell? ⟨w.heap.size, 1, none⟩ = some (.int .i64 a.id) := hA.cell 1
 have b0 : w2.drew.cell? ⟨w1.heap.size, 0, none⟩ = some (.int .i64 b.kind) := hB.cell 0
 have b1 : w2.drew.cell? ⟨w1.heap.size, 1, none⟩ = some (.int .i64 b.id) := hB.cell 1
 have hdd : w2.drawn ≤ w2.drew.drawn := Nat.le_succ _
 refine goL ?_
 refine tdrawH [11, 13] (fun w' => w'.cell? ⟨w.heap.size, 1, none⟩ = some (.int .i64 a.id) ∧ w'.cell? ⟨w1.heap.size, 1, none⟩ = some (.int .i64 b.id)) (by kernel_rfl) (by decide +kernel) ⟨a1, b1⟩ ?_
 refine goL ?_
 refine xcall rfl rfl (compare_does w2.drew a.kind b.kind) ?_ ?_
 ·rintro r w3 ⟨rfl, rfl⟩
  repeat' (first | refine xldh rfl rfl (fun w' h => h.1) ?_ | refine xldh rfl rfl (fun w' h => h.2) ?_ | refine go1L ?_ | fail)
  refine xcall rfl rfl (compare_does w2.drew a.id b.id) ?_ ?_
  ·rintro r w3 ⟨rfl, rfl⟩
   refine goL ?_
   refine xbsD (vs := [.int .i64 (cmpZ a.kind b.kind), .int .i64 (cmpZ a.id b.id)]) sl_ints rfl rfl (by decide) (by decide) (fun u hu => by
    simp only [List.mem_cons, List.not_mem_nil, or_false] at hu
    rcases hu with rfl | rfl <;> rfl) (fun w3 hB3 hE3 hd3 => ?_) (fun w' h => ⟨h.cell a1, h.cell b1⟩)
   refine goL ?_
   refine xcall rfl rfl (or2_does w3 _ 0 2 (cmpZ a.kind b.kind) (cmpZ a.id b.id) (hB3.cell 0) (hB3.cell 1)) ?_ ?_
   ·rintro r w4 ⟨rfl, rfl⟩
    refine goL ?_
    exact tret1 rfl rfl ⟨rfl, hE1.t (hE2.d.t hE3), by omega⟩
   ·rintro r w4 ⟨_, rfl⟩
    exact ⟨hE3.cell a1, hE3.cell b1⟩
  ·rintro r w3 ⟨_, rfl⟩
   exact ⟨a1, b1⟩
 ·rintro r w3 ⟨_, rfl⟩
  exact ⟨a1, b1⟩
theorem sortB_does (w : World) (B : Nat) (v : Value) (l : List Ac) (hv : Ow acC 3 w B 103 v l) (h0 : l ≠ []) (hn : l.length ≤ 1000000) :
  Does Tryz.prog 186 #[v, .func (.func 187) #[] #[]] w fun _ w' => (∃ l', l'.Perm l ∧ l'.Pairwise (fun a b => ¬ cmpA b a < 0) ∧ Ow acC 3 w' B 103 v l') ∧ Fr (fun b => v.ownBlock = some b) w w' :=
 sortK_does sortB (by decide) acC_len (fun x v hv => by
  simp only [acC, List.mem_cons, List.not_mem_nil, or_false] at hv
  rcases hv with rfl | rfl | rfl <;> rfl) (fun w => Tryz.isAgg103 w) (fun w => Tryz.sizeOf103 w) cmpA cmpA_swo 187 (enters_of Tryz.func187 (by kernel_rfl) rfl)
  (fun w x y => Calls.mono (accmpD_does w x y) fun e w' ⟨u, he, hr, hE, hd⟩ => by
   subst hr
   exact ⟨he, grown_of hE hd⟩) w B v l hv h0 hn
end
section
open Go.RowKit Go.Shelf Go.Lib Go.Sort
theorem len0_does (w : World) : Does Tryz.prog 199 #[.int .u64 0] w fun r w' => r = .int .i64 0 ∧ w = w' := by
 have h := Any.bits_Len (SlLaysF0.n15.bits (P := Tryz.prog) { sortA with }) (0 : Int) w (by omega) (by omega)
 refine Calls.mono h fun e w' ⟨he, hw⟩ => ⟨_, he, ?_, hw.symm⟩
 rfl
attribute [local irreducible] xs T
theorem insA0_does (w : World) (g : Value) : Does Tryz.prog 228 #[.slice none 0 0, .int .i64 0, .int .i64 0, g] w fun _ w' => Ext w w' := by
 refine does4 Tryz.func228 rfl (by kernel_rfl) ?_
 exact y57
theorem pdqA0_does (w : World) (g : Value) : Does Tryz.prog 207 #[.slice none 0 0, .int .i64 0, .int .i64 0, .int .i64 0, g] w fun _ w' => Ext w w' := by
 refine does5 Tryz.func207 rfl (by kernel_rfl) ?_
 refine goL ?_
 refine tloop (α := Unit) (fun _ => [(0, .slice none 0 0), (1, .int .i64 0), (2, .int .i64 0), (4, g)]) (fun _ w' => w = w') (fun _ => 0) () (sub ⟨rfl, rfl, rfl, rfl⟩) rfl ?_
 rintro _ w' rfl
 refine goL ?_
 refine xcallE rfl rfl (insA0_does w g) (fun r w1 h1 => ?_)
 refine goL ?_
 exact tret0 rfl h1
theorem sortA0_does (w : World) (g : Value) : Does Tryz.prog 182 #[.slice none 0 0, g] w fun _ w' => Ext w w' := by
 refine does2 Tryz.func182 rfl (by kernel_rfl) ?_
 refine goLU ?_
 refine xcallE rfl rfl (len0_does w) (fun r w1 h1 => ?_)
 obtain ⟨rfl, rfl⟩ := h1
 refine goL ?_
 refine xcallE rfl rfl (pdqA0_does w g) (fun r w1 h1 => ?_)
 refine goL ?_
 exact tend0 rfl h1
theorem insB0_does (w : World) (g : Value) : Does Tryz.prog 236 #[.slice none 0 0, .int .i64 0, .int .i64 0, g] w fun _ w' => Ext w w' := by
 refine does4 Tryz.func236 rfl (by kernel_rfl) ?_
 exact y57
theorem pdqB0_does (w : World) (g : Value) : Does Tryz.prog 209 #[.slice none 0 0, .int .i64 0, .int .i64 0, .int .i64 0, g] w fun _ w' => Ext w w' := by
 refine does5 Tryz.func209 rfl (by kernel_rfl) ?_
 refine goL ?_
 refine tloop (α := Unit) (fun _ => [(0, .slice none 0 0), (1, .int .i64 0), (2, .int .i64 0), (4, g)]) (fun _ w' => w = w') (fun _ => 0) () (sub ⟨rfl, rfl, rfl, rfl⟩) rfl ?_
 rintro _ w' rfl
 refine goL ?_
 refine xcallE rfl rfl (insB0_does w g) (fun r w1 h1 => ?_)
 refine goL ?_
 exact tret0 rfl h1
theorem sortB0_does (w : World) (g : Value) : Does Tryz.prog 186 #[.slice none 0 0, g] w fun _ w' => Ext w w' := by
 refine does2 Tryz.func186 rfl (by kernel_rfl) ?_
 refine goLU ?_
 refine xcallE rfl rfl (len0_does w) (fun r w1 h1 => ?_)
 obtain ⟨rfl, rfl⟩ := h1
 refine goL ?_
 refine xcallE rfl rfl (pdqB0_does w g) (fun r w1 h1 => ?_)
 refine goL ?_
 exact tend0 rfl h1
end
section
section
variable {hs : List Nat} {H : World → Prop} {full : Array Oper} {K : Env → World → Prop} {rest : List Oper} {env : Env} {w : World} {d : Tmp} {ty : TypeId} {pos : String} {af : Array Edge}
theorem xapn {t e : TypeId} {z : Value} {size bytes m c : Nat} {s x : Operand} {A : Option Addr} {news : List Value} (hT : SlT t e z size bytes) (hzc : z.cells.size = size) (hsz : 0 < size) (hss : evo env s = some (.slice none 0 0)) (hx : evo env x = some (.slice A m c))
  (hr : Row w (.slice A m c) m news) (hl : news.length = m * size) (h1 : ∀ u ∈ news, u.oneCell' = true) (h63 : m ≤ maxLen) (hbytes : m * bytes ≤ 140737488355328)
  (h : ∀ v' w', OwnZ w' w.heap.size e size v' m news → (m = 0 → v' = .slice none 0 0) → Ext w w' → xs Tryz.prog isI isS hs H full K rest ((d, v') :: env) w') (hH : ∀ w', Ext w w' → H w' := by intros; trivial) :
  xs Tryz.prog isI isS hs H full K (⟨some d, .call { callee := .builtin .append, args := ⟨[s, x]⟩, argTypes := ⟨[t, t]⟩ }, ty, pos, af, none⟩ :: rest) env w := by
 rcases Nat.eq_zero_or_pos m with h0 | h0
 ·subst h0
  have hn : news = [] := List.eq_nil_of_length_eq_zero (by omega)
  subst hn
  obtain ⟨hu, i, hi, hz, hsi, hby⟩ := hT
  have hrun : (Builtin.append_ #[t, t] ty #[.slice none 0 0, .slice A 0 c]).run Tryz.prog w = .ok (.slice none 0 0) w := by
   cases A <;> simp [Builtin.append_, run_underlying hu, sizeOf, typeInfo, hi, Builtin.lenOf, Builtin.firstCells, loadCells, loadCellsFrom]
  refine xw (by simp [opsOK, Op.operands, Call.operands, hss, hx]) rfl (v := .slice none 0 0) (w' := w) ?_ (h _ _ (OwnZ.nil _ _ _ _) (fun _ => rfl) (Fr.refl _ _)) (hH _ (Fr.refl _ _))
  simp [execOp, resolve, invoke, builtin, ev_of hss, ev_of hx, hrun]
 ·refine xapz (B := w.heap.size) hT hzc hsz hss (OwnZ.nil w w.heap.size e size) hx hr hl h1 (by omega) (by rw [Nat.zero_add]; exact hbytes) (Nat.le_refl _) (fun v' w' hO hF _ => h v' w' ?_ (fun e => by omega) (hF.mono fun j _ he => by cases he)) (fun w' hF => hH w' (hF.mono fun j _ he => by cases he))
  rw [Nat.zero_add] at hO
  exact hO
end
theorem wk_get {α : Type} {lt : α → α → Bool} {l : List α} (h : OrdL.Wk lt l) {i j : Nat} {a b : α} (ha : l[i]? = some a) (hb : l[j]? = some b) (hij : i < j) : lt b a = false := by
 obtain ⟨h1, rfl⟩ := List.getElem?_eq_some_iff.1 ha
 obtain ⟨h2, rfl⟩ := List.getElem?_eq_some_iff.1 hb
 exact (List.pairwise_iff_getElem.1 h) i j h1 h2 hij
theorem asc_step {α : Type} {lt : α → α → Bool} {l : List α} {i : Nat} {x y : α} (hy : l[i]? = some y) (hx : l[i + 1]? = some x) : ascF lt (prevO l (i + 1)) (l.drop (i + 1)) = (lt y x && ascF lt (prevO l (i + 1 + 1)) (l.drop (i + 1 + 1))) := by
 have e : prevO l (i + 1) = some y := hy
 rw [drop_get hx, prev_next hx, e]
 rfl
theorem asc_first {α : Type} {lt : α → α → Bool} (l : List α) : ascF lt (prevO l 1) (l.drop 1) = ascF lt none l := by
 cases l with
 | nil => rfl
 | cons x r => rfl
theorem asc_done {α : Type} {lt : α → α → Bool} {l : List α} {i : Nat} (h : l.length ≤ i) : ascF lt (prevO l i) (l.drop i) = true := by
 rw [List.drop_eq_nil_of_le h]
 cases prevO l i <;> rfl
theorem any_perm {α : Type} {a b : List α} (h : a.Perm b) (f : α → Bool) : a.any f = b.any f := by
 rw [Bool.eq_iff_iff, List.any_eq_true, List.any_eq_true]
 exact ⟨fun ⟨x, h1, h2⟩ => ⟨x, h.mem_iff.1 h1, h2⟩, fun ⟨x, h1, h2⟩ => ⟨x, h.mem_iff.2 h1, h2⟩⟩
theorem nrmB_bad {l : List Ac} {k : Int} (h : nrmG acOK acLt 16 l = (k, [])) (hk : k ≠ 0) : nrmB l = (k, []) := by
 unfold nrmB
 rw [h, if_pos hk]
theorem cmpA_ne {y x : Ac} (h : cmpA y x ≠ 0) (hw : acLt x y = false) : acLt y x = true := by
 have h1 : ¬ (x.kind < y.kind ∨ x.kind = y.kind ∧ x.id < y.id) := fun hh => by rw [(acLt_iff x y).2 hh] at hw; cases hw
 rw [acLt_iff]
 have hk := cmpZ_zero y.kind x.kind
 have hi := cmpZ_zero y.id x.id
 unfold cmpA at h
 split at h <;> omega
structure NrmI {α : Type} (cf : α → List Value) (z : Nat) (e : TypeId) (lt : α → α → Bool) (l : List α) (w : World) (x : Nat × Value × List α) (w' : World) : Prop where
 perm : x.2.2.Perm l
 wk : OrdL.Wk lt x.2.2
 own : Ow cf z w' w.heap.size e x.2.1 x.2.2
 ext : Ext w w'
 pos : 1 ≤ x.1
 go : ascF lt (prevO x.2.2 x.1) (x.2.2.drop x.1) = ascF lt none x.2.2
attribute [local irreducible] xs T
theorem anorm_does (w : World) (v : Value) (l : List Att) (hv : Rw attC w v l) (hn : l.length ≤ 100000) : Does Tryz.prog 149 #[v] w fun r w' => ∃ vo, r = .tuple #[vo, .int .i64 (nrmA l).1] ∧ Ow attC 2 w' w.heap.size 101 vo (nrmA l).2 ∧ Ext w w' := by
 refine does1 Tryz.func149 rfl (by kernel_rfl) ?_
 obtain ⟨A, c, rfl, hc1, hc2, hA⟩ := hv.op attC_len
 refine goL ?_
 refine tscope2 (α := Nat) (β := Nat × Value × List Att) 0 1 (by decide) rfl rfl
  (fun i => [(0, .slice A l.length c), (4, .int .i64 (i : Int))]) (fun i w' => Ext w w' ∧ i ≤ l.length ∧ (l.drop i).all attOK = l.all attOK) (fun i => l.length - i + l.length + 2)
  (fun x => [(4, .int .i64 (x.1 : Int)), (5, x.2.1)]) (fun x w' => NrmI attC 2 101 attLt l w x w' ∧ l.all attOK = true) (fun x => l.length + 1 - x.1) ?_ ?_ ?_
 ·rintro i w1 ⟨hE, hi, hgo⟩ hj
  by_cases hlt : i < l.length
  ·obtain ⟨b, o, x, rfl, _, hx, hdr, hcell⟩ := hA.at_ hlt
   rw [hdr, List.all_cons] at hgo
   refine gz4 ?_
   refine xldz (cs := attC x) rfl rfl (fun j u hu => hE.cell (hcell j u hu)) ?_
   refine xcallE rfl rfl (attgood_does w1 x) (fun r w2 h2 => ?_)
   obtain ⟨rfl, hE2⟩ := h2
   cases hg : attOK x with
   | false =>
    have hb : l.all attOK = false := by rw [← hgo, hg]; rfl
    have e : nrmA l = (1, []) := nrm_bad hb
    rw [e]
    refine goL ?_
    exact tret2 rfl rfl rfl ⟨_, rfl, Ow.nil _ _ _, hE.t hE2⟩
   | true =>
    exact y45
  ·obtain rfl : i = l.length := by omega
   rw [List.drop_length] at hgo
   refine goL ?_
   refine xapn (news := l.flatMap attC) sl_atts rfl (by decide) rfl rfl (Row.ext hv hE) (flat_len attC_len _) (attC_one _) (by unfold maxLen; omega) (by omega) (fun v2 w2 hO2 hz2 hE2 => ?_)
   have hO2' : Ow attC 2 w2 w1.heap.size 101 v2 l := hO2
   have hE02 := hE.t hE2
   have z1 := hE.size
   have key : ∀ (s : List Att) (w3 : World), s.Perm l → OrdL.Wk attLt s → Ow attC 2 w3 w1.heap.size 101 v2 s → Ext w w3 → (NrmI attC 2 101 attLt l w (1, v2, s) w3 ∧ l.all attOK = true) := fun s w3 h1 h2 h3 h4 =>
    ⟨⟨h1, h2, h3.mono z1, h4, Nat.le_refl _, asc_first s⟩, by rw [← hgo]; rfl⟩
   by_cases h0 : l = []
   ·have e0 := hz2 (by rw [h0]; rfl)
    subst e0
    refine goL ?_
    refine xcallE rfl rfl (sortA0_does w2 _) (fun r w3 hE3 => ?_)
    exact y41
   ·refine goL ?_
    refine xcallE rfl rfl (sortA_does w2 w1.heap.size v2 l hO2' h0 (by omega)) (fun r w3 h3 => ?_)
    obtain ⟨⟨s, hp, hs, hO3⟩, hF3⟩ := h3
    refine goL ?_
    refine tlabel ?_
    exact tweak (hj (1, v2, s) w3 (key s w3 hp (hs.imp fun {a b} h => by
     cases e : attLt b a with
     | false => rfl
     | true => exact absurd ((cmpS_lt b.name a.name).2 e) h) hO3 (Ext.te hE02 hF3 fun j hj e => by have := (hO2'.blk e).1; omega)) (by show l.length + 1 - 1 < l.length - l.length + l.length + 2; omega)) (sub ⟨rfl, rfl⟩)
 ·rintro ⟨i, v5, s⟩ w1 ⟨⟨hp, hw, hO, hE, hpos, hgo⟩, hall⟩ hj
  dsimp only at hp hw hO hE hpos hgo ⊢
  have hsl := hp.length_eq
  obtain ⟨A5, c5, rfl, hc3, hc4, hA5⟩ := hO.rw.op attC_len
  by_cases hlt : i < s.length
  ·obtain ⟨k, rfl⟩ : ∃ k, i = k + 1 := ⟨i - 1, by omega⟩
   obtain ⟨b, o, x, rfl, _, hx, hdr, hcell⟩ := hA5.at_ hlt
   obtain ⟨b', o', y, e', _, hy, _, hcell'⟩ := hA5.at_ (i := k) (by omega)
   injection e' with e'
   injection e' with e1 e2
   subst e1; subst e2
   rw [asc_step hy hx] at hgo
   have k1 : w1.drew.cell? ⟨b, o + k * 2 + 0, none⟩ = some (.string (su y.name)) := hcell' 0 _ rfl
   have k2 : w1.drew.cell? ⟨b, o + (k + 1) * 2 + 0, none⟩ = some (.string (su x.name)) := hcell 0 _ rfl
   have hwk := wk_get hw hy hx (Nat.lt_succ_self k)
   by_cases hnm : y.name = x.name
   ·have hl2 : attLt y x = false := by unfold attLt; rw [hnm]; exact bl_irr _
    rw [hl2, Bool.false_and] at hgo
    have e : nrmA l = (6, []) := nrm_dup hall attLt_ord hp hw hgo.symm
    rw [e]
    repeat' (first | refine xizq k (o + k * 2) rfl rfl rfl (by omega) rfl (by omega) ?_ | refine xizq (k + 1) (o + (k + 1) * 2) rfl rfl rfl rfl rfl hlt ?_ | refine xucmp (op := .eql) (a := y.name) (b := x.name) (r := true) rfl rfl (by simp [cmpU, hnm]) ?_ | refine go1L ?_ | fail)
    exact tret2 rfl rfl rfl ⟨_, rfl, Ow.nil _ _ _, hE.d⟩
   ·have hl2 : attLt y x = true := by
     rcases bl_tri _ _ hnm with g | g
     ·exact g
     ·unfold attLt at hwk; rw [g] at hwk; cases hwk
    rw [hl2, Bool.true_and] at hgo
    repeat' (first | refine xizq k (o + k * 2) rfl rfl rfl (by omega) rfl (by omega) ?_ | refine xizq (k + 1) (o + (k + 1) * 2) rfl rfl rfl rfl rfl hlt ?_ | refine xucmp (op := .eql) (a := y.name) (b := x.name) (r := false) rfl rfl (by simp [cmpU, hnm]) ?_ | refine go1L ?_ | fail)
    exact tgoto rfl ⟨_, (by show l.length + 1 - (k + 1 + 1) < l.length + 1 - (k + 1); omega), .inr ⟨rfl, (k + 1 + 1, _, s), sub ⟨rfl, rfl⟩, ⟨⟨hp, hw, hO.ext (Fr.drew noneB w1), hE.d, by omega, hgo⟩, hall⟩, rfl⟩⟩
  ·rw [asc_done (by omega)] at hgo
   by_cases h8 : 8 < s.length
   ·have e : nrmA l = (13, []) := nrm_long hall attLt_ord hp hw hgo.symm h8
    exact y78
   ·have e : nrmA l = (0, s) := nrm_ok hall attLt_ord hp hw hgo.symm h8
    exact y96
 ·intro H0 _
  refine goL ?_
  refine tlabel ?_
  exact tweak (H0 0 w ⟨Fr.refl _ _, Nat.zero_le _, rfl⟩) (sub ⟨rfl, rfl⟩)
theorem bnorm_does (w : World) (v : Value) (l : List Ac) (hv : Rw acC w v l) (hn : l.length ≤ 100000) : Does Tryz.prog 151 #[v] w fun r w' => ∃ vo, r = .tuple #[vo, .int .i64 (nrmB l).1] ∧ Ow acC 3 w' w.heap.size 103 vo (nrmB l).2 ∧ Ext w w' := by
 refine does1 Tryz.func151 rfl (by kernel_rfl) ?_
 obtain ⟨A, c, rfl, hc1, hc2, hA⟩ := hv.op acC_len
 refine goL ?_
 refine tscope2 (α := Nat) (β := Nat × Value × List Ac) 0 1 (by decide) rfl rfl
  (fun i => [(0, .slice A l.length c), (4, .int .i64 (i : Int))]) (fun i w' => Ext w w' ∧ i ≤ l.length ∧ (l.drop i).all acOK = l.all acOK) (fun i => l.length - i + l.length + 2)
  (fun x => [(4, .int .i64 (x.1 : Int)), (5, x.2.1)]) (fun x w' => NrmI acC 3 103 acLt l w x w' ∧ l.all acOK = true) (fun x => l.length + 1 - x.1) ?_ ?_ ?_
 ·rintro i w1 ⟨hE, hi, hgo⟩ hj
  by_cases hlt : i < l.length
  ·obtain ⟨b, o, x, rfl, _, hx, hdr, hcell⟩ := hA.at_ hlt
   rw [hdr, List.all_cons] at hgo
   refine gz8 ?_
   refine xldz (cs := acC x) rfl rfl (fun j u hu => hE.cell (hcell j u hu)) ?_
   refine xcallE rfl rfl (acgood_does w1 x) (fun r w2 h2 => ?_)
   obtain ⟨rfl, hE2⟩ := h2
   cases hg : acOK x with
   | false =>
    have hb : l.all acOK = false := by rw [← hgo, hg]; rfl
    have e : nrmB l = (1, []) := nrmB_bad (nrm_bad hb) (by decide)
    rw [e]
    refine goL ?_
    exact tret2 rfl rfl rfl ⟨_, rfl, Ow.nil _ _ _, hE.t hE2⟩
   | true =>
    exact y45
  ·obtain rfl : i = l.length := by omega
   rw [List.drop_length] at hgo
   refine goL ?_
   refine xapn (news := l.flatMap acC) sl_acs rfl (by decide) rfl rfl (Row.ext hv hE) (flat_len acC_len _) (acC_one _) (by unfold maxLen; omega) (by omega) (fun v2 w2 hO2 hz2 hE2 => ?_)
   have hO2' : Ow acC 3 w2 w1.heap.size 103 v2 l := hO2
   have hE02 := hE.t hE2
   have z1 := hE.size
   have key : ∀ (s : List Ac) (w3 : World), s.Perm l → OrdL.Wk acLt s → Ow acC 3 w3 w1.heap.size 103 v2 s → Ext w w3 → (NrmI acC 3 103 acLt l w (1, v2, s) w3 ∧ l.all acOK = true) := fun s w3 h1 h2 h3 h4 =>
    ⟨⟨h1, h2, h3.mono z1, h4, Nat.le_refl _, asc_first s⟩, by rw [← hgo]; rfl⟩
   by_cases h0 : l = []
   ·have e0 := hz2 (by rw [h0]; rfl)
    subst e0
    refine goL ?_
    refine xcallE rfl rfl (sortB0_does w2 _) (fun r w3 hE3 => ?_)
    exact y41
   ·refine goL ?_
    refine xcallE rfl rfl (sortB_does w2 w1.heap.size v2 l hO2' h0 (by omega)) (fun r w3 h3 => ?_)
    obtain ⟨⟨s, hp, hs, hO3⟩, hF3⟩ := h3
    refine goL ?_
    refine tlabel ?_
    exact tweak (hj (1, v2, s) w3 (key s w3 hp (hs.imp fun {a b} h => by
     cases e : acLt b a with
     | false => rfl
     | true => exact absurd ((cmpA_lt b a).1 e) h) hO3 (Ext.te hE02 hF3 fun j hj e => by have := (hO2'.blk e).1; omega)) (by show l.length + 1 - 1 < l.length - l.length + l.length + 2; omega)) (sub ⟨rfl, rfl⟩)
 ·rintro ⟨i, v5, s⟩ w1 ⟨⟨hp, hw, hO, hE, hpos, hgo⟩, hall⟩ hj
  dsimp only at hp hw hO hE hpos hgo ⊢
  have hsl := hp.length_eq
  obtain ⟨A5, c5, rfl, hc3, hc4, hA5⟩ := hO.rw.op acC_len
  by_cases hlt : i < s.length
  ·obtain ⟨k, rfl⟩ : ∃ k, i = k + 1 := ⟨i - 1, by omega⟩
   obtain ⟨b, o, x, rfl, _, hx, hdr, hcell⟩ := hA5.at_ hlt
   obtain ⟨b', o', y, e', _, hy, _, hcell'⟩ := hA5.at_ (i := k) (by omega)
   injection e' with e'
   injection e' with e1 e2
   subst e1; subst e2
   rw [asc_step hy hx] at hgo
   have hyc : ∀ j u, (acC y)[j]? = some u → w1.drew.cell? ⟨b, o + k * 3 + j, none⟩ = some u := fun j u hu => hcell' j u hu
   have hxc : ∀ j u, (acC x)[j]? = some u → w1.drew.cell? ⟨b, o + (k + 1) * 3 + j, none⟩ = some u := fun j u hu => hcell j u hu
   have hwk := wk_get hw hy hx (Nat.lt_succ_self k)
   repeat' (first | refine xizq k (o + k * 3) rfl rfl rfl (by omega) rfl (by omega) ?_ | refine xizq (k + 1) (o + (k + 1) * 3) rfl rfl rfl rfl rfl hlt ?_ | refine xldz (cs := acC y) rfl rfl hyc ?_ | refine xldz (cs := acC x) rfl rfl hxc ?_ | refine go1L ?_ | fail)
   refine xcallE rfl rfl (accmp_does w1.drew y x) (fun r w2 h2 => ?_)
   obtain ⟨rfl, hE2⟩ := h2
   have hE12 : Ext w1 w2 := (Fr.drew noneB w1).t hE2
   by_cases hz : cmpA y x = 0
   ·have hl2 : acLt y x = false := by
     cases e : acLt y x with
     | false => rfl
     | true => have := (cmpA_lt y x).1 e; omega
    rw [hl2, Bool.false_and] at hgo
    have e : nrmB l = (6, []) := nrmB_bad (nrm_dup hall acLt_ord hp hw hgo.symm) (by decide)
    rw [e]
    refine goL ?_
    exact tret2 rfl rfl rfl ⟨_, rfl, Ow.nil _ _ _, hE.t hE12⟩
   ·have hl2 : acLt y x = true := cmpA_ne hz hwk
    rw [hl2, Bool.true_and] at hgo
    refine goL ?_
    exact tgoto rfl ⟨_, (by show l.length + 1 - (k + 1 + 1) < l.length + 1 - (k + 1); omega), .inr ⟨rfl, (k + 1 + 1, _, s), sub ⟨rfl, rfl⟩, ⟨⟨hp, hw, hO.ext hE12, hE.t hE12, by omega, hgo⟩, hall⟩, rfl⟩⟩
  ·rw [asc_done (by omega)] at hgo
   by_cases h8 : 16 < s.length
   ·have e : nrmB l = (13, []) := nrmB_bad (nrm_long hall acLt_ord hp hw hgo.symm h8) (by decide)
    exact y78
   ·have hr : nrmG acOK acLt 16 l = (0, s) := nrm_ok hall acLt_ord hp hw hgo.symm h8
    have hany : (l.any fun a => decide (a.kind = 3)) = (maskP s).2 := by rw [maskP_any]; exact any_perm hp.symm _
    refine goL ?_
    refine xcallE rfl rfl (mask_does w1 _ s hO.rw) (fun r w2 h2 => ?_)
    obtain ⟨rfl, rfl⟩ := h2
    cases hm : (maskP s).2 with
    | true =>
     have e : nrmB l = (0, s) := by
      unfold nrmB
      rw [hr, if_neg (fun h => h rfl), hany, hm, if_neg (fun h => by cases h.2)]
     exact y96
    | false =>
     by_cases h0 : s.length = 0
     ·have e : nrmB l = (0, s) := by
       unfold nrmB
       rw [hr, if_neg (fun h => h rfl), if_neg (fun h => h.1 (by omega))]
      exact y96
     ·have e : nrmB l = (7, []) := by
       unfold nrmB
       rw [hr, if_neg (fun h => h rfl), hany, hm, if_pos ⟨by omega, rfl⟩]
      exact y78
 ·intro H0 _
  refine goL ?_
  refine tlabel ?_
  exact tweak (H0 0 w ⟨Fr.refl _ _, Nat.zero_le _, rfl⟩) (sub ⟨rfl, rfl⟩)
end
end Go.Proofs.YtiebbecknfpdeaaGreatDoor.Eng
