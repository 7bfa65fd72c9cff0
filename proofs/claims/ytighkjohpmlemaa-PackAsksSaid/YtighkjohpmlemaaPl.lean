/-
  Parts of slices; package pack: open, Get.
-/
import Derived.Test.YtighkjohpmlemaaPk
import Derived.Test.YtighkjohpmlemaaPq
namespace Go.Proofs.Ytighkjohpmlemaa
open Go.RowKit
namespace Eng

section
variable {hs : List Nat} {H : World → Prop} {full : Array Oper} {K : Env → World → Prop} {rest : List Oper} {env : Env} {w : World} {d : Tmp} {ty : TypeId} {pos : String} {af : Array Edge}

theorem own_cut (A : Option Addr) (k c l n m n' m' : Nat) : (Value.slice (if c = l then A else A.map (·.add k)) n m).ownBlock = (Value.slice A n' m').ownBlock := by
  cases A with
  | none => split <;> rfl
  | some a =>
    split
    · rfl
    · show some (a.add k).block = some a.block
      unfold Addr.add
      split <;> rfl
theorem Row.cut {A : Option Addr} {n c z l h : Nat} {vs : List Value} (hr : Row w (.slice A n c) n vs) (h1 : l ≤ h) (h2 : h ≤ n) :
    Row w (.slice (if c = l then A else A.map (·.add (l * z))) (h - l) (c - l)) (h - l) ((vs.drop (l * z)).take ((h - l) * z)) := by
  obtain ⟨A', c', e, h3, h4, h5⟩ := hr
  injection e with e1 e2 e3
  subst e1; subst e3
  refine ⟨_, _, rfl, by omega, by omega, fun hp => ?_⟩
  obtain ⟨b, o, rfl, hb, hc⟩ := h5 (by omega)
  refine ⟨b, o + l * z, by rw [if_neg (by omega)]; simp [Addr.add_lit], hb, fun j u hu => ?_⟩
  have hj : j < (h - l) * z := by
    have := (List.getElem?_eq_some_iff.1 hu).1
    rw [List.length_take] at this
    omega
  rw [List.getElem?_take_of_lt hj, List.getElem?_drop] at hu
  rw [Nat.add_assoc]
  exact hc _ u hu

/-- x[lo:hi] of a row. -/
theorem xslr2 {t : TypeId} {x lo hi : Operand} {k k' : IntKind} {A : Option Addr} {n c z : Nat} {vs : List Value} {jl jh : Int} (l h : Nat) (hz : es t = some z) (hx : evo env x = some (.slice A n c)) (hr : Row w (.slice A n c) n vs) (hlo : evo env lo = some (.int k jl)) (hhi : evo env hi = some (.int k' jh)) (el : jl = l) (eh : jh = h) (h1 : l ≤ h) (h2 : h ≤ n)
    (hc : ∀ A', Row w (.slice A' (h - l) (c - l)) (h - l) ((vs.drop (l * z)).take ((h - l) * z)) → (∀ n' m', (Value.slice A' n' m').ownBlock = (Value.slice A n c).ownBlock) → xs Try.prog isI isS hs H full K rest ((d, .slice A' (h - l) (c - l)) :: env) w) :
    xs Try.prog isI isS hs H full K (⟨some d, .slice t x (some lo) (some hi) none, ty, pos, af, none⟩ :: rest) env w := by
  obtain ⟨e, i, hu, hi', hsz⟩ := es_spec hz
  subst el; subst eh
  have hcc : n ≤ c := by obtain ⟨A', c', e, h3, h4, h5⟩ := hr; injection e with e1 e2 e3; omega
  refine x_gen rfl (by simp [opsOK, Op.operands, hx, hlo, hhi]) ⟨_, fun w' => ?_, hc (if c = l then A else A.map (·.add (l * z))) (hr.cut h1 h2) (fun n' m' => own_cut A _ c l _ _ _ _)⟩
  have := run_sl (A := A) (n := n) (c := c) (lo := some (.int k l)) (hi := some (.int k' h)) (l := l) (h := h) hu hi' (.inr ⟨k, rfl⟩) (.inr ⟨k', rfl⟩) (by omega) (by omega) w'
  simp [execOp, ev_of hx, ev_of hlo, ev_of hhi, this, hsz]
/-- x[lo:] of a row. -/
theorem xslr1 {t : TypeId} {x lo : Operand} {k : IntKind} {A : Option Addr} {n c z : Nat} {vs : List Value} {jl : Int} (l : Nat) (hz : es t = some z) (hx : evo env x = some (.slice A n c)) (hr : Row w (.slice A n c) n vs) (hlo : evo env lo = some (.int k jl)) (el : jl = l) (h1 : l ≤ n)
    (hc : ∀ A', Row w (.slice A' (n - l) (c - l)) (n - l) ((vs.drop (l * z)).take ((n - l) * z)) → (∀ n' m', (Value.slice A' n' m').ownBlock = (Value.slice A n c).ownBlock) → xs Try.prog isI isS hs H full K rest ((d, .slice A' (n - l) (c - l)) :: env) w) :
    xs Try.prog isI isS hs H full K (⟨some d, .slice t x (some lo) none none, ty, pos, af, none⟩ :: rest) env w := by
  obtain ⟨e, i, hu, hi', hsz⟩ := es_spec hz
  subst el
  have hcc : n ≤ c := by obtain ⟨A', c', e, h3, h4, h5⟩ := hr; injection e with e1 e2 e3; omega
  refine x_gen rfl (by simp [opsOK, Op.operands, hx, hlo]) ⟨_, fun w' => ?_, hc (if c = l then A else A.map (·.add (l * z))) (hr.cut h1 (Nat.le_refl _)) (fun n' m' => own_cut A _ c l _ _ _ _)⟩
  have := run_sl (A := A) (n := n) (c := c) (lo := some (.int k l)) (hi := none) (l := l) (h := n) hu hi' (.inr ⟨k, rfl⟩) (.inl ⟨rfl, rfl⟩) (by omega) (by omega) w'
  simp [execOp, ev_of hx, ev_of hlo, this, hsz]
/-- x[:hi] of a row. -/
theorem xslr0 {t : TypeId} {x hi : Operand} {k' : IntKind} {A : Option Addr} {n c z : Nat} {vs : List Value} {jh : Int} (h : Nat) (hz : es t = some z) (hx : evo env x = some (.slice A n c)) (hr : Row w (.slice A n c) n vs) (hhi : evo env hi = some (.int k' jh)) (eh : jh = h) (h2 : h ≤ n)
    (hc : ∀ A', Row w (.slice A' h c) h (vs.take (h * z)) → (∀ n' m', (Value.slice A' n' m').ownBlock = (Value.slice A n c).ownBlock) → xs Try.prog isI isS hs H full K rest ((d, .slice A' h c) :: env) w) :
    xs Try.prog isI isS hs H full K (⟨some d, .slice t x none (some hi) none, ty, pos, af, none⟩ :: rest) env w := by
  obtain ⟨e, i, hu, hi', hsz⟩ := es_spec hz
  subst eh
  have hcc : n ≤ c := by obtain ⟨A', c', e, h3, h4, h5⟩ := hr; injection e with e1 e2 e3; omega
  have hcut := hr.cut (z := z) (Nat.zero_le h) h2
  rw [Nat.zero_mul, List.drop_zero, Nat.sub_zero, Nat.sub_zero] at hcut
  refine x_gen rfl (by simp [opsOK, Op.operands, hx, hhi]) ⟨_, fun w' => ?_, hc (if c = 0 then A else A.map (·.add 0)) hcut (fun n' m' => own_cut A _ c 0 _ _ _ _)⟩
  have := run_sl (A := A) (n := n) (c := c) (lo := none) (hi := some (.int k' h)) (l := 0) (h := h) hu hi' (.inl ⟨rfl, rfl⟩) (.inr ⟨k', rfl⟩) (by omega) (by omega) w'
  simp [execOp, ev_of hx, ev_of hhi, this]
end

theorem map_sub {α β : Type} (f : α → β) (l : List α) (a b : Nat) : ((l.map f).drop (a * 1)).take (b * 1) = ((l.drop a).take b).map f := by
  rw [Nat.mul_one, Nat.mul_one, ← List.map_drop, ← List.map_take]
theorem BRow.sub1 {w : World} {v : Value} {zs : List Int} {l n : Nat} (h : Row w v (n - l) (((zs.map (Value.int .u8)).drop (l * 1)).take ((n - l) * 1))) (hn : n = zs.length) : BRow w v (zs.drop l) := by
  subst hn
  rw [map_sub, List.take_of_length_le (by rw [List.length_drop]; omega)] at h
  unfold BRow
  rw [List.length_drop]
  exact h
theorem BRow.sub2 {w : World} {v : Value} {zs : List Int} {l h : Nat} (hr : Row w v (h - l) (((zs.map (Value.int .u8)).drop (l * 1)).take ((h - l) * 1))) (hn : h ≤ zs.length) : BRow w v ((zs.drop l).take (h - l)) := by
  rw [map_sub] at hr
  unfold BRow
  rw [List.length_take, List.length_drop, Nat.min_eq_left (by omega)]
  exact hr
theorem BRow.sub0 {w : World} {v : Value} {zs : List Int} {h : Nat} (hr : Row w v h ((zs.map (Value.int .u8)).take (h * 1))) (hn : h ≤ zs.length) : BRow w v (zs.take h) := by
  rw [Nat.mul_one, ← List.map_take] at hr
  unfold BRow
  rw [List.length_take, Nat.min_eq_left (by omega)]
  exact hr
attribute [local irreducible] xs T

theorem ngB_place {bs : List Int} {at_ : Nat} : ∀ (f n u i : Nat) {m j : Nat}, i ≤ bs.length → ngGo bs at_ f n u i = some (m, j) → j ≤ bs.length
  | 0, n, u, i, m, j, hi, h => by cases h
  | f + 1, n, u, i, m, j, hi, h => by
    rw [ngGo] at h
    cases hd : digB bs i with
    | none => rw [hd] at h; cases h
    | some q =>
      obtain ⟨dg, i'⟩ := q
      have hi' : i' ≤ bs.length := by
        unfold digB at hd
        split at hd
        · injection hd with hd; injection hd with _ hd; omega
        split at hd
        · injection hd with hd; injection hd with _ hd; omega
        · cases hd
      rw [hd] at h
      dsimp only at h
      split at h
      · cases h
      split at h
      · injection h with h; injection h with _ h; omega
      · exact ngB_place f _ _ _ hi' h

set_option maxRecDepth 20000 in
set_option maxHeartbeats 4000000 in
theorem open_does (w : World) (v : Value) (bs : List Int) (hv : BRow w v bs) (hb : Byts bs) :
    Does Try.prog 62 #[v] w fun r w' => Ext w w' ∧ match openB bs with
      | none => ∃ v', r = .tuple #[v', .bool false]
      | some zs => ∃ v', r = .tuple #[v', .bool true] ∧ Own w' w.heap.size 5 v' (zs.map (Value.int .u8)) := by
  refine does1 Try.func62 rfl (by kernel_rfl) ?_
  have hrow := hv
  obtain ⟨A, c, rfl, hcc, hcm, hA⟩ := hv.op
  unfold openB
  by_cases h0 : bs.length = 0
  · rw [if_pos (.inl h0)]
    refine goL ?_
    exact tret2 rfl rfl rfl ⟨Fr.refl _ _, _, rfl⟩
  by_cases h1 : 12001 < bs.length
  · rw [if_pos (.inr (.inl h1))]
    refine goL ?_
    exact tret2 rfl rfl rfl ⟨Fr.refl _ _, _, rfl⟩
  obtain ⟨b, o, z, rfl, hblt, hz, hcell, _⟩ := hA.at_ (i := 0) (by omega)
  have hzb := hb z (List.mem_of_getElem? hz)
  rw [Nat.add_zero] at hcell
  have hz0 : bs.getD 0 0 = z := getD_of hz
  rw [hz0]
  by_cases h2 : 1 < z
  · rw [if_pos (.inr (.inr h2))]
    repeat' (first | refine xisq 0 o rfl rfl rfl rfl rfl (by omega) ?_ | refine go1L ?_ | fail)
    exact tret2 rfl rfl rfl ⟨Fr.refl _ _, _, rfl⟩
  rw [if_neg (by omega)]
  by_cases h3 : z = 0
  · rw [if_pos h3]
    subst h3
    repeat' (first | refine xisq 0 o rfl rfl rfl rfl rfl (by omega) ?_ | refine go1L ?_ | fail)
    refine xslr1 1 rfl rfl hrow rfl rfl (by omega) (fun A' hr' ho' => ?_)
    have hr2 := BRow.sub1 hr' rfl
    have hl2 : (bs.drop 1).length = bs.length - 1 := List.length_drop
    unfold BRow at hr2
    rw [hl2] at hr2
    refine xap sl_bytes rfl rfl (Own.nil w w.heap.size _) rfl hr2 (by rw [List.length_map, hl2]) (fun u hu => by obtain ⟨z, _, rfl⟩ := List.mem_map.1 hu; rfl) (by unfold maxLen; simp; omega) (by simp; omega) (by omega) (fun v3 w3 hown3 hF3 hv3 => ?_)
    refine goL ?_
    refine tret2 rfl rfl rfl ⟨hF3.mono (fun j hj e => nomatch e), _, rfl, by simpa using hown3⟩
  rw [if_neg h3]
  repeat' (first | refine xisq 0 o rfl rfl rfl rfl rfl (by omega) ?_ | refine go1L ?_ | fail)
  refine xcall rfl rfl (nget_does w _ bs 1 hrow hb (by omega) (by omega)) (fun r w1 h1 => ?_)
  obtain ⟨rfl, rfl⟩ := h1
  cases hg : ngB bs 1 with
  | none =>
    dsimp only
    refine goL ?_
    exact tret2 rfl rfl rfl ⟨Fr.refl _ _, _, rfl⟩
  | some q =>
    obtain ⟨n, at_⟩ := q
    have hat : at_ ≤ bs.length := ngB_place _ _ _ _ (by omega) hg
    dsimp only
    by_cases hn : 12000 < n
    · rw [if_pos hn]
      refine goL ?_
      exact tret2 rfl rfl rfl ⟨Fr.refl _ _, _, rfl⟩
    rw [if_neg hn]
    refine goL ?_
    refine xslr1 at_ rfl rfl hrow rfl rfl (by omega) (fun A' hr' ho' => ?_)
    have hr2 := BRow.sub1 hr' rfl
    have hl2 : (bs.drop at_).length = bs.length - at_ := List.length_drop
    refine xcall rfl rfl (from_does w _ (bs.drop at_) hr2 (fun z hz => hb z (List.mem_of_mem_drop hz)) (by omega)) (fun r w2 h2 => ?_)
    obtain ⟨gi, rfl, hgi, hin, hE2⟩ := h2
    repeat' (first | refine xcvi rfl rfl rfl (by omega) (by omega) ?_ | refine go1L ?_ | fail)
    refine xcall rfl rfl (unpack_does w2 gi (bs.drop at_) n hin (by omega) (by omega)) (fun r w3 h3 => ?_)
    obtain ⟨hF3, h3⟩ := h3
    have hE3 : Ext w w3 := Ext.te hE2 hF3 fun j hj e => by have e' : j = gi := e; omega
    have hsz2 := hE2.size
    cases hu : unB n (bs.drop at_) n with
    | none =>
      rw [hu] at h3
      obtain ⟨v', rfl⟩ := h3
      refine goL ?_
      exact tret2 rfl rfl rfl ⟨hE3, _, rfl⟩
    | some zs =>
      rw [hu] at h3
      obtain ⟨v', rfl, hown⟩ := h3
      refine goL ?_
      exact tret2 rfl rfl rfl ⟨hE3, _, rfl, hown.mono hsz2⟩

theorem numB_byts {n : Nat} (h : n < 62500) : Byts (numB n) := by
  rcases Nat.lt_or_ge n 250 with h1 | h1
  · rw [numB_small h1]; intro z hz; simp at hz; omega
  · rw [numB_two h1 h]; intro z hz; simp at hz; omega
theorem pk_byts {bs : List Nat} (h : Bits bs) : Byts (pk bs) := fun z hz => by
  obtain ⟨i, _, rfl⟩ := List.mem_map.1 hz
  have := byte8_lt (bs.drop (8 * i)) (fun b hb => h b (List.mem_of_mem_drop hb))
  omega
theorem sqB_byts {xs : List Int} (hl : xs.length ≤ 12000) : Byts (sqB xs) := fun z hz => by
  unfold sqB at hz
  rcases List.mem_cons.1 hz with rfl | hz
  · decide
  rcases List.mem_append.1 hz with hz | hz
  · exact numB_byts (by omega) z hz
  · exact pk_byts (sqBits_bits _) z hz
theorem putB_byts {xs : List Int} (hb : Byts xs) (hl : xs.length ≤ 12000) : Byts (putB xs) := by
  unfold putB
  split
  · exact sqB_byts hl
  · intro z hz
    rcases List.mem_cons.1 hz with rfl | hz
    · decide
    · exact hb z hz
theorem ptB_byts {xs : List Int} (hb : Byts xs) : Byts (ptB xs) := by
  unfold ptB
  split
  · intro z hz; cases hz
  · exact putB_byts hb (by omega)

set_option maxRecDepth 20000 in
set_option maxHeartbeats 4000000 in
theorem gget_does (w : World) (v : Value) (bs : List Int) (most : Int) (hv : BRow w v bs) (hb : Byts bs) :
    Does Try.prog 32 #[v, .int .i64 most] w fun r w' => ∃ v', r = .tuple #[v', .int .i64 (gtB bs most).1] ∧ Own w' w.heap.size 5 v' ((gtB bs most).2.map (Value.int .u8)) ∧ Ext w w' := by
  refine does2 Try.func32 rfl (by kernel_rfl) ?_
  have hrow := hv
  obtain ⟨A, c, rfl, hcc, hcm, hA⟩ := hv.op
  clear hA
  refine goL ?_
  refine xcall rfl rfl (open_does w _ bs hrow hb) (fun r w1 h1 => ?_)
  obtain ⟨hE1, h1⟩ := h1
  unfold gtB
  cases ho : openB bs with
  | none =>
    rw [ho] at h1
    obtain ⟨v1, rfl⟩ := h1
    dsimp only
    refine goL ?_
    exact tret2 rfl rfl rfl ⟨_, rfl, Own.nil _ _ _, hE1⟩
  | some x =>
    rw [ho] at h1
    obtain ⟨v1, rfl, hown1⟩ := h1
    have hxb := openB_byts hb ho
    obtain ⟨A1, c1, e1, hc1, hm1⟩ := hown1.form
    rw [List.length_map] at e1 hc1
    subst e1
    dsimp only
    refine goL ?_
    refine xcall rfl rfl (put_does w1 _ x hown1.brow hxb) (fun r w2 h2 => ?_)
    obtain ⟨v2, rfl, hown2, hE2⟩ := h2
    have hm1' : c1 ≤ 9223372036854775807 := hm1
    by_cases he : ptE x ≠ 0
    · rw [if_pos (.inl he)]
      refine goL ?_
      exact tret2 rfl rfl rfl ⟨_, rfl, Own.nil _ _ _, hE1.t hE2⟩
    have he0 : ptE x = 0 := Decidable.not_not.1 he
    rw [he0]
    refine goL ?_
    refine xcall rfl rfl (beq_does w2 _ _ (ptB x) bs hown2.brow ((hrow.ext hE1).ext hE2) (ptB_byts hxb) hb) (fun r w3 h3 => ?_)
    obtain ⟨rfl, hE3⟩ := h3
    by_cases hq : ptB x = bs
    · rw [if_neg (by simp [hq]), decide_eq_true hq]
      by_cases hm : max most 0 < (x.length : Int)
      · rw [if_pos hm]
        repeat' (first | refine xmax rfl rfl ?_ | refine go1L ?_ | fail)
        exact tret2 rfl rfl rfl ⟨_, rfl, Own.nil _ _ _, (hE1.t hE2).t hE3⟩
      · rw [if_neg hm]
        repeat' (first | refine xmax rfl rfl ?_ | refine go1L ?_ | fail)
        refine tret2 rfl rfl rfl ⟨_, rfl, ?_, (hE1.t hE2).t hE3⟩
        exact (hown1.ext hE2).ext hE3
    · rw [if_pos (.inr hq), decide_eq_false hq]
      refine goL ?_
      exact tret2 rfl rfl rfl ⟨_, rfl, Own.nil _ _ _, (hE1.t hE2).t hE3⟩
end Eng
end Go.Proofs.Ytighkjohpmlemaa
