/-
  Parts of the proof, joined: Wq, Zb, Zc.
-/
import Derived.Test.YtiebbecknfpdeaaDoorQB0b
import Derived.Test.YtiebbecknfpdeaaDoorQWo
namespace Go.Proofs.YtiebbecknfpdeaaDoor
open Go.RowKit
namespace Eng
attribute [local irreducible] xs T
set_option maxRecDepth 20000 in
set_option maxHeartbeats 2000000 in
theorem texts_does (w : World) (v v' : Value) (l l' : List Str) (hv : Rw stC w v l) (hv' : Rw stC w v' l') : Does Tryd.prog 7 #[v, v'] w fun r w' => r = .bool (decide (l = l')) ∧ Ext w w' := by
  refine does2 Tryd.func7 rfl (by kernel_rfl) ?_
  obtain ⟨A, c, rfl, hc1, hc2, hA⟩ := hv.op stC_len
  obtain ⟨A', c', rfl, hc1', hc2', hA'⟩ := hv'.op stC_len
  by_cases hlen : l.length = l'.length
  · refine goL ?_
    refine tloop (α := Nat) (fun i => [(0, .slice A l.length c), (1, .slice A' l'.length c'), (5, .int .i64 (i : Int))]) (fun i w' => Ext w w' ∧ i ≤ l.length ∧ decide (l.drop i = l'.drop i) = decide (l = l')) (fun i => l.length - i) 0 (sub ⟨rfl, rfl, rfl⟩) ⟨Fr.refl _ _, Nat.zero_le _, rfl⟩ ?_
    rintro i w1 ⟨hE, hi, hgo⟩
    by_cases hlt : i < l.length
    · obtain ⟨b, o, x, rfl, _, hx, hdr, hcell⟩ := hA.at_ hlt
      obtain ⟨b', o', y, rfl, _, hy, hdr', hcell'⟩ := hA'.at_ (i := i) (by omega)
      rw [hdr, hdr'] at hgo
      have q0 : w1.drew.cell? ⟨b, o + i, none⟩ = some (.string (su x)) := by
        have := hE.cell (hcell 0 _ rfl)
        rw [Nat.mul_one, Nat.add_zero] at this
        exact this
      have q1 : w1.drew.cell? ⟨b', o' + i, none⟩ = some (.string (su y)) := by
        have := hE.cell (hcell' 0 _ rfl)
        rw [Nat.mul_one, Nat.add_zero] at this
        exact this
      by_cases e : x = y
      · subst e
        have hgo : decide (l.drop (i + 1) = l'.drop (i + 1)) = decide (l = l') := by rw [← hgo]; simp
        repeat' (first | refine xisq i (o + i) rfl rfl rfl rfl rfl hlt ?_ | refine xisq i (o' + i) rfl rfl rfl rfl rfl (by omega) ?_ | refine xucmp (op := .neq) (r := false) rfl rfl (by simp [cmpU]) ?_ | refine go1L ?_ | fail)
        exact tfin ⟨i + 1, sub ⟨rfl, rfl, rfl⟩, ⟨hE.d, by omega, hgo⟩, (by show l.length - (i + 1) < l.length - i; omega)⟩
      · rw [decide_eq_false (by simp [e])] at hgo
        repeat' (first | refine xisq i (o + i) rfl rfl rfl rfl rfl hlt ?_ | refine xisq i (o' + i) rfl rfl rfl rfl rfl (by omega) ?_ | refine xucmp (op := .neq) (r := true) rfl rfl (by simp [cmpU, e]) ?_ | refine go1L ?_ | fail)
        exact tret1 rfl rfl ⟨by rw [← hgo], hE.d⟩
    · obtain rfl : i = l.length := by omega
      rw [List.drop_length, hlen, List.drop_length] at hgo
      rw [← hgo]
      refine goL ?_
      exact tret1 rfl rfl ⟨rfl, hE⟩
  · refine goL ?_
    exact tret1 rfl rfl ⟨by rw [decide_eq_false fun e => hlen (by rw [e])], Fr.refl _ _⟩
end Eng
end Go.Proofs.YtiebbecknfpdeaaDoor
namespace Go.Proofs.YtiebbecknfpdeaaDoor
open Go.RowKit
namespace Eng
section
variable {hs : List Nat} {H : World → Prop} {full : Array Oper} {K : Env → World → Prop} {rest : List Oper} {env : Env} {w : World} {d : Tmp} {ty : TypeId} {pos : String} {af : Array Edge}
theorem own_cut (A : Option Addr) (k c l n m n' m' : Nat) : (Value.slice (if c = l then A else A.map (·.add k)) n m).ownBlock = (Value.slice A n' m').ownBlock := by
  cases A with
  | none => split <;> rfl
  | some a =>
    split
    · rfl
    · show some (a.add k).block = some a.block
      unfold Addr.add
      split <;> rfl
theorem Row.cut {A : Option Addr} {n c z l h : Nat} {vs : List Value} (hr : Row w (.slice A n c) n vs) (h1 : l ≤ h) (h2 : h ≤ n) :
    Row w (.slice (if c = l then A else A.map (·.add (l * z))) (h - l) (c - l)) (h - l) ((vs.drop (l * z)).take ((h - l) * z)) := by
  obtain ⟨A', c', e, h3, h4, h5⟩ := hr
  injection e with e1 e2 e3
  subst e1; subst e3
  refine ⟨_, _, rfl, by omega, by omega, fun hp => ?_⟩
  obtain ⟨b, o, rfl, hb, hc⟩ := h5 (by omega)
  refine ⟨b, o + l * z, by rw [if_neg (by omega)]; simp [Addr.add_lit], hb, fun j u hu => ?_⟩
  have hj : j < (h - l) * z := by
    have := (List.getElem?_eq_some_iff.1 hu).1
    rw [List.length_take] at this
    omega
  rw [List.getElem?_take_of_lt hj, List.getElem?_drop] at hu
  rw [Nat.add_assoc]
  exact hc _ u hu
/-- x[lo:] of a row. -/
theorem xslr1 {t : TypeId} {x lo : Operand} {k : IntKind} {A : Option Addr} {n c z : Nat} {vs : List Value} {jl : Int} (l : Nat) (hz : es t = some z) (hx : evo env x = some (.slice A n c)) (hr : Row w (.slice A n c) n vs) (hlo : evo env lo = some (.int k jl)) (el : jl = l) (h1 : l ≤ n)
    (hc : ∀ A', Row w (.slice A' (n - l) (c - l)) (n - l) ((vs.drop (l * z)).take ((n - l) * z)) → (∀ n' m', (Value.slice A' n' m').ownBlock = (Value.slice A n c).ownBlock) → xs Tryd.prog isI isS hs H full K rest ((d, .slice A' (n - l) (c - l)) :: env) w) :
    xs Tryd.prog isI isS hs H full K (⟨some d, .slice t x (some lo) none none, ty, pos, af, none⟩ :: rest) env w := by
  obtain ⟨e, i, hu, hi', hsz⟩ := es_spec hz
  subst el
  have hcc : n ≤ c := by obtain ⟨A', c', e, h3, h4, h5⟩ := hr; injection e with e1 e2 e3; omega
  refine x_gen rfl (by simp [opsOK, Op.operands, hx, hlo]) ⟨_, fun w' => ?_, hc (if c = l then A else A.map (·.add (l * z))) (hr.cut h1 (Nat.le_refl _)) (fun n' m' => own_cut A _ c l _ _ _ _)⟩
  have := run_sl (A := A) (n := n) (c := c) (lo := some (.int k l)) (hi := none) (l := l) (h := n) hu hi' (.inr ⟨k, rfl⟩) (.inl ⟨rfl, rfl⟩) (by omega) (by omega) w'
  simp [execOp, ev_of hx, ev_of hlo, this, hsz]
end
attribute [local irreducible] xs T
structure RoI (l0 : List Str) (u0 : Nat) (w0 : World) (x : List Str × List Str × Nat × Value × Value) (w : World) : Prop where
  ext : Ext w0 w
  left : Ow stC 1 w w0.heap.size 9 x.2.2.2.1 x.1
  out : Ow stC 1 w w0.heap.size 9 x.2.2.2.2 x.2.1
  ap : ∀ b, x.2.2.2.1.ownBlock = some b → x.2.2.2.2.ownBlock = some b → False
  u : x.2.2.1 ≤ 18446744073709551615
  len : x.1.length + x.2.1.length = l0.length
  eq : x.2.1 ++ ordM x.1.length x.1 x.2.2.1 = ordM l0.length l0 u0
end Eng
end Go.Proofs.YtiebbecknfpdeaaDoor
namespace Go.Proofs.YtiebbecknfpdeaaDoor
open Go.RowKit
namespace Eng
section
variable {hs : List Nat} {H : World → Prop} {full : Array Oper} {K : Env → World → Prop} {rest : List Oper} {env : Env} {w : World} {d : Tmp} {ty : TypeId} {pos : String} {af : Array Edge}
/-- make of length 0. -/
theorem xmk0 {t e : TypeId} {z : Value} {size bytes n : Nat} {x y : Operand} {nz : Int} (hT : SlT t e z size bytes) (hx : evo env x = some (.int .i64 0)) (hy : evo env y = some (.int .i64 nz)) (hn : nz = n) (hb : bytes * n ≤ 281474976710656) (h63 : n ≤ maxLen)
    (h : ∀ w', OwnZ w' w.heap.size e size (.slice (some ⟨w.heap.size, 0, none⟩) 0 n) 0 [] → Ext w w' → xs Tryd.prog isI isS hs H full K rest ((d, .slice (some ⟨w.heap.size, 0, none⟩) 0 n) :: env) w') (hH : ∀ w', Ext w w' → H w' := by intros; trivial) :
    xs Tryd.prog isI isS hs H full K (⟨some d, .makeSlice t x y, ty, pos, af, none⟩ :: rest) env w := by
  subst hn
  obtain ⟨hu, i, hi, hz, hsi, hby⟩ := hT
  obtain ⟨w', hr, h2, h3⟩ := run_make_own (P := Tryd.prog) (w := w) w.heap.size t e i z size hu hi hz hsi .i64 .i64 n (by rw [hby]; exact hb) h63 (Nat.le_refl _)
  have hE : Ext w w' := Fr.grown h3 fun k hk _ => by cases hk
  refine xw (by simp [opsOK, Op.operands, hx, hy]) rfl (v := .slice (some ⟨w.heap.size, 0, none⟩) 0 n) (w' := w') ?_ (h _ h2 hE) (hH _ hE)
  simp [execOp, ev_of hx, ev_of hy, hr]
/-- x[:hi], the place kept. -/
theorem xsl0o {t : TypeId} {x hi : Operand} {k' : IntKind} {b o n c z : Nat} {jh : Int} (h : Nat) (hz : es t = some z) (hx : evo env x = some (.slice (some ⟨b, o, none⟩) n c)) (hhi : evo env hi = some (.int k' jh)) (eh : jh = h) (h2 : h ≤ n) (hcc : n ≤ c)
    (hc : xs Tryd.prog isI isS hs H full K rest ((d, .slice (some ⟨b, o, none⟩) h c) :: env) w) :
    xs Tryd.prog isI isS hs H full K (⟨some d, .slice t x none (some hi) none, ty, pos, af, none⟩ :: rest) env w := by
  obtain ⟨e, i, hu, hi', hsz⟩ := es_spec hz
  subst eh
  refine x_gen rfl (by simp [opsOK, Op.operands, hx, hhi]) ⟨_, fun w' => ?_, hc⟩
  have := run_sl (A := some ⟨b, o, none⟩) (n := n) (c := c) (lo := none) (hi := some (.int k' h)) (l := 0) (h := h) hu hi' (.inl ⟨rfl, rfl⟩) (.inr ⟨k', rfl⟩) (by omega) (by omega) w'
  simp [execOp, ev_of hx, ev_of hhi, this, Addr.add_lit]
end
/-- The first elements of an own row. -/
theorem Ow.pre {α : Type} {cf : α → List Value} {z B : Nat} {w : World} {e : TypeId} {b o n c k : Nat} {l : List α} (hz : ∀ x, (cf x).length = z) (h : Ow cf z w B e (.slice (some ⟨b, o, none⟩) n c) l) (hk : k ≤ l.length) : Ow cf z w B e (.slice (some ⟨b, o, none⟩) k c) (l.take k) := by
  obtain ⟨h1, h2⟩ := h
  rcases h2 with ⟨h2, _⟩ | ⟨g, cap, cur, h3, h4, h5, h6, h7, h8, h9⟩
  · cases h2
  injection h3 with e1 e2 e3
  injection e1 with e1
  injection e1 with e4 e5
  subst e4; subst e5; subst e3
  have hl : (l.take k).length = k := by rw [List.length_take]; omega
  refine ⟨flat_len hz _, .inr ⟨_, _, cur, by rw [hl], h4, h5, by rw [hl]; omega, h7, h8, ?_⟩⟩
  rw [hl]
  have e6 : (l.take k).flatMap cf = (l.flatMap cf).take (k * z) := by
    have hsp : l.flatMap cf = (l.take k).flatMap cf ++ (l.drop k).flatMap cf := by rw [← List.flatMap_append, List.take_append_drop]
    conv => rhs; rw [hsp]
    rw [List.take_append_of_le_length (by rw [flat_len hz, hl]; exact Nat.le_refl _)]
    exact (List.take_of_length_le (by rw [flat_len hz, hl]; exact Nat.le_refl _)).symm
  rw [e6, ← h9, List.take_take]
  congr 1
  have : k * z ≤ l.length * z := Nat.mul_le_mul_right z hk
  omega
attribute [local irreducible] xs T
set_option maxRecDepth 20000 in
set_option maxHeartbeats 8000000 in
theorem order_does (w : World) (v : Value) (l : List Str) (z : Int) (hv : Rw stC w v l) (hl : l.length ≤ 1000000) : Does Tryd.prog 5 #[v, .int .i64 z] w fun r w' => Ow stC 1 w' w.heap.size 9 r (ordM l.length l (uN z)) ∧ Ext w w' := by
  refine does2 Tryd.func5 rfl (by kernel_rfl) ?_
  obtain ⟨A, c, rfl, hc1, hc2, hA⟩ := hv.op stC_len
  obtain ⟨u0, hu⟩ : ∃ u0, u0 = uN z := ⟨_, rfl⟩
  have hub : u0 ≤ 18446744073709551615 := hu ▸ uN_lt z
  have huz : IntKind.u64.wrap z = (u0 : Int) := hu ▸ uN_eq z
  rw [← hu]
  have hone : ∀ (l : List Str), ∀ u ∈ l.flatMap stC, u.oneCell' = true := fun l u hu => by
    obtain ⟨x, _, hx⟩ := List.mem_flatMap.1 hu
    rw [List.mem_singleton.1 hx]; rfl
  refine goL ?_
  refine tscope1 (α := List Str × List Str × Nat × Value × Value) 0 rfl (fun x => [(5, x.2.2.2.1), (6, x.2.2.2.2), (7, .int .u64 (x.2.2.1 : Int))]) (RoI l u0 w) (fun x => x.1.length) ?_ ?_
  · rintro ⟨lf, ou, u, vL, vO⟩ w3 hI
    have hE3 := hI.ext
    have hL := hI.left
    have hO := hI.out
    have hap := hI.ap
    have hu2 := hI.u
    have hlen := hI.len
    have heq := hI.eq
    dsimp only at hE3 hL hO hap hu2 hlen heq ⊢
    obtain ⟨AL, cL, rfl, hcL1, hcL2, hAL⟩ := hL.rw.op stC_len
    by_cases hz : u = 0 ∨ lf = []
    · have hfin : ou ++ lf = ordM l.length l u0 := by
        rw [← heq]
        rcases hz with rfl | rfl
        · rw [ordM_zero]
        · rw [ordM_nil]
      have fin : ∀ w4 v4, OwnZ w4 w.heap.size 9 1 v4 (ou.length + lf.length) (ou.flatMap stC ++ lf.flatMap stC) → Fr (fun b => vO.ownBlock = some b) w3 w4 → Ow stC 1 w4 w.heap.size 9 v4 (ordM l.length l u0) ∧ Ext w w4 := fun w4 v4 hO4 hF4 =>
        ⟨by rw [← hfin]; exact Ow.ext1 hO4, hE3.trans hF4 fun j hj e => by have := (hO.blk e).1; omega⟩
      by_cases h0 : u = 0
      · subst h0
        refine goLU ?_
        refine xapz (news := lf.flatMap stC) sl_strs rfl (by decide) rfl hO rfl hL.rw (flat_len stC_len _) (hone _) (by unfold maxLen; omega) (by omega) hE3.size (fun v4 w4 hO4 hF4 _ => ?_)
        refine goLU ?_
        exact tret1 rfl rfl (fin _ _ hO4 hF4)
      · have h00 : lf.length = 0 := by
          rcases hz with e | e
          · exact absurd e h0
          · rw [e]; rfl
        refine goLU ?_
        refine xapz (news := lf.flatMap stC) sl_strs rfl (by decide) rfl hO rfl hL.rw (flat_len stC_len _) (hone _) (by unfold maxLen; omega) (by omega) hE3.size (fun v4 w4 hO4 hF4 _ => ?_)
        refine goLU ?_
        exact tret1 rfl rfl (fin _ _ hO4 hF4)
    · have hu0 : u ≠ 0 := fun e => hz (.inl e)
      have h0 : 0 < lf.length := Nat.pos_of_ne_zero fun e => hz (.inr (List.eq_nil_of_length_eq_zero e))
      have hm : u % lf.length < lf.length := Nat.mod_lt _ h0
      obtain ⟨k, hk⟩ : ∃ k, k = u % lf.length := ⟨_, rfl⟩
      rw [← hk] at hm
      have hmz : ((u : Int) % (lf.length : Int)) = (k : Int) := by rw [hk]; exact (Int.natCast_emod u lf.length).symm
      have hdz : ((u : Int) / (lf.length : Int)) = ((u / lf.length : Nat) : Int) := (Int.natCast_ediv u lf.length).symm
      have hdl : u / lf.length ≤ 18446744073709551615 := Nat.le_trans (Nat.div_le_self _ _) hu2
      obtain ⟨b, o, x, rfl, _, hx, _, hcell⟩ := hAL.at_ hm
      have cq : w3.cell? ⟨b, o + k, none⟩ = some (.string (su x)) := by
        have := hcell 0 _ rfl
        rwa [Nat.mul_one, Nat.add_zero] at this
      refine goLU ?_
      rw [hmz, hdz]
      refine xisq k (o + k) rfl rfl rfl rfl rfl hm ?_
      refine goLU ?_
      refine xbs sl_strs rfl rfl (by decide) (by decide) (fun u hu => by rw [List.mem_singleton.1 hu]; rfl) (fun w4 hB4 hE4 hs4 => ?_)
      have hg4 : w.heap.size ≤ w4.heap.size := Nat.le_trans hE3.size hE4.size
      refine xapz (news := stC x) sl_strs rfl (by decide) rfl (Ow.ext hO hE4) rfl (blk_row hB4 (by decide) rfl) rfl (fun u hu => by rw [List.mem_singleton.1 hu]; rfl) (by unfold maxLen; omega) (by omega) hg4 (fun v5 w5 hO5 hF5 hv5 => ?_)
      have hO5' : Ow stC 1 w5 w.heap.size 9 v5 (ou ++ [x]) := Ow.ext1 (l' := [x]) (by simpa using hO5)
      have hL5 := (hL.ext hE4).fr hF5 fun b' hb' e => hap b' hb' e
      have hE5 : Ext w w5 := (hE3.t hE4).trans hF5 fun j hj e => by have := (hO.blk e).1; omega
      have hlb := (hL.blk rfl).2
      have hap5 : v5.ownBlock ≠ some b := fun e => by
        rcases hv5 with h | h
        · rw [h] at e; exact hap b rfl e
        · rw [h] at e
          injection e with e
          have := hE4.size
          omega
      refine goLU ?_
      refine xsl0o k rfl rfl rfl rfl (Nat.le_of_lt hm) hcL1 ?_
      refine goLU ?_
      refine xslr1 (k + 1) rfl rfl (hL5.rw.ext (Fr.drew _ _)) rfl (by omega) (by omega) (fun A7 hR7 _ => ?_)
      have e7 : ((lf.flatMap stC).drop ((k + 1) * 1)).take ((lf.length - (k + 1)) * 1) = (lf.drop (k + 1)).flatMap stC := by
        rw [Nat.mul_one, Nat.mul_one, stC_map, stC_map, List.map_drop, List.take_of_length_le (by simp)]
      rw [e7] at hR7
      have hltk : (lf.take k).length = k := by rw [List.length_take]; omega
      have hpre := (Ow.pre stC_len hL5 (Nat.le_of_lt hm)).ext (Fr.drew noneB w5)
      refine xapz (news := (lf.drop (k + 1)).flatMap stC) sl_strs rfl (by decide) rfl hpre rfl hR7 (by rw [flat_len stC_len, List.length_drop]) (hone _) (by unfold maxLen; omega) (by omega) hE5.size (fun v8 w8 hO8 hF8 hv8 => ?_)
      have hd : w5.drew.heap.size = w5.heap.size := rfl
      have hbB := (hL.blk rfl).1
      have hE8 : Ext w w8 := hE5.d.trans hF8 fun j hj e => by
        injection e with e
        have : b = j := e
        have h9 : w.heap.size ≤ b := hbB
        omega
      have hO8' : Ow stC 1 w8 w.heap.size 9 v8 (lf.eraseIdx k) := by
        have h9 : (lf.eraseIdx k) = lf.take k ++ lf.drop (k + 1) := List.eraseIdx_eq_take_drop_succ lf k
        rw [h9]
        exact Ow.ext1 (by rw [List.length_drop]; exact hO8)
      have hO58 : Ow stC 1 w8 w.heap.size 9 v5 (ou ++ [x]) := (hO5'.ext (Fr.drew noneB w5)).fr hF8 fun b' hb' e => by
        injection e with e
        have : b = b' := e
        exact hap5 (by rw [hb', this])
      have hst : ordM lf.length lf u = x :: ordM (lf.eraseIdx k).length (lf.eraseIdx k) (u / lf.length) := by
        obtain ⟨f, hf⟩ : ∃ f, lf.length = f + 1 := ⟨lf.length - 1, by omega⟩
        have h10 : (lf.eraseIdx k).length = f := by rw [List.length_eraseIdx_of_lt hm]; omega
        rw [h10]
        have := ordM_step (f := f) (u := u) h0
        rw [← hf, ← hk] at this
        rw [this, List.getD_eq_getElem?_getD, hx]
        rfl
      have hlt : (lf.eraseIdx k).length < lf.length := by rw [List.length_eraseIdx_of_lt hm]; omega
      refine goLU ?_
      exact tgoto rfl ⟨_, hlt, rfl, (lf.eraseIdx k, ou ++ [x], u / lf.length, v8, v5), sub ⟨rfl, rfl, rfl⟩, ⟨hE8, hO8', hO58, fun b' h1 h2 => by
        rcases hv8 with h | h
        · rw [h] at h1
          injection h1 with h1
          have : b = b' := h1
          exact hap5 (by rw [h2, this])
        · rw [h] at h1
          injection h1 with h1
          have h4 := (hO5'.blk h2).2
          omega, hdl, by
          show (lf.eraseIdx k).length + (ou ++ [x]).length = l.length
          rw [List.length_eraseIdx_of_lt hm, List.length_append]
          simp only [List.length_cons, List.length_nil]
          omega, by
          rw [hst] at heq
          show (ou ++ [x]) ++ ordM (lf.eraseIdx k).length (lf.eraseIdx k) (u / lf.length) = _
          rw [List.append_assoc]
          exact heq⟩, rfl⟩
  · intro H
    refine goL ?_
    refine xapz (news := l.flatMap stC) sl_strs rfl (by decide) rfl (OwnZ.nil _ w.heap.size _ _) rfl hv (flat_len stC_len _) (hone l) (by unfold maxLen; omega) (by omega) (Nat.le_refl _) (fun v2 w2 hO2 hF2 hb2 => ?_)
    have hO2' : Ow stC 1 w2 w.heap.size 9 v2 l := by
      have := hO2
      rw [Nat.zero_add, List.nil_append] at this
      exact this
    have hE2 : Ext w w2 := hF2.mono fun k _ h => by cases h
    refine goL ?_
    refine xmk0 sl_strs rfl rfl rfl (by omega) (by unfold maxLen; omega) (fun w3 hO3 hE3 => ?_)
    refine goL ?_
    refine xcv rfl rfl rfl huz ?_
    refine goL ?_
    refine tlabel ?_
    exact tweak (H (l, [], u0, v2, .slice (some ⟨w2.heap.size, 0, none⟩) 0 l.length) w3 ⟨hE2.t hE3, hO2'.ext hE3, OwnZ.mono hO3 hE2.size, fun b h1 h2 => by
      have h3 := (hO2'.blk h1).2
      injection h2 with h2
      have h4 : w2.heap.size = b := h2
      omega, hub, rfl, rfl⟩) (sub ⟨rfl, rfl, rfl⟩)
end Eng
end Go.Proofs.YtiebbecknfpdeaaDoor
