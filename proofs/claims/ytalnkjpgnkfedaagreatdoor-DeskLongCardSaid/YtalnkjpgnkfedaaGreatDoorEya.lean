/-
  Places of fields and elements; parts of values; values put together.
-/
import Derived.Test.YtalnkjpgnkfedaaGreatDoorEz
namespace Go.Proofs.YtalnkjpgnkfedaaGreatDoor
open Go.RowKit
namespace Eng
namespace Rn
theorem size_spec {t z : Nat} (h : size t = some z) : (∃ i, Tryz.prog.info? t = some i ∧ i.size = z) ∧ ((one t = true ∧ z = 1) ∨ (one t = false ∧ get l_agg t = some z)) := by
  unfold size at h
  split at h
  · rename_i h1
    obtain rfl := Option.some.inj h
    obtain ⟨_, i, h2, h3⟩ := one_spec h1
    exact ⟨⟨i, h2, h3⟩, .inl ⟨h1, rfl⟩⟩
  · rename_i h1
    obtain ⟨_, i, h2, h3⟩ := agg_spec h
    exact ⟨⟨i, h2, h3⟩, .inr ⟨h1, h⟩⟩
theorem arr_inv {t n z : Nat} (h : arr t = some (n, z)) : ∃ e, Tryz.prog.underlying t = some (.array n e) ∧ size e = some z := by
  unfold arr at h
  split at h
  · rename_i n' e hu
    split at h
    · rename_i z' hz
      injection h with h; injection h with h1 h2; subst h1; subst h2
      exact ⟨e, hu, hz⟩
    · cases h
  · cases h
theorem elemOf_inv {t : TypeId} {el : TypeId} {z : Nat} (h : elemOf t = some (el, z)) : Tryz.prog.underlying t = some (.slice el) ∧ size el = some z := by
  unfold elemOf at h
  split at h
  · rename_i e hu
    split at h
    · rename_i z' hz
      injection h with h; injection h with h1 h2; subst h1; subst h2
      exact ⟨hu, hz⟩
    · cases h
  · cases h
theorem isAgg_one {t : TypeId} (h : one t = true) (w' : World) : (isAgg t).run Tryz.prog w' = .ok false w' := by
  obtain ⟨⟨td, h1, h2, h3⟩, _⟩ := one_spec h
  unfold isAgg
  simp only [Sem.run_bind, run_underlying h1, Result.andThen_ok]
  cases td <;> first | exact absurd rfl (h2 _) | exact absurd rfl (h3 _ _) | simp
theorem isAgg_agg {t n : Nat} (h : get l_agg t = some n) (w' : World) : (isAgg t).run Tryz.prog w' = .ok true w' := by
  obtain ⟨h1 | h1, _⟩ := agg_spec h
  · obtain ⟨fs, h1⟩ := h1
    unfold isAgg
    simp [run_underlying h1]
  · obtain ⟨m, e, h1⟩ := h1
    unfold isAgg
    simp [run_underlying h1]
theorem part_one {u : TypeId} (h : one u = true) {cs : Array Value} {o : Nat} {v : Value} (hv : cs[o]? = some v) (w' : World) : (part u cs o).run Tryz.prog w' = .ok v w' := by
  simp [part, isAgg_one h, hv]
theorem part_agg {u n : Nat} (h : get l_agg u = some n) (vs : List Value) (o : Nat) (w' : World) : (part u vs.toArray o).run Tryz.prog w' = .ok (.agg ((vs.drop o).take n).toArray) w' := by
  obtain ⟨_, i, h2, h3⟩ := agg_spec h
  have e : vs.toArray.extract o (o + n) = ((vs.drop o).take n).toArray := by
    apply Array.ext'
    simp [List.take_drop]
  simp [part, isAgg_agg h, sizeOf, typeInfo, h2, h3]
theorem zA_inv {ρ : Pl} {t : TypeId} {l : List SV} (h : zA t = some l) : ∃ i v, Tryz.prog.info? t = some i ∧ i.zero = some v ∧ SRs ρ l v.cells.toList := by
  unfold zA at h
  split at h
  · rename_i v hz
    cases hi : Tryz.prog.info? t with
    | none => rw [hi] at hz; cases hz
    | some i =>
      rw [hi] at hz
      refine ⟨i, v, rfl, hz, ?_⟩
      unfold cA at h
      split at h
      · rename_i x hx
        obtain rfl := Option.some.inj h
        split at hx
        · split at hx
          · injection hx with hx; cases hx
          · cases hx
        · split at hx
          · rename_i y hy
            injection hx with hx; injection hx with hx; subst hx
            have h1 : SR ρ y v := cS_sound hy
            rw [h1.cells]
            exact .cons ⟨cS_nu hy, h1⟩ .nil
          · cases hx
      · rename_i x hx
        obtain rfl := Option.some.inj h
        split at hx
        · rename_i cs
          split at hx
          · rename_i l' hl
            injection hx with hx; injection hx with hx; subst hx
            exact cL_sound hl
          · cases hx
        · split at hx
          · injection hx with hx; cases hx
          · cases hx
      · cases h
  · cases h
/-- Cells put into a row, one by one. -/
theorem set_cells (off : Nat) : ∀ (c : List Value) (k : Nat) (xs : List Value), off + k + c.length ≤ xs.length → (c.zipIdx k).foldl (fun (cs : List Value) (p : Value × Nat) => cs.set (off + p.2) p.1) xs = xs.take (off + k) ++ (c ++ xs.drop (off + k + c.length))
  | [], k, xs, h => by simp
  | v :: c, k, xs, h => by
    have hl : off + k < xs.length := by simp at h; omega
    have e : xs.set (off + k) v = xs.take (off + k) ++ v :: xs.drop (off + k + 1) := List.set_eq_take_append_cons_drop.trans (by simp [hl])
    have hA : (xs.take (off + k)).length = off + k := by simp; omega
    rw [List.zipIdx_cons, List.foldl_cons, set_cells off c (k + 1) _ (by simp at h ⊢; omega), e]
    generalize xs.take (off + k) = A at hA ⊢
    have e1 : List.take (off + (k + 1)) (A ++ v :: xs.drop (off + k + 1)) = A ++ [v] := by
      rw [List.take_append, hA, List.take_of_length_le (by omega), show off + (k + 1) - (off + k) = 1 by omega]
      rfl
    have e2 : List.drop (off + (k + 1) + c.length) (A ++ v :: xs.drop (off + k + 1)) = xs.drop (off + k + (c.length + 1)) := by
      rw [List.drop_append, hA, List.drop_eq_nil_of_le (by omega), show off + (k + 1) + c.length - (off + k) = c.length + 1 by omega, List.drop_succ_cons, List.drop_drop, List.nil_append]
      congr 1
      omega
    rw [e1, e2]
    simp
theorem put_cells (off : Nat) (c : List Value) (xs : Array Value) (h : off + c.length ≤ xs.size) : ((c.zipIdx 0).foldl (fun (cs : Array Value) (p : Value × Nat) => cs.setIfInBounds (off + p.2) p.1) xs).toList = xs.toList.take off ++ (c ++ xs.toList.drop (off + c.length)) := by
  have e : ∀ (l : List (Value × Nat)) (xs : Array Value), (l.foldl (fun (cs : Array Value) (p : Value × Nat) => cs.setIfInBounds (off + p.2) p.1) xs).toList = l.foldl (fun (cs : List Value) (p : Value × Nat) => cs.set (off + p.2) p.1) xs.toList := fun l => by
    induction l with
    | nil => intro xs; rfl
    | cons p l ih => intro xs; rw [List.foldl_cons, List.foldl_cons, ih]; simp
  rw [e, set_cells off c 0 _ (by simpa using h)]
  simp
theorem fill_cons {place : Nat → Option (Nat × Nat)} {i off size : Nat} {v : Value} {cells : List Value} {rest : List (Nat × Value)} (hp : place i = some (off, size)) (hs : v.cells.size = size) (hf : off + size ≤ cells.length) :
    Instr.fill place cells.toArray ((i, v) :: rest) = Instr.fill place (cells.take off ++ (v.cells.toList ++ cells.drop (off + size))).toArray rest := by
  rw [Instr.fill, hp]
  simp only
  rw [if_neg (by simp [hs]; omega)]
  congr 1
  have h := put_cells off v.cells.toList cells.toArray (by simp [hs]; omega)
  apply Array.ext'
  rw [← Array.foldl_toList]
  rw [show v.cells.zipIdx.toList = v.cells.toList.zipIdx by simp]
  refine Eq.trans ?_ (h.trans ?_)
  · rfl
  · simp [hs]
theorem fill_mono {f g : Nat → Option (Nat × Nat)} (hfg : ∀ i p, f i = some p → g i = some p) : ∀ {l : List (Nat × Value)} {cs cs' : Array Value}, Instr.fill f cs l = some cs' → Instr.fill g cs l = some cs'
  | [], cs, cs', h => h
  | (i, v) :: l, cs, cs', h => by
    rw [Instr.fill] at h ⊢
    split at h
    · cases h
    · rename_i off size hi
      rw [hfg i _ hi]
      simp only
      split at h
      · cases h
      · rename_i hc
        rw [if_neg hc]
        exact fill_mono hfg h
theorem mapM_get {α β : Type} {g : α → Option β} : ∀ {l : List α} {r : List β}, l.mapM g = some r → ∀ {i : Nat} {x : α}, l[i]? = some x → ∀ {p : β}, g x = some p → r[i]? = some p
  | [], r, _, i, x, hx, p, _ => by cases hx
  | y :: l, r, h, i, x, hx, p, hp => by
    rw [List.mapM_cons] at h
    simp only [bind, Option.bind_eq_some_iff, pure, Option.some.injEq] at h
    obtain ⟨b, h1, r', h2, rfl⟩ := h
    cases i with
    | zero =>
      obtain rfl := Option.some.inj hx
      rw [h1] at hp; exact hp
    | succ i => exact mapM_get h2 (i := i) hx hp
section
variable {m : Nat} {ih : Cl} {e : En} {σ : Mem} {c : Kt} {res : Rs} {ρ : Pl} {env : Env} {w0 : Fm} {w : World} {full : Array Oper} {d : Tmp} {ty : TypeId} {pos : String} {af : Array Edge} (hr : res ≠ .no)
include hr
theorem nthK_inv {α : Type} : ∀ {l : List α} {i : Nat} {c : α → Rs}, nthK l i c = res → ∃ x, l[i]? = some x ∧ c x = res
  | [], _, _, h => absurd h.symm hr
  | x :: _, 0, _, h => ⟨x, rfl, h⟩
  | _ :: l, i + 1, _, h => nthK_inv (l := l) (i := i) h
theorem ptW_inv {env : Env} {off : Nat → Option (Nat × Nat)} (hE : ER m ρ e env) : ∀ {ps : List (Nat × Operand)} {l : List SV} {vs : List Value} {k : List SV → Rs}, (ptW m off ps).f e l k = res → SRs ρ l vs → ∃ pvs l' vs', evq env ps = some pvs ∧ Instr.fill off vs.toArray pvs = some vs'.toArray ∧ SRs ρ l' vs' ∧ vs'.length = vs.length ∧ k l' = res
  | [], l, vs, k, h, hl => ⟨[], l, vs, rfl, rfl, hl, rfl, h⟩
  | (i, x) :: ps, l, vs, k, h, hl => by
    have h' : (match off i with
      | some (o, z) => (⟨fun e l k => (gtW m x).f e fun v => onV v (fun x => nuK x (okK (Nat.beq z 1) (okK (Nat.ble (Nat.add o 1) l.length) (fP (put l o [x]) fun l => (ptW m off ps).f e l k)))) fun g => okK (Nat.beq g.length z) (okK (Nat.ble (Nat.add o z) l.length) (fP (put l o g) fun l => (ptW m off ps).f e l k))⟩ : Wps)
      | none => ⟨fun _ _ _ => .no⟩).f e l k = res := h
    split at h'
    · rename_i o z hoz
      obtain ⟨a, v, h1, h2, h'⟩ := gtW_inv hr hE h'
      have key : ∀ (g : List SV) (gs : List Value), SRs ρ g gs → v.cells = gs.toArray → g.length = z → o + z ≤ l.length → (ptW m off ps).f e (put l o g) k = res → ∃ pvs l' vs', evq env ((i, x) :: ps) = some pvs ∧ Instr.fill off vs.toArray pvs = some vs'.toArray ∧ SRs ρ l' vs' ∧ vs'.length = vs.length ∧ k l' = res := fun g gs hg hgs hz hle h => by
        have hgl := hg.len
        have hvl := hl.len
        have hput : SRs ρ (put l o g) (vs.take o ++ (gs ++ vs.drop (o + z))) := by
          unfold put
          rw [hz]
          exact (hl.take o).app (hg.app (hl.drop (o + z)))
        obtain ⟨pvs, l', vs', e1, e2, e3, e5, e4⟩ := ptW_inv hE h hput
        have e6 : vs'.length = vs.length := by
          rw [e5]
          simp only [List.length_append, List.length_take, List.length_drop]
          omega
        refine ⟨(i, v) :: pvs, l', vs', by simp only [evq, h1, e1], ?_, e3, e6, e4⟩
        rw [fill_cons hoz (by rw [hgs]; simp; omega) (by omega), hgs]
        exact e2
      rcases onV_inv hr h' with ⟨y, rfl, h'⟩ | ⟨g, rfl, h'⟩
      · obtain ⟨hn, h5⟩ := okK_inv h' hr
        obtain ⟨hz, h6⟩ := okK_inv h5 hr
        obtain ⟨ho, h7⟩ := okK_inv h6 hr
        rw [fP_eq] at h7
        have hz := Nat.eq_of_beq_eq_true hz
        have ho : o + 1 ≤ l.length := Nat.le_of_ble_eq_true ho
        exact key [y] [v] (.cons ⟨hn, h2⟩ .nil) (SR.cells h2) (by rw [hz]; rfl) (by rw [hz]; exact ho) h7
      · obtain ⟨hz, h'⟩ := okK_inv h' hr
        obtain ⟨ho, h'⟩ := okK_inv h' hr
        rw [fP_eq] at h'
        obtain ⟨gs, hg, rfl⟩ := h2
        exact key g gs hg rfl (Nat.eq_of_beq_eq_true hz) (Nat.le_of_ble_eq_true ho) h'
    · exact absurd h'.symm hr
theorem scK_inv {l : List AV} : ∀ {vs : List Value} {k : List SV → Rs}, scK l k = res → ARs ρ l vs → ∃ g, SRs ρ g vs ∧ k g = res := by
  induction l with
  | nil => intro vs k h ha; cases ha; exact ⟨[], .nil, h⟩
  | cons x l ih =>
    intro vs k h ha
    cases ha with
    | cons h1 h2 =>
      rcases onV_inv hr (show onV x (fun x => nuK x (scK l fun l => k (x :: l))) (fun _ => .no) = res from h) with ⟨y, rfl, h⟩ | ⟨g, rfl, h⟩
      · obtain ⟨hn, h⟩ := okK_inv h hr
        obtain ⟨g, h3, h4⟩ := ih h h2
        exact ⟨y :: g, .cons ⟨hn, h1⟩ h3, h4⟩
      · exact absurd h.symm hr
variable (hE : ER m ρ e env) (hM : MR w0 ρ σ w)
include hE
theorem gtsW_inv : ∀ {l : List Operand} {k : List AV → Rs}, (gtsW m l).f e k = res → ∃ al vs, evs env l = some vs ∧ ARs ρ al vs ∧ k al = res
  | [], k, h => ⟨[], [], rfl, .nil, h⟩
  | x :: l, k, h => by
    obtain ⟨a, v, h1, h2, h⟩ := gtW_inv hr hE (show (gtW m x).f e _ = res from h)
    obtain ⟨al, vs, h3, h4, h⟩ := gtsW_inv h
    exact ⟨a :: al, v :: vs, by simp only [evs, h1, h3], .cons h2 h4, h⟩
include hM
theorem s_fd {s f : Nat} {x : Operand} (h : (opW m (.fieldAddr s x f)).f ih e σ c = res) : xs Tryz.prog isI isS [] Eng.noH full (Good w0 ρ c res env (some d)) [⟨some d, .fieldAddr s x f, ty, pos, af, none⟩] env w := by
  have h' : (match Nat.blt f 100 with
    | true => fdW m x (fo s f)
    | false => noH).f ih e σ c = res := h
  split at h'
  · rename_i hf
    unfold fdW at h'
    split at h'
    · rename_i off ho
      rw [cN_eq] at h'
      obtain ⟨a, v, h1, h2, h'⟩ := gtW_inv hr hE h'
      obtain ⟨id, o, e0, h0⟩ := onP_inv hr h'
      clear h'
      subst e0
      have h' := h0
      rw [fN_eq] at h'
      obtain ⟨p, h3, rfl⟩ := h2
      exact xfa h1 ho hf ⟨_, σ, ρ, _, h', Up.refl ρ, ⟨p, h3, rfl⟩, hM, rfl⟩
    · exact absurd h'.symm hr
  · exact absurd h'.symm hr
theorem s_ix {t : TypeId} {x i : Operand} (h : (ixW m t x i).f ih e σ c = res) : xs Tryz.prog isI isS [] Eng.noH full (Good w0 ρ c res env (some d)) [⟨some d, .indexAddr t x i, ty, pos, af, none⟩] env w := by
  unfold ixW at h
  split at h
  · rename_i n z ha
    rw [cN_eq, cN_eq] at h
    obtain ⟨a, b, va, vb, h1, h2, h3, h4, h⟩ := two hr hE h
    obtain ⟨id, o, rfl, h⟩ := onP_inv hr h
    obtain ⟨k, j, rfl, h⟩ := onN_inv hr h
    obtain ⟨hj, h⟩ := okK_inv h hr
    have hj : j + 1 ≤ n := Nat.le_of_ble_eq_true hj
    rw [fN_eq] at h
    obtain ⟨p, h5, rfl⟩ := h3
    obtain ⟨rfl, _⟩ := h4
    obtain ⟨el, hu, hz⟩ := arr_inv ha
    obtain ⟨⟨ie, hi, hsz⟩, _⟩ := size_spec hz
    refine x_gen rfl (by simp [opsOK, Op.operands, h1, h2]) ⟨.pointer (some ⟨p.b, o + j * z, none⟩), fun w' => ?_, _, σ, ρ, _, h, Up.refl ρ, ⟨p, h5, rfl⟩, hM, rfl⟩
    simp [execOp, ev_of h1, ev_of h2, Instr.indexAt, asIntOf, Instr.sureAddr, run_underlying hu, sizeOf, typeInfo, hi, hsz, Addr.add_lit]
    exact fun hh => absurd hj (by omega)
  · split at h
    · rename_i z' hz
      rw [cN_eq] at h
      obtain ⟨a, b, va, vb, h1, h2, h3, h4, h⟩ := two hr hE h
      obtain ⟨k, q, rfl, h⟩ := onN_inv hr h
      obtain ⟨rfl, _⟩ := h4
      rcases onL_inv hr h with ⟨rfl, h⟩ | ⟨id, z, j, n, rfl, h⟩ | ⟨id, z, j, n, k, rfl, h⟩ | ⟨_, _, _, _, rfl, h⟩ | ⟨l, rfl, h⟩ | ⟨id, o, rfl, h⟩
      · exact absurd h.symm hr
      · obtain ⟨hq, h⟩ := okK_inv h hr
        have hq : q + 1 ≤ n := Nat.le_of_ble_eq_true hq
        rw [fN_eq] at h
        obtain ⟨p, h5, _, _, _, rfl⟩ := h3
        exact xix h1 h2 hz (by show (0 : Int) ≤ (q : Int); omega) (by show (q : Int) < _; omega) ⟨_, σ, ρ, _, h, Up.refl ρ, ⟨p, h5, rfl⟩, hM, rfl⟩
      · obtain ⟨hq, h⟩ := okK_inv h hr
        have hq : q + 1 ≤ n := Nat.le_of_ble_eq_true hq
        rw [fN_eq] at h
        obtain ⟨p, h5, _, _, rfl⟩ := h3
        exact xix h1 h2 hz (by show (0 : Int) ≤ (q : Int); omega) (by show (q : Int) < _; omega) ⟨_, σ, ρ, _, h, Up.refl ρ, ⟨p, h5, rfl⟩, hM, rfl⟩
      · exact absurd h.symm hr
      · exact absurd h.symm hr
      · exact absurd h.symm hr
    · exact absurd h.symm hr
theorem s_ex {x : Operand} {k : Nat} (h : (exW m x k).f ih e σ c = res) : xs Tryz.prog isI isS [] Eng.noH full (Good w0 ρ c res env (some d)) [⟨some d, .extract x k, ty, pos, af, none⟩] env w := by
  obtain ⟨a, v, h1, h2, h⟩ := gtW_inv hr hE (show (gtW m x).f e _ = res from h)
  obtain ⟨l, rfl, h⟩ := onT_inv hr h
  obtain ⟨y, hy, h⟩ := nthK_inv hr h
  obtain ⟨vs, h3, rfl⟩ := h2
  have key : ∀ {l : List TV} {vs : List Value}, TRs ρ l vs → ∀ {k : Nat} {y : TV}, l[k]? = some y → ∃ v, vs[k]? = some v ∧ TR ρ y v := fun {l vs} h3 => by
    induction h3 with
    | nil => intro k y hy; cases hy
    | cons h5 _ ih =>
      intro k y hy
      cases k with
      | zero => obtain rfl := Option.some.inj hy; exact ⟨_, rfl, h5⟩
      | succ k => exact ih hy
  obtain ⟨v, hv, h4⟩ := key h3 hy
  cases y with
  | v y => exact xex h1 (by simpa using hv) ⟨_, σ, ρ, _, h, Up.refl ρ, h4, hM, rfl⟩
  | g l => exact xex h1 (by simpa using hv) ⟨_, σ, ρ, _, h, Up.refl ρ, h4, hM, rfl⟩
theorem s_fl {t : TypeId} {x : Operand} {k : Nat} (h : (flW m x (fieldOf t k)).f ih e σ c = res) : xs Tryz.prog isI isS [] Eng.noH full (Good w0 ρ c res env (some d)) [⟨some d, .field t x k, ty, pos, af, none⟩] env w := by
  unfold flW at h
  split at h
  · rename_i o u hf
    have hfs : ∃ fs f, Tryz.prog.underlying t = some (.struct fs) ∧ fs[k]? = some f ∧ f.offset = o ∧ f.type = u := by
      unfold fieldOf at hf
      split at hf
      · rename_i fs hu
        split at hf
        · rename_i f hk
          injection hf with hf; injection hf with e1 e2
          exact ⟨fs, f, hu, hk, e1, e2⟩
        · cases hf
      · cases hf
    obtain ⟨fs, f, hu, hk, rfl, rfl⟩ := hfs
    split at h
    · rename_i ho
      rw [cN_eq] at h
      obtain ⟨a, v, h1, h2, h⟩ := gtW_inv hr hE h
      obtain ⟨l, rfl, h⟩ := onG_inv hr h
      obtain ⟨y, hy, h⟩ := nthK_inv hr h
      obtain ⟨vs, h3, rfl⟩ := h2
      obtain ⟨v, hv, h4⟩ := h3.get _ _ hy
      refine x_gen rfl (by simp [opsOK, Op.operands, h1]) ⟨v, fun w' => ?_, _, σ, ρ, _, h, Up.refl ρ, h4.2, hM, rfl⟩
      have := part_one ho (cs := vs.toArray) (by simpa using hv) w'
      simp [execOp, ev_of h1, Instr.field, run_underlying hu, asAgg, hk, this]
    · split at h
      · rename_i n hn
        rw [cN_eq, cN_eq] at h
        obtain ⟨a, v, h1, h2, h⟩ := gtW_inv hr hE h
        obtain ⟨l, rfl, h⟩ := onG_inv hr h
        obtain ⟨_, h⟩ := okK_inv h hr
        rw [fP_eq] at h
        obtain ⟨vs, h3, rfl⟩ := h2
        refine x_gen rfl (by simp [opsOK, Op.operands, h1]) ⟨.agg ((vs.drop f.offset).take n).toArray, fun w' => ?_, _, σ, ρ, _, h, Up.refl ρ, ⟨_, (h3.drop _).take _, rfl⟩, hM, rfl⟩
        have := part_agg hn vs f.offset w'
        simp [execOp, ev_of h1, Instr.field, run_underlying hu, asAgg, hk, this]
      · exact absurd h.symm hr
  · exact absurd h.symm hr
theorem s_el {t : TypeId} {x i : Operand} (h : (elW m t x i).f ih e σ c = res) : xs Tryz.prog isI isS [] Eng.noH full (Good w0 ρ c res env (some d)) [⟨some d, .index t x i, ty, pos, af, none⟩] env w := by
  unfold elW at h
  split at h
  · rename_i n el hu
    split at h
    · rename_i ho
      rw [cN_eq] at h
      obtain ⟨a, b, va, vb, h1, h2, h3, h4, h⟩ := two hr hE h
      obtain ⟨l, rfl, h⟩ := onG_inv hr h
      obtain ⟨k, j, rfl, h⟩ := onN_inv hr h
      obtain ⟨hj, h⟩ := okK_inv h hr
      have hj : j + 1 ≤ n := Nat.le_of_ble_eq_true hj
      obtain ⟨y, hy, h⟩ := nthK_inv hr h
      obtain ⟨vs, h3, rfl⟩ := h3
      obtain ⟨rfl, _⟩ := h4
      obtain ⟨v, hv, h4⟩ := h3.get _ _ hy
      obtain ⟨_, ie, hi, hsz⟩ := one_spec ho
      refine x_gen rfl (by simp [opsOK, Op.operands, h1, h2]) ⟨v, fun w' => ?_, _, σ, ρ, _, h, Up.refl ρ, h4.2, hM, rfl⟩
      have := part_one ho (cs := vs.toArray) (o := j) (by simpa using hv) w'
      simp [execOp, ev_of h1, ev_of h2, Instr.index, asIntOf, run_underlying hu, sizeOf, typeInfo, hi, hsz, this]
      exact fun hh => absurd hj (by omega)
    · split at h
      · rename_i z hn
        rw [cN_eq, cN_eq] at h
        obtain ⟨a, b, va, vb, h1, h2, h3, h4, h⟩ := two hr hE h
        obtain ⟨l, rfl, h⟩ := onG_inv hr h
        obtain ⟨k, j, rfl, h⟩ := onN_inv hr h
        obtain ⟨hj, h⟩ := okK_inv h hr
        have hj : j + 1 ≤ n := Nat.le_of_ble_eq_true hj
        obtain ⟨_, h⟩ := okK_inv h hr
        rw [fP_eq] at h
        obtain ⟨vs, h3, rfl⟩ := h3
        obtain ⟨rfl, _⟩ := h4
        obtain ⟨_, ie, hi, hsz⟩ := agg_spec hn
        refine x_gen rfl (by simp [opsOK, Op.operands, h1, h2]) ⟨.agg ((vs.drop (j * z)).take z).toArray, fun w' => ?_, _, σ, ρ, _, h, Up.refl ρ, ⟨_, (h3.drop _).take _, rfl⟩, hM, rfl⟩
        have := part_agg hn vs (j * z) w'
        simp [execOp, ev_of h1, ev_of h2, Instr.index, asIntOf, run_underlying hu, sizeOf, typeInfo, hi, hsz, this]
        exact fun hh => absurd hj (by omega)
      · exact absurd h.symm hr
  · split at h
    · rename_i hS
      obtain ⟨a, b, va, vb, h1, h2, h3, h4, h⟩ := two hr hE h
      obtain ⟨l, rfl, h⟩ := onS_inv hr h
      obtain ⟨k, j, rfl, h⟩ := onN_inv hr h
      obtain ⟨y, hy, h⟩ := nthK_inv hr h
      obtain ⟨rfl, hl, _⟩ := h3
      obtain ⟨rfl, _⟩ := h4
      have hy8 : y < 256 := hl y (List.mem_of_getElem? hy)
      refine xui (z := UInt8.ofNat y) j hS h1 h2 rfl (by simp [uOf, hy]) ⟨_, σ, ρ, _, h, Up.refl ρ, ⟨?_, by show y ≤ 255; omega⟩, hM, rfl⟩
      simp only [UInt8.toNat_ofNat', Nat.mod_eq_of_lt hy8]
      rfl
    · exact absurd h.symm hr
  · exact absurd h.symm hr
theorem s_bu {t : TypeId} {ps : List (Nat × Operand)} (h : (buW m t ps).f ih e σ c = res) : xs Tryz.prog isI isS [] Eng.noH full (Good w0 ρ c res env (some d)) [⟨some d, .build t ps.toArray, ty, pos, af, none⟩] env w := by
  have key : ∀ {off : Nat → Option (Nat × Nat)}, (∀ i z pvs, Tryz.prog.info? t = some i → i.zero = some z → ∀ cells, Instr.fill off z.cells pvs = some cells → Tryz.prog.built t pvs = some cells) → (bdW m off ps (zA t)).f ih e σ c = res → xs Tryz.prog isI isS [] Eng.noH full (Good w0 ρ c res env (some d)) [⟨some d, .build t ps.toArray, ty, pos, af, none⟩] env w := fun {off} hoff h => by
    unfold bdW at h
    split at h
    · rename_i z hz
      rw [cVs_eq] at h
      obtain ⟨i, v, hi, hv, hl⟩ := zA_inv (ρ := ρ) hz
      obtain ⟨pvs, l', vs', h1, h2, h3, _, h⟩ := ptW_inv hr hE h hl
      exact xbd h1 (hoff i v pvs hi hv _ h2) ⟨_, σ, ρ, _, h, Up.refl ρ, ⟨vs', h3, rfl⟩, hM, rfl⟩
    · exact absurd h.symm hr
  unfold buW at h
  split at h
  · rename_i n z ha
    obtain ⟨el, hu, hz⟩ := arr_inv ha
    obtain ⟨⟨ie, hie, hsz⟩, _⟩ := size_spec hz
    refine key (fun i zv pvs hi hzv cells hf => ?_) h
    unfold Program.built
    simp only [hi, hu, hzv, hie, hsz]
    exact hf
  · split at h
    · rename_i fs hu
      split at h
      · rename_i cz hcz
        refine key (fun i zv pvs hi hzv cells hf => ?_) h
        unfold Program.built at hcz ⊢
        simp only [hi, hu, hzv] at hcz ⊢
        split at hcz
        · rename_i z' pl e1 e2
          obtain rfl := Option.some.inj e1
          refine fill_mono (fun j q hq => ?_) hf
          unfold offS at hq
          split at hq
          · rename_i o u hfo
            unfold fieldOf at hfo
            rw [hu] at hfo
            simp only at hfo
            split at hfo
            · rename_i f hfj
              obtain ⟨rfl, rfl⟩ := Prod.mk.inj (Option.some.inj hfo)
              split at hq
              · rename_i z hz
                obtain rfl := Option.some.inj hq
                obtain ⟨⟨iu, hiu, hsu⟩, _⟩ := size_spec hz
                have := mapM_get e2 (i := j) (x := f) (by simpa using hfj) (p := (f.offset, z)) (by simp [hiu, hsu])
                simpa using this
              · cases hq
            · cases hfo
          · cases hq
        · cases hcz
      · exact absurd h.symm hr
    · exact absurd h.symm hr
omit hr hE hM in
theorem x_mkf {hs : List Nat} {H : World → Prop} {K : Env → World → Prop} {rest : List Oper} {f : FuncId} {caps : List Operand} {vs : List Value} (hc : evs env caps = some vs) (h : xs Tryz.prog isI isS hs H full K rest ((d, .func (.func f) #[] vs.toArray) :: env) w) :
    xs Tryz.prog isI isS hs H full K (⟨some d, .makeFunc (.func f) #[] caps.toArray, ty, pos, af, none⟩ :: rest) env w := by
  obtain ⟨h1, h2⟩ := evs_spec hc
  refine x_gen rfl (by simpa [opsOK, Op.operands] using h2) ⟨_, fun w' => ?_, h⟩
  simp [execOp, Instr.makeFunc, h1]
theorem s_mf {fn : Fn} {a b : List Operand} (h : (mfW m fn a b).f ih e σ c = res) : xs Tryz.prog isI isS [] Eng.noH full (Good w0 ρ c res env (some d)) [⟨some d, .makeFunc fn a.toArray b.toArray, ty, pos, af, none⟩] env w := by
  unfold mfW at h
  split at h
  · split at h
    · obtain ⟨al, vs, h1, h2, h⟩ := gtsW_inv hr hE (show (gtsW m b).f e _ = res from h)
      obtain ⟨g, h3, h⟩ := scK_inv hr h h2
      exact x_mkf h1 ⟨_, σ, ρ, _, h, Up.refl ρ, ⟨vs, h3, rfl⟩, hM, rfl⟩
    · exact absurd h.symm hr
  · exact absurd h.symm hr
end
end Rn
end Eng
end Go.Proofs.YtalnkjpgnkfedaaGreatDoor
