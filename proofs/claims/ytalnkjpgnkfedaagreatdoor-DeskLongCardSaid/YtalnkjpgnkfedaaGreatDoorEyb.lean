/-
  Parts of slices, of texts, of arrays; lengths; the lesser and the greater.
-/
import Derived.Test.YtalnkjpgnkfedaaGreatDoorEya
namespace Go.Proofs.YtalnkjpgnkfedaaGreatDoor
open Go.RowKit
namespace Eng
namespace Rn
def mnB : Bool → Builtin
  | true => .max
  | false => .min
/-- A bound that is given, or is not. -/
def Bnd (env : Env) (x : Option Operand) (dflt b : Nat) : Prop := (x = none ∧ b = dflt) ∨ ∃ o k, x = some o ∧ evo env o = some (.int k (b : Int))
theorem run_st {t : TypeId} {zs : Str} {lo hi : Option Value} {l h : Nat} (hu : Tryz.prog.underlying t = some .string)
    (hl : lo = none ∧ l = 0 ∨ ∃ k, lo = some (.int k (l : Int))) (hh : hi = none ∧ h = zs.length ∨ ∃ k, hi = some (.int k (h : Int))) (h1 : l ≤ h) (h2 : h ≤ zs.length) (w : World) :
    (Instr.sliceAt t (.string (su zs)) lo hi none).run Tryz.prog w = .ok (.string (su ((zs.drop l).take (h - l)))) w := by
  rw [← su_cut]
  rcases hl with ⟨rfl, rfl⟩ | ⟨k, rfl⟩ <;> rcases hh with ⟨rfl, rfl⟩ | ⟨k', rfl⟩ <;>
    simp [Instr.sliceAt, Instr.slice, run_underlying hu, Instr.sliceBounds, Instr.sliceBound, asIntOf, su_size, h1, h2]
  rw [su_cut]
  simp
theorem run_ar {t el : TypeId} {n b o : Nat} {i : TypeInfo} {lo hi : Option Value} {l h : Nat} (hu : Tryz.prog.underlying t = some (.array n el)) (hi' : Tryz.prog.info? el = some i)
    (hl : lo = none ∧ l = 0 ∨ ∃ k, lo = some (.int k (l : Int))) (hh : hi = none ∧ h = n ∨ ∃ k, hi = some (.int k (h : Int))) (h1 : l ≤ h) (h2 : h ≤ n) (w : World) :
    (Instr.sliceAt t (.pointer (some ⟨b, o, none⟩)) lo hi none).run Tryz.prog w = .ok (.slice (some (if n = l then ⟨b, o, none⟩ else ⟨b, o + l * i.size, none⟩)) (h - l) (n - l)) w := by
  rcases hl with ⟨rfl, rfl⟩ | ⟨k, rfl⟩ <;> rcases hh with ⟨rfl, rfl⟩ | ⟨k', rfl⟩ <;>
    simp [Instr.sliceAt, run_underlying hu, Instr.sureAddr, Instr.sliceBounds, Instr.sliceBound, asIntOf, sizeOf, typeInfo, hi', h1, h2, Addr.add_lit]
theorem sl_ops {env : Env} {lo hi : Option Operand} {t : TypeId} {x : Operand} {vx : Value} {d : Tmp} {ty : TypeId} {pos : String} {af : Array Edge} {da db a b : Nat} (hx : evo env x = some vx) (ha : Bnd env lo da a) (hb : Bnd env hi db b) : opsOK env ⟨some d, .slice t x lo hi none, ty, pos, af, none⟩ = true ∧ (lo.map (ev env) = none ∧ a = da ∨ ∃ k, lo.map (ev env) = some (.int k (a : Int))) ∧ (hi.map (ev env) = none ∧ b = db ∨ ∃ k, hi.map (ev env) = some (.int k (b : Int))) := by
  rcases ha with ⟨rfl, rfl⟩ | ⟨oa, ka, rfl, ha⟩ <;> rcases hb with ⟨rfl, rfl⟩ | ⟨ob, kb, rfl, hb⟩
  · exact ⟨by simp [opsOK, Op.operands, hx], .inl ⟨rfl, rfl⟩, .inl ⟨rfl, rfl⟩⟩
  · exact ⟨by simp [opsOK, Op.operands, hx, hb], .inl ⟨rfl, rfl⟩, .inr ⟨kb, by simp [ev_of hb]⟩⟩
  · exact ⟨by simp [opsOK, Op.operands, hx, ha], .inr ⟨ka, by simp [ev_of ha]⟩, .inl ⟨rfl, rfl⟩⟩
  · exact ⟨by simp [opsOK, Op.operands, hx, ha, hb], .inr ⟨ka, by simp [ev_of ha]⟩, .inr ⟨kb, by simp [ev_of hb]⟩⟩
section
variable {m : Nat} {ih : Cl} {e : En} {σ : Mem} {c : Kt} {res : Rs} {ρ : Pl} {env : Env} {w0 : Fm} {w : World} {full : Array Oper} {d : Tmp} {ty : TypeId} {pos : String} {af : Array Edge} (hr : res ≠ .no)
include hr
theorem cutL_inv {id z j n a b : Nat} {p : At} (hp : ρ[id]? = some p) (hz : p.z = z) (hc : j + n ≤ p.c) (hm : p.c ≤ maxLen) (h : cutL σ c id z j n a b = res) : a ≤ b ∧ b ≤ n ∧ ∃ y, c (.v y) σ = res ∧ SR ρ y (.slice (if p.c - j = a then some ⟨p.b, j * z, none⟩ else some ⟨p.b, j * z + a * z, none⟩) (b - a) (p.c - j - a)) := by
  obtain ⟨h1, g1⟩ := okK_inv h hr
  obtain ⟨h2, g2⟩ := okK_inv g1 hr
  have h1 := Nat.le_of_ble_eq_true h1
  have h2 := Nat.le_of_ble_eq_true h2
  refine ⟨h1, h2, ?_⟩
  rw [ifK_eq, ifK_eq, fN_eq, fN_eq] at g2
  have e1 : j * z + a * z = (j + a) * z := by rw [Nat.add_mul]
  split at g2
  · rename_i hb
    have hb : a + 1 ≤ n := Nat.le_of_ble_eq_true hb
    refine ⟨_, g2, p, hp, hz, by show j + a + (b - a) ≤ _; omega, hm, ?_⟩
    rw [if_neg (by omega), e1]
    show Value.slice _ (b - a) _ = Value.slice _ (b - a) (p.c - (j + a))
    rw [Nat.sub_sub]
    rfl
  · rename_i hb
    have hb : n = a := by
      rw [ble_dec] at hb
      have : ¬ Nat.add a 1 ≤ n := by simpa using hb
      have : ¬ a + 1 ≤ n := this
      omega
    split at g2
    · rename_i h0
      have h0 := Nat.eq_of_beq_eq_true h0
      have hb0 : b = 0 := by omega
      refine ⟨_, g2, p, hp, hz, by omega, hm, ?_⟩
      rw [h0, hb0]
      simp
    · refine ⟨_, g2, p, hp, hm, ?_⟩
      rw [show b - a = 0 by omega]
theorem cutX_inv {id z j k a b : Nat} {p : At} (hp : ρ[id]? = some p) (hm : k ≤ maxLen) (h : cutX σ c id z j k a b = res) : a ≤ b ∧ b ≤ k ∧ ∃ y, c (.v y) σ = res ∧ SR ρ y (.slice (if k = a then some ⟨p.b, j * z, none⟩ else some ⟨p.b, j * z + a * z, none⟩) (b - a) (k - a)) := by
  obtain ⟨h1, g1⟩ := okK_inv h hr
  obtain ⟨h2, g2⟩ := okK_inv g1 hr
  have h1 := Nat.le_of_ble_eq_true h1
  have h2 := Nat.le_of_ble_eq_true h2
  refine ⟨h1, h2, ?_⟩
  rw [ifK_eq, fN_eq, fN_eq, fN_eq] at g2
  have e1 : j * z + a * z = (j + a) * z := by rw [Nat.add_mul]
  split at g2
  · rename_i hb
    have hb : a + 1 ≤ k := Nat.le_of_ble_eq_true hb
    refine ⟨_, g2, p, hp, by show b - a ≤ k - a; omega, by show k - a ≤ _; omega, ?_⟩
    rw [if_neg (by omega), e1]
    rfl
  · rename_i hb
    have hb : k = a := by
      rw [ble_dec] at hb
      have : ¬ Nat.add a 1 ≤ k := by simpa using hb
      have : ¬ a + 1 ≤ k := this
      omega
    refine ⟨_, g2, p, hp, Nat.le_refl _, Nat.zero_le _, ?_⟩
    rw [show b - a = 0 by omega, if_pos hb, show k - a = 0 by omega]
variable (hE : ER m ρ e env) (hM : MR w0 ρ σ w)
include hE
theorem bnW_inv {x : Option Operand} {dflt : Nat} {k : Nat → Rs} (h : (bnW m x).f e dflt k = res) : ∃ b, Bnd env x dflt b ∧ k b = res := by
  unfold bnW at h
  split at h
  · exact ⟨dflt, .inl ⟨rfl, rfl⟩, h⟩
  · rename_i o
    obtain ⟨a, v, h1, h2, h⟩ := gtW_inv hr hE h
    obtain ⟨kk, b, e0, h0⟩ := onN_inv hr h; subst e0; have h := h0
    exact ⟨b, .inr ⟨o, kk, rfl, by rw [h1, h2.1]; rfl⟩, h⟩
include hM
theorem s_sl {t : TypeId} {x : Operand} {lo hi mx : Option Operand} (h : (slW m t x lo hi mx).f ih e σ c = res) : xs Tryz.prog isI isS [] Eng.noH full (Good w0 ρ c res env (some d)) [⟨some d, .slice t x lo hi mx, ty, pos, af, none⟩] env w := by
  unfold slW at h
  split at h
  · rename_i hS
    split at h
    · obtain ⟨q, v, h1, h2, h⟩ := gtW_inv hr hE h
      obtain ⟨a, ha, h⟩ := bnW_inv hr hE h
      obtain ⟨l, e0, h0⟩ := onS_inv hr h; subst e0; have h := h0
      rw [fN_eq] at h
      obtain ⟨b, hb, h⟩ := bnW_inv hr hE h
      obtain ⟨hab, h⟩ := okK_inv h hr
      obtain ⟨hbl, h⟩ := okK_inv h hr
      rw [fP_eq] at h
      have hab := Nat.le_of_ble_eq_true hab
      have hbl := Nat.le_of_ble_eq_true hbl
      obtain ⟨rfl, h3, h4⟩ := h2
      obtain ⟨ho, hl, hh⟩ := sl_ops (t := t) (d := d) (ty := ty) (pos := pos) (af := af) h1 ha hb
      have hlen : (uOf l).length = l.length := by simp [uOf]
      refine x_gen rfl ho ⟨_, fun w' => ?_, _, σ, ρ, _, h, Up.refl ρ, ⟨rfl, fun q hq => h3 q (List.mem_of_mem_drop (List.mem_of_mem_take hq)), ?_⟩, hM, rfl⟩
      · have := run_st (zs := uOf l) (str_spec hS) hl (by rw [hlen]; exact hh) hab (by rw [hlen]; exact hbl) w'
        have e1 : uOf (List.take (Nat.sub b a) (List.drop a l)) = ((uOf l).drop a).take (b - a) := by
          show ((l.drop a).take (b - a)).map _ = ((l.map _).drop a).take (b - a)
          rw [List.map_take, List.map_drop]
        rw [e1]
        simp [execOp, ev_of h1, this]
      · rw [List.length_take, List.length_drop]
        omega
    · exact absurd h.symm hr
  · split at h
    · rename_i z' hz
      rw [cN_eq] at h
      obtain ⟨el, i, hu, hi', hsz⟩ := es_spec hz
      split at h
      · obtain ⟨q, v, h1, h2, h⟩ := gtW_inv hr hE h
        obtain ⟨a, ha, h⟩ := bnW_inv hr hE h
        have go : ∀ (A : Option Addr) (n k b : Nat) (y : SV), v = .slice A n k → Bnd env hi n b → a ≤ b → b ≤ k → c (.v y) σ = res → SR ρ y (.slice (if k = a then A else A.map (·.add (a * i.size))) (b - a) (k - a)) → xs Tryz.prog isI isS [] Eng.noH full (Good w0 ρ c res env (some d)) [⟨some d, .slice t x lo hi none, ty, pos, af, none⟩] env w := fun A n k b y hv hb hab hbk hc hy => by
          subst hv
          obtain ⟨ho, hl, hh⟩ := sl_ops (t := t) (d := d) (ty := ty) (pos := pos) (af := af) h1 ha hb
          refine x_gen rfl ho ⟨_, fun w' => ?_, _, σ, ρ, _, hc, Up.refl ρ, hy, hM, rfl⟩
          have := run_sl (A := A) (n := n) (c := k) hu hi' hl hh hab hbk w'
          simp [execOp, ev_of h1, this]
        rcases onL_inv hr h with ⟨e0, h0⟩ | ⟨id, z, j, n, e0, h0⟩ | ⟨id, z, j, n, k, e0, h0⟩ | ⟨_, _, _, _, e0, h0⟩ | ⟨l, e0, h0⟩ | ⟨id, o, e0, h0⟩ <;> (subst e0; have h := h0)
        · obtain ⟨b, hb, h⟩ := bnW_inv hr hE h
          obtain ⟨h3, h⟩ := okK_inv h hr
          obtain ⟨h4, h⟩ := okK_inv h hr
          have h3 := Nat.eq_of_beq_eq_true h3
          have h4 := Nat.eq_of_beq_eq_true h4
          subst h3; subst h4
          exact go none 0 0 0 .l0 h2 hb (Nat.le_refl _) (Nat.le_refl _) h rfl
        · obtain ⟨hzz, h⟩ := okK_inv h hr
          have hzz := Nat.eq_of_beq_eq_true hzz
          obtain ⟨b, hb, h⟩ := bnW_inv hr hE h
          obtain ⟨p, hp, hpz, hpc, hm, rfl⟩ := h2
          obtain ⟨hab, hbn, y, h, hy⟩ := cutL_inv hr hp hpz hpc hm h
          refine go _ n (p.c - j) b y rfl hb hab (by omega) h ?_
          rw [hsz, ← hzz]
          simpa [Addr.add_lit] using hy
        · obtain ⟨hzz, h⟩ := okK_inv h hr
          have hzz := Nat.eq_of_beq_eq_true hzz
          obtain ⟨b, hb, h⟩ := bnW_inv hr hE h
          obtain ⟨p, hp, hnk, hm, rfl⟩ := h2
          obtain ⟨hab, hbn, y, h, hy⟩ := cutX_inv hr hp hm h
          refine go _ n k b y rfl hb hab hbn h ?_
          rw [hsz, ← hzz]
          simpa [Addr.add_lit] using hy
        · exact absurd h.symm hr
        · exact absurd h.symm hr
        · exact absurd h.symm hr
      · rename_i mo
        split at h
        · rename_i ho
          obtain ⟨q, v, h1, h2, h⟩ := gtW_inv hr hE h
          obtain ⟨a, ha, h⟩ := bnW_inv hr hE h
          obtain ⟨b, hb, h⟩ := bnW_inv hr hE h
          obtain ⟨k, hk, h⟩ := bnW_inv hr hE h
          rcases onL_inv hr h with ⟨e0, h0⟩ | ⟨id, z, j, n, e0, h0⟩ | ⟨id, z, j, n, q0, e0, h0⟩ | ⟨_, _, _, _, e0, h0⟩ | ⟨l, e0, h0⟩ | ⟨id, o, e0, h0⟩ <;> (subst e0; have h := h0)
          · exact absurd h.symm hr
          · obtain ⟨hzz, h⟩ := okK_inv h hr
            have hzz := Nat.eq_of_beq_eq_true hzz
            obtain ⟨hkn, h⟩ := okK_inv h hr
            have hkn := Nat.le_of_ble_eq_true hkn
            obtain ⟨p, hp, hpz, hpc, hm, rfl⟩ := h2
            obtain ⟨hab, hbk, y, hcc, hy⟩ := cutX_inv hr hp (by omega) h
            rcases hb with ⟨hb, _⟩ | ⟨ob, kb, hb, hb'⟩
            · cases hb
            · injection hb with hb; subst hb
              rcases hk with ⟨hk, _⟩ | ⟨om, km, hk, hk'⟩
              · cases hk
              · injection hk with hk; subst hk
                have hy' : SR ρ y (.slice (if k = a then some ⟨p.b, j * z, none⟩ else (some (⟨p.b, j * z, none⟩ : Addr)).map (·.add (a * i.size))) (b - a) (k - a)) := by
                  rw [hsz, ← hzz]
                  simpa [Addr.add_lit] using hy
                have hkc : k ≤ p.c - j := by omega
                rcases ha with ⟨rfl, rfl⟩ | ⟨oa, ka, rfl, ha'⟩
                · refine x_gen rfl (by simp [opsOK, Op.operands, h1, hb', hk']) ⟨_, fun w' => ?_, _, σ, ρ, _, hcc, Up.refl ρ, hy', hM, rfl⟩
                  simp [execOp, ev_of h1, ev_of hb', ev_of hk', Instr.sliceAt, Instr.slice, run_underlying hu, Instr.sliceBounds, Instr.sliceBound, asIntOf, sizeOf, typeInfo, hi', hbk, hkc]
                · refine x_gen rfl (by simp [opsOK, Op.operands, h1, ha', hb', hk']) ⟨_, fun w' => ?_, _, σ, ρ, _, hcc, Up.refl ρ, hy', hM, rfl⟩
                  simp [execOp, ev_of h1, ev_of ha', ev_of hb', ev_of hk', Instr.sliceAt, Instr.slice, run_underlying hu, Instr.sliceBounds, Instr.sliceBound, asIntOf, sizeOf, typeInfo, hi', hab, hbk, hkc]
          · obtain ⟨hzz, h⟩ := okK_inv h hr
            have hzz := Nat.eq_of_beq_eq_true hzz
            obtain ⟨hkn, h⟩ := okK_inv h hr
            have hkn := Nat.le_of_ble_eq_true hkn
            obtain ⟨p, hp, hnk, hm, rfl⟩ := h2
            obtain ⟨hab, hbk, y, hcc, hy⟩ := cutX_inv hr hp (by omega) h
            rcases hb with ⟨hb, _⟩ | ⟨ob, kb, hb, hb'⟩
            · cases hb
            · injection hb with hb; subst hb
              rcases hk with ⟨hk, _⟩ | ⟨om, km, hk, hk'⟩
              · cases hk
              · injection hk with hk; subst hk
                have hy' : SR ρ y (.slice (if k = a then some ⟨p.b, j * z, none⟩ else (some (⟨p.b, j * z, none⟩ : Addr)).map (·.add (a * i.size))) (b - a) (k - a)) := by
                  rw [hsz, ← hzz]
                  simpa [Addr.add_lit] using hy
                have hkc : k ≤ q0 := hkn
                rcases ha with ⟨rfl, rfl⟩ | ⟨oa, ka, rfl, ha'⟩
                · refine x_gen rfl (by simp [opsOK, Op.operands, h1, hb', hk']) ⟨_, fun w' => ?_, _, σ, ρ, _, hcc, Up.refl ρ, hy', hM, rfl⟩
                  simp [execOp, ev_of h1, ev_of hb', ev_of hk', Instr.sliceAt, Instr.slice, run_underlying hu, Instr.sliceBounds, Instr.sliceBound, asIntOf, sizeOf, typeInfo, hi', hbk, hkc]
                · refine x_gen rfl (by simp [opsOK, Op.operands, h1, ha', hb', hk']) ⟨_, fun w' => ?_, _, σ, ρ, _, hcc, Up.refl ρ, hy', hM, rfl⟩
                  simp [execOp, ev_of h1, ev_of ha', ev_of hb', ev_of hk', Instr.sliceAt, Instr.slice, run_underlying hu, Instr.sliceBounds, Instr.sliceBound, asIntOf, sizeOf, typeInfo, hi', hab, hbk, hkc]
          · exact absurd h.symm hr
          · exact absurd h.symm hr
          · exact absurd h.symm hr
        · exact absurd h.symm hr
    · split at h
      · rename_i n ha'
        rw [cN_eq] at h
        obtain ⟨el, hu, hz⟩ := arr_inv ha'
        obtain ⟨⟨ie, hi', hsz⟩, _⟩ := size_spec hz
        obtain ⟨q, v, h1, h2, h⟩ := gtW_inv hr hE h
        obtain ⟨a, ha, h⟩ := bnW_inv hr hE h
        obtain ⟨b, hb, h⟩ := bnW_inv hr hE h
        obtain ⟨id, o, e0, h0⟩ := onP_inv hr h; subst e0; have h := h0
        obtain ⟨hn, h⟩ := okK_inv h hr
        have hn := Nat.le_of_ble_eq_true hn
        obtain ⟨p, hp, rfl⟩ := h2
        obtain ⟨hab, hbn, y, h, hy⟩ := cutX_inv hr hp hn h
        obtain ⟨ho, hl, hh⟩ := sl_ops (t := t) (d := d) (ty := ty) (pos := pos) (af := af) h1 ha hb
        refine x_gen rfl ho ⟨_, fun w' => ?_, _, σ, ρ, _, h, Up.refl ρ, hy, hM, rfl⟩
        have := run_ar (b := p.b) (o := o) hu hi' hl hh hab hbn w'
        by_cases hna : n = a
        · rw [if_pos hna] at this
          simp [execOp, ev_of h1, this, hna]
        · rw [if_neg hna] at this
          simp [execOp, ev_of h1, this, hna, hsz]
      · exact absurd h.symm hr
theorem s_ln {t : TypeId} {x : Operand} (h : (lnW m t x).f ih e σ c = res) : xs Tryz.prog isI isS [] Eng.noH full (Good w0 ρ c res env (some d)) [⟨some d, .call { callee := .builtin .len, args := ⟨[x]⟩, argTypes := ⟨[t]⟩ }, ty, pos, af, none⟩] env w := by
  unfold lnW at h
  split at h
  · rename_i hS
    obtain ⟨q, v, h1, h2, h⟩ := gtW_inv hr hE h
    obtain ⟨l, e0, h0⟩ := onS_inv hr h; subst e0; have h := h0
    have h := (fN_eq _ _).symm.trans h
    obtain ⟨hb, h⟩ := okK_inv h hr
    have hb := Nat.le_of_ble_eq_true hb
    obtain ⟨rfl, _⟩ := h2
    have hlen : (uOf l).length = l.length := by simp [uOf]
    exact xuln h1 hS ⟨_, σ, ρ, _, h, Up.refl ρ, ⟨by rw [hlen]; rfl, hb⟩, hM, rfl⟩
  · split at h
    · rename_i z hz
      obtain ⟨q, v, h1, h2, h⟩ := gtW_inv hr hE h
      have go : ∀ (A : Option Addr) (n k : Nat) (y : SV), v = .slice A n k → c (.v y) σ = res → SR ρ y (.int .i64 (n : Int)) → xs Tryz.prog isI isS [] Eng.noH full (Good w0 ρ c res env (some d)) [⟨some d, .call { callee := .builtin .len, args := ⟨[x]⟩, argTypes := ⟨[t]⟩ }, ty, pos, af, none⟩] env w := fun A n k y hv hc hy => by
        subst hv
        exact xln h1 (by simp only [lnV, hz]) ⟨_, σ, ρ, _, hc, Up.refl ρ, hy, hM, rfl⟩
      rcases onL_inv hr h with ⟨e0, h0⟩ | ⟨id, z, j, n, e0, h0⟩ | ⟨id, z, j, n, k, e0, h0⟩ | ⟨_, _, _, _, e0, h0⟩ | ⟨l, e0, h0⟩ | ⟨id, o, e0, h0⟩ <;> (subst e0; have h := h0)
      · exact go _ _ _ _ h2 h ⟨rfl, Nat.zero_le _⟩
      · obtain ⟨hb, h⟩ := okK_inv h hr
        obtain ⟨p, _, _, _, _, rfl⟩ := h2
        exact go _ _ _ _ rfl h ⟨rfl, Nat.le_of_ble_eq_true hb⟩
      · obtain ⟨hb, h⟩ := okK_inv h hr
        obtain ⟨p, _, _, _, rfl⟩ := h2
        exact go _ _ _ _ rfl h ⟨rfl, Nat.le_of_ble_eq_true hb⟩
      · obtain ⟨A, k, rfl, _⟩ := SR.le_inv h2
        exact go _ _ _ _ rfl h ⟨rfl, Nat.zero_le _⟩
      · exact absurd h.symm hr
      · exact absurd h.symm hr
    · exact absurd h.symm hr
theorem s_mn {up : Bool} {t u : TypeId} {x y : Operand} (h : (mnW up m x y).f ih e σ c = res) : xs Tryz.prog isI isS [] Eng.noH full (Good w0 ρ c res env (some d)) [⟨some d, .call { callee := .builtin (mnB up), args := ⟨[x, y]⟩, argTypes := ⟨[t, u]⟩ }, ty, pos, af, none⟩] env w := by
  obtain ⟨a, b, va, vb, h1, h2, h3, h4, h⟩ := two hr hE h
  have key : ∀ (k : IntKind) (p q : Int), va = .int k p → vb = .int k q → AR ρ a va → AR ρ b vb → ifK (eB up (bI p q)) (c b σ) (c a σ) = res → xs Tryz.prog isI isS [] Eng.noH full (Good w0 ρ c res env (some d)) [⟨some d, .call { callee := .builtin (mnB up), args := ⟨[x, y]⟩, argTypes := ⟨[t, u]⟩ }, ty, pos, af, none⟩] env w := fun k p q e1 e2 ha hb h => by
    subst e1; subst e2
    rw [ifK_eq, eB_eq, bI_eq] at h
    cases up with
    | true =>
      by_cases hpq : p < q
      · rw [if_pos (by simp [hpq])] at h
        exact xmax h1 h2 ⟨_, σ, ρ, _, h, Up.refl ρ, by rw [show max p q = q by omega]; exact hb, hM, rfl⟩
      · rw [if_neg (by simp [hpq])] at h
        exact xmax h1 h2 ⟨_, σ, ρ, _, h, Up.refl ρ, by rw [show max p q = p by omega]; exact ha, hM, rfl⟩
    | false =>
      by_cases hpq : p < q
      · rw [if_neg (by simp [hpq])] at h
        exact xmin h1 h2 ⟨_, σ, ρ, _, h, Up.refl ρ, by rw [show min p q = p by omega]; exact ha, hM, rfl⟩
      · rw [if_pos (by simp [hpq])] at h
        exact xmin h1 h2 ⟨_, σ, ρ, _, h, Up.refl ρ, by rw [show min p q = q by omega]; exact hb, hM, rfl⟩
  rcases onI_inv hr h with ⟨k, p, rfl, h⟩ | ⟨k, p, rfl, h⟩ <;> rcases onI_inv hr h with ⟨k', q, rfl, h⟩ | ⟨k', q, rfl, h⟩ <;> (obtain ⟨ek, h9⟩ := kkK_inv hr h; clear h; subst ek; have h := h9) <;> exact key k _ _ h3.1 h4.1 h3 h4 h
end
end Rn
end Eng
end Go.Proofs.YtalnkjpgnkfedaaGreatDoor
