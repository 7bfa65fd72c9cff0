/-
  Parts of the proof: Eyb, Eyc, Eyd, Eye, Eyf, Eymp, Exv, Eyg, Eyj, Eyk, Eyl, Eyh.
-/
import Derived.ArgAppend
import Derived.Laws.Cover2
import Derived.Laws.Cover3
import Derived.Laws.Externs
import Derived.Laws.FloatArith
import Derived.Laws.IdiomStrings
import Derived.Lib.AppendStr
import Derived.Lib.Mul64
import Derived.Test.YtpfelapckcojjaaGreatDoorQB0a
import Derived.Test.YtpfelapckcojjaaGreatDoorQB0b
set_option maxRecDepth 100000
set_option maxHeartbeats 64000000
namespace Go.Proofs.YtpfelapckcojjaaGreatDoor
open Go.RowKit
namespace Eng
namespace Rn
def mnB : Bool → Builtin
 | true => .max
 | false => .min
def Bnd (env : Env) (x : Option Operand) (dflt b : Nat) : Prop := (x = none ∧ b = dflt) ∨ ∃ o k, x = some o ∧ evo env o = some (.int k (b : Int))
theorem run_st {t : TypeId} {zs : Str} {lo hi : Option Value} {l h : Nat} (hu : Tryz.prog.underlying t = some .string)
  (hl : lo = none ∧ l = 0 ∨ ∃ k, lo = some (.int k (l : Int))) (hh : hi = none ∧ h = zs.length ∨ ∃ k, hi = some (.int k (h : Int))) (h1 : l ≤ h) (h2 : h ≤ zs.length) (w : World) :
  (Instr.sliceAt t (.string (su zs)) lo hi none).run Tryz.prog w = .ok (.string (su ((zs.drop l).take (h - l)))) w := by
 rw [← su_cut]
 rcases hl with ⟨rfl, rfl⟩ | ⟨k, rfl⟩ <;> rcases hh with ⟨rfl, rfl⟩ | ⟨k', rfl⟩ <;>
  simp [Instr.sliceAt, Instr.slice, run_underlying hu, Instr.sliceBounds, Instr.sliceBound, asIntOf, su_size, h1, h2]
 rw [su_cut]
 simp
theorem run_ar {t el : TypeId} {n b o : Nat} {i : TypeInfo} {lo hi : Option Value} {l h : Nat} (hu : Tryz.prog.underlying t = some (.array n el)) (hi' : Tryz.prog.info? el = some i)
  (hl : lo = none ∧ l = 0 ∨ ∃ k, lo = some (.int k (l : Int))) (hh : hi = none ∧ h = n ∨ ∃ k, hi = some (.int k (h : Int))) (h1 : l ≤ h) (h2 : h ≤ n) (w : World) :
  (Instr.sliceAt t (.pointer (some ⟨b, o, none⟩)) lo hi none).run Tryz.prog w = .ok (.slice (some (if n = l then ⟨b, o, none⟩ else ⟨b, o + l * i.size, none⟩)) (h - l) (n - l)) w := by
 rcases hl with ⟨rfl, rfl⟩ | ⟨k, rfl⟩ <;> rcases hh with ⟨rfl, rfl⟩ | ⟨k', rfl⟩ <;>
  simp [Instr.sliceAt, run_underlying hu, Instr.sureAddr, Instr.sliceBounds, Instr.sliceBound, asIntOf, sizeOf, typeInfo, hi', h1, h2, Addr.add_lit]
theorem sl_ops {env : Env} {lo hi : Option Operand} {t : TypeId} {x : Operand} {vx : Value} {d : Tmp} {ty : TypeId} {pos : String} {af : Array Edge} {da db a b : Nat} (hx : evo env x = some vx) (ha : Bnd env lo da a) (hb : Bnd env hi db b) : opsOK env ⟨some d, .slice t x lo hi none, ty, pos, af, none⟩ = true ∧ (lo.map (ev env) = none ∧ a = da ∨ ∃ k, lo.map (ev env) = some (.int k (a : Int))) ∧ (hi.map (ev env) = none ∧ b = db ∨ ∃ k, hi.map (ev env) = some (.int k (b : Int))) := by
 rcases ha with ⟨rfl, rfl⟩ | ⟨oa, ka, rfl, ha⟩ <;> rcases hb with ⟨rfl, rfl⟩ | ⟨ob, kb, rfl, hb⟩
 ·exact ⟨by simp [opsOK, Op.operands, hx], .inl ⟨rfl, rfl⟩, .inl ⟨rfl, rfl⟩⟩
 ·exact ⟨by simp [opsOK, Op.operands, hx, hb], .inl ⟨rfl, rfl⟩, .inr ⟨kb, by simp [ev_of hb]⟩⟩
 ·exact ⟨by simp [opsOK, Op.operands, hx, ha], .inr ⟨ka, by simp [ev_of ha]⟩, .inl ⟨rfl, rfl⟩⟩
 ·exact ⟨by simp [opsOK, Op.operands, hx, ha, hb], .inr ⟨ka, by simp [ev_of ha]⟩, .inr ⟨kb, by simp [ev_of hb]⟩⟩
section
variable {m : Nat} {ih : Cl} {e : En} {σ : Mem} {c : Kt} {res : Rs} {ρ : Pl} {env : Env} {w0 : Fm} {w : World} {full : Array Oper} {d : Tmp} {ty : TypeId} {pos : String} {af : Array Edge} (hr : res ≠ .no)
include hr
theorem cutL_inv (hM : MR w0 ρ σ w) {id z j n a b : Nat} {p : At} (hp : ρ[id]? = some p) (hz : p.z = z) (hc : j + n ≤ p.c) (hm : p.c ≤ maxLen) (h : cutL σ c id z j n a b = res) : a ≤ b ∧ b ≤ p.c - j ∧ ∃ y, c (.v y) σ = res ∧ SR ρ y (.slice (if p.c - j = a then some ⟨p.b, j * z, none⟩ else some ⟨p.b, j * z + a * z, none⟩) (b - a) (p.c - j - a)) := by
 obtain ⟨h1, g1⟩ := okK_inv h hr
 have h1 := Nat.le_of_ble_eq_true h1
 refine ⟨h1, ?_⟩
 have e1 : j * z + a * z = (j + a) * z := by rw [Nat.add_mul]
 rw [ifK_eq] at g1
 split at g1
 ·rename_i h2
  have h2 : b ≤ n := Nat.le_of_ble_eq_true h2
  refine ⟨by omega, ?_⟩
  rw [ifK_eq, ifK_eq, fN_eq, fN_eq] at g1
  split at g1
  ·rename_i hb
   have hb : a + 1 ≤ n := Nat.le_of_ble_eq_true hb
   refine ⟨_, g1, p, hp, hz, by show j + a + (b - a) ≤ _; omega, hm, ?_⟩
   rw [if_neg (by omega), e1]
   show Value.slice _ (b - a) _ = Value.slice _ (b - a) (p.c - (j + a))
   rw [Nat.sub_sub]
   rfl
  ·rename_i hb
   have hb : n = a := by
    rw [ble_dec] at hb
    have : ¬ Nat.add a 1 ≤ n := by simpa using hb
    have : ¬ a + 1 ≤ n := this
    omega
   split at g1
   ·rename_i h0
    have h0 := Nat.eq_of_beq_eq_true h0
    have hb0 : b = 0 := by omega
    refine ⟨_, g1, p, hp, hz, by omega, hm, ?_⟩
    rw [h0, hb0]
    simp
   ·refine ⟨_, g1, p, hp, hm, ?_⟩
    rw [show b - a = 0 by omega]
 ·obtain ⟨h3, g2⟩ := okK_inv g1 hr
  obtain ⟨h4, g3⟩ := okK_inv g2 hr
  have h3 : a + 1 ≤ b := Nat.le_of_ble_eq_true h3
  have h4 : 1 ≤ z := Nat.le_of_ble_eq_true h4
  obtain ⟨ob, l, k1, k2, k3, g4⟩ := rdK_inv hr g3
  have k4 := k3 0 (by decide)
  rw [Nat.add_zero] at k4
  cases l with
  | nil => cases k2
  | cons x l =>
   have k4 : cget σ id ((j + b) * z - 1) = some x := k4
   obtain ⟨q, _, cs, v, q1, _, _, q2, q3, _⟩ := hM.at_ k4
   rw [hp] at q1
   obtain rfl := Option.some.inj q1
   have q4 := (Array.getElem?_eq_some_iff.1 q3).1
   rw [← q2, hz] at q4
   have q5 : (j + b) * z ≤ p.c * z := by omega
   have q6 : j + b ≤ p.c := Nat.le_of_mul_le_mul_right q5 h4
   refine ⟨by omega, ?_⟩
   rw [fN_eq, fN_eq] at g4
   refine ⟨_, g4, p, hp, hz, by show j + a + (b - a) ≤ _; omega, hm, ?_⟩
   rw [if_neg (by omega), e1]
   show Value.slice _ (b - a) _ = Value.slice _ (b - a) (p.c - (j + a))
   rw [Nat.sub_sub]
   rfl
theorem cutX_inv {id z j k a b : Nat} {p : At} (hp : ρ[id]? = some p) (hm : k ≤ maxLen) (h : cutX σ c id z j k a b = res) : a ≤ b ∧ b ≤ k ∧ ∃ y, c (.v y) σ = res ∧ SR ρ y (.slice (if k = a then some ⟨p.b, j * z, none⟩ else some ⟨p.b, j * z + a * z, none⟩) (b - a) (k - a)) := by
 obtain ⟨h1, g1⟩ := okK_inv h hr
 obtain ⟨h2, g2⟩ := okK_inv g1 hr
 have h1 := Nat.le_of_ble_eq_true h1
 have h2 := Nat.le_of_ble_eq_true h2
 refine ⟨h1, h2, ?_⟩
 rw [ifK_eq, fN_eq, fN_eq, fN_eq] at g2
 have e1 : j * z + a * z = (j + a) * z := by rw [Nat.add_mul]
 split at g2
 ·rename_i hb
  have hb : a + 1 ≤ k := Nat.le_of_ble_eq_true hb
  refine ⟨_, g2, p, hp, by show b - a ≤ k - a; omega, by show k - a ≤ _; omega, ?_⟩
  rw [if_neg (by omega), e1]
  rfl
 ·rename_i hb
  have hb : k = a := by
   rw [ble_dec] at hb
   have : ¬ Nat.add a 1 ≤ k := by simpa using hb
   have : ¬ a + 1 ≤ k := this
   omega
  refine ⟨_, g2, p, hp, Nat.le_refl _, Nat.zero_le _, ?_⟩
  rw [show b - a = 0 by omega, if_pos hb, show k - a = 0 by omega]
variable (hE : ER m ρ e env) (hM : MR w0 ρ σ w)
include hE
theorem bnW_inv {x : Option Operand} {dflt : Nat} {k : Nat → Rs} (h : (bnW m x).f e dflt k = res) : ∃ b, Bnd env x dflt b ∧ k b = res := by
 unfold bnW at h
 split at h
 ·exact ⟨dflt, .inl ⟨rfl, rfl⟩, h⟩
 ·rename_i o
  obtain ⟨a, v, h1, h2, h⟩ := gtW_inv hr hE h
  obtain ⟨kk, b, e0, h0⟩ := onN_inv hr h; subst e0; have h := h0
  exact ⟨b, .inr ⟨o, kk, rfl, by rw [h1, h2.1]; rfl⟩, h⟩
include hM
theorem s_sl {t : TypeId} {x : Operand} {lo hi mx : Option Operand} (h : (slW m t x lo hi mx).f ih e σ c = res) : xs Tryz.prog isI isS [] Eng.noH full (Good w0 ρ c res env (some d)) [⟨some d, .slice t x lo hi mx, ty, pos, af, none⟩] env w := by
 unfold slW at h
 split at h
 ·rename_i hS
  split at h
  ·obtain ⟨q, v, h1, h2, h⟩ := gtW_inv hr hE h
   obtain ⟨a, ha, h⟩ := bnW_inv hr hE h
   obtain ⟨l, e0, h0⟩ := onS_inv hr h; subst e0; have h := h0
   rw [fN_eq] at h
   obtain ⟨b, hb, h⟩ := bnW_inv hr hE h
   obtain ⟨hab, h⟩ := okK_inv h hr
   obtain ⟨hbl, h⟩ := okK_inv h hr
   rw [fP_eq] at h
   have hab := Nat.le_of_ble_eq_true hab
   have hbl := Nat.le_of_ble_eq_true hbl
   obtain ⟨rfl, h3, h4⟩ := h2
   obtain ⟨ho, hl, hh⟩ := sl_ops (t := t) (d := d) (ty := ty) (pos := pos) (af := af) h1 ha hb
   have hlen : (uOf l).length = l.length := by simp [uOf]
   refine x_gen rfl ho ⟨_, fun w' => ?_, _, σ, ρ, _, h, Up.refl ρ, ⟨rfl, fun q hq => h3 q (List.mem_of_mem_drop (List.mem_of_mem_take hq)), ?_⟩, hM, rfl⟩
   ·have := run_st (zs := uOf l) (str_spec hS) hl (by rw [hlen]; exact hh) hab (by rw [hlen]; exact hbl) w'
    have e1 : uOf (List.take (Nat.sub b a) (List.drop a l)) = ((uOf l).drop a).take (b - a) := by
     show ((l.drop a).take (b - a)).map _ = ((l.map _).drop a).take (b - a)
     rw [List.map_take, List.map_drop]
    rw [e1]
    simp [execOp, ev_of h1, this]
   ·rw [List.length_take, List.length_drop]
    omega
  ·exact absurd h.symm hr
 ·split at h
  ·rename_i z' hz
   rw [cN_eq] at h
   obtain ⟨el, i, hu, hi', hsz⟩ := es_spec hz
   split at h
   ·obtain ⟨q, v, h1, h2, h⟩ := gtW_inv hr hE h
    obtain ⟨a, ha, h⟩ := bnW_inv hr hE h
    have go : ∀ (A : Option Addr) (n k b : Nat) (y : SV), v = .slice A n k → Bnd env hi n b → a ≤ b → b ≤ k → c (.v y) σ = res → SR ρ y (.slice (if k = a then A else A.map (·.add (a * i.size))) (b - a) (k - a)) → xs Tryz.prog isI isS [] Eng.noH full (Good w0 ρ c res env (some d)) [⟨some d, .slice t x lo hi none, ty, pos, af, none⟩] env w := fun A n k b y hv hb hab hbk hc hy => by
     subst hv
     obtain ⟨ho, hl, hh⟩ := sl_ops (t := t) (d := d) (ty := ty) (pos := pos) (af := af) h1 ha hb
     refine x_gen rfl ho ⟨_, fun w' => ?_, _, σ, ρ, _, hc, Up.refl ρ, hy, hM, rfl⟩
     have := run_sl (A := A) (n := n) (c := k) hu hi' hl hh hab hbk w'
     simp [execOp, ev_of h1, this]
    rcases onL_inv hr h with ⟨e0, h0⟩ | ⟨id, z, j, n, e0, h0⟩ | ⟨id, z, j, n, k, e0, h0⟩ | ⟨_, _, _, _, e0, h0⟩ | ⟨l, e0, h0⟩ | ⟨id, o, e0, h0⟩ <;> (subst e0; have h := h0)
    ·obtain ⟨b, hb, h⟩ := bnW_inv hr hE h
     obtain ⟨h3, h⟩ := okK_inv h hr
     obtain ⟨h4, h⟩ := okK_inv h hr
     have h3 := Nat.eq_of_beq_eq_true h3
     have h4 := Nat.eq_of_beq_eq_true h4
     subst h3; subst h4
     exact go none 0 0 0 .l0 h2 hb (Nat.le_refl _) (Nat.le_refl _) h rfl
    ·obtain ⟨hzz, h⟩ := okK_inv h hr
     have hzz := Nat.eq_of_beq_eq_true hzz
     obtain ⟨b, hb, h⟩ := bnW_inv hr hE h
     obtain ⟨p, hp, hpz, hpc, hm, rfl⟩ := h2
     obtain ⟨hab, hbn, y, h, hy⟩ := cutL_inv hr hM hp hpz hpc hm h
     refine go _ n (p.c - j) b y rfl hb hab (by omega) h ?_
     rw [hsz, ← hzz]
     simpa [Addr.add_lit] using hy
    ·obtain ⟨hzz, h⟩ := okK_inv h hr
     have hzz := Nat.eq_of_beq_eq_true hzz
     obtain ⟨b, hb, h⟩ := bnW_inv hr hE h
     obtain ⟨p, hp, hnk, hm, rfl⟩ := h2
     obtain ⟨hab, hbn, y, h, hy⟩ := cutX_inv hr hp hm h
     refine go _ n k b y rfl hb hab hbn h ?_
     rw [hsz, ← hzz]
     simpa [Addr.add_lit] using hy
    ·exact absurd h.symm hr
    ·exact absurd h.symm hr
    ·exact absurd h.symm hr
   ·rename_i mo
    split at h
    ·rename_i ho
     obtain ⟨q, v, h1, h2, h⟩ := gtW_inv hr hE h
     obtain ⟨a, ha, h⟩ := bnW_inv hr hE h
     obtain ⟨b, hb, h⟩ := bnW_inv hr hE h
     obtain ⟨k, hk, h⟩ := bnW_inv hr hE h
     rcases onL_inv hr h with ⟨e0, h0⟩ | ⟨id, z, j, n, e0, h0⟩ | ⟨id, z, j, n, q0, e0, h0⟩ | ⟨_, _, _, _, e0, h0⟩ | ⟨l, e0, h0⟩ | ⟨id, o, e0, h0⟩ <;> (subst e0; have h := h0)
     ·exact absurd h.symm hr
     ·obtain ⟨hzz, h⟩ := okK_inv h hr
      have hzz := Nat.eq_of_beq_eq_true hzz
      obtain ⟨hkn, h⟩ := okK_inv h hr
      have hkn := Nat.le_of_ble_eq_true hkn
      obtain ⟨p, hp, hpz, hpc, hm, rfl⟩ := h2
      obtain ⟨hab, hbk, y, hcc, hy⟩ := cutX_inv hr hp (by omega) h
      rcases hb with ⟨hb, _⟩ | ⟨ob, kb, hb, hb'⟩
      ·cases hb
      ·injection hb with hb; subst hb
       rcases hk with ⟨hk, _⟩ | ⟨om, km, hk, hk'⟩
       ·cases hk
       ·injection hk with hk; subst hk
        have hy' : SR ρ y (.slice (if k = a then some ⟨p.b, j * z, none⟩ else (some (⟨p.b, j * z, none⟩ : Addr)).map (·.add (a * i.size))) (b - a) (k - a)) := by
         rw [hsz, ← hzz]
         simpa [Addr.add_lit] using hy
        have hkc : k ≤ p.c - j := by omega
        rcases ha with ⟨rfl, rfl⟩ | ⟨oa, ka, rfl, ha'⟩
        ·refine x_gen rfl (by simp [opsOK, Op.operands, h1, hb', hk']) ⟨_, fun w' => ?_, _, σ, ρ, _, hcc, Up.refl ρ, hy', hM, rfl⟩
         simp [execOp, ev_of h1, ev_of hb', ev_of hk', Instr.sliceAt, Instr.slice, run_underlying hu, Instr.sliceBounds, Instr.sliceBound, asIntOf, sizeOf, typeInfo, hi', hbk, hkc]
        ·refine x_gen rfl (by simp [opsOK, Op.operands, h1, ha', hb', hk']) ⟨_, fun w' => ?_, _, σ, ρ, _, hcc, Up.refl ρ, hy', hM, rfl⟩
         simp [execOp, ev_of h1, ev_of ha', ev_of hb', ev_of hk', Instr.sliceAt, Instr.slice, run_underlying hu, Instr.sliceBounds, Instr.sliceBound, asIntOf, sizeOf, typeInfo, hi', hab, hbk, hkc]
     ·obtain ⟨hzz, h⟩ := okK_inv h hr
      have hzz := Nat.eq_of_beq_eq_true hzz
      obtain ⟨hkn, h⟩ := okK_inv h hr
      have hkn := Nat.le_of_ble_eq_true hkn
      obtain ⟨p, hp, hnk, hm, rfl⟩ := h2
      obtain ⟨hab, hbk, y, hcc, hy⟩ := cutX_inv hr hp (by omega) h
      rcases hb with ⟨hb, _⟩ | ⟨ob, kb, hb, hb'⟩
      ·cases hb
      ·injection hb with hb; subst hb
       rcases hk with ⟨hk, _⟩ | ⟨om, km, hk, hk'⟩
       ·cases hk
       ·injection hk with hk; subst hk
        have hy' : SR ρ y (.slice (if k = a then some ⟨p.b, j * z, none⟩ else (some (⟨p.b, j * z, none⟩ : Addr)).map (·.add (a * i.size))) (b - a) (k - a)) := by
         rw [hsz, ← hzz]
         simpa [Addr.add_lit] using hy
        have hkc : k ≤ q0 := hkn
        rcases ha with ⟨rfl, rfl⟩ | ⟨oa, ka, rfl, ha'⟩
        ·refine x_gen rfl (by simp [opsOK, Op.operands, h1, hb', hk']) ⟨_, fun w' => ?_, _, σ, ρ, _, hcc, Up.refl ρ, hy', hM, rfl⟩
         simp [execOp, ev_of h1, ev_of hb', ev_of hk', Instr.sliceAt, Instr.slice, run_underlying hu, Instr.sliceBounds, Instr.sliceBound, asIntOf, sizeOf, typeInfo, hi', hbk, hkc]
        ·refine x_gen rfl (by simp [opsOK, Op.operands, h1, ha', hb', hk']) ⟨_, fun w' => ?_, _, σ, ρ, _, hcc, Up.refl ρ, hy', hM, rfl⟩
         simp [execOp, ev_of h1, ev_of ha', ev_of hb', ev_of hk', Instr.sliceAt, Instr.slice, run_underlying hu, Instr.sliceBounds, Instr.sliceBound, asIntOf, sizeOf, typeInfo, hi', hab, hbk, hkc]
     ·exact absurd h.symm hr
     ·exact absurd h.symm hr
     ·exact absurd h.symm hr
    ·exact absurd h.symm hr
  ·split at h
   ·rename_i n ha'
    rw [cN_eq] at h
    obtain ⟨el, hu, hz⟩ := arr_inv ha'
    obtain ⟨⟨ie, hi', hsz⟩, _⟩ := size_spec hz
    obtain ⟨q, v, h1, h2, h⟩ := gtW_inv hr hE h
    obtain ⟨a, ha, h⟩ := bnW_inv hr hE h
    obtain ⟨b, hb, h⟩ := bnW_inv hr hE h
    obtain ⟨id, o, e0, h0⟩ := onP_inv hr h; subst e0; have h := h0
    obtain ⟨hn, h⟩ := okK_inv h hr
    have hn := Nat.le_of_ble_eq_true hn
    obtain ⟨p, hp, rfl⟩ := h2
    obtain ⟨hab, hbn, y, h, hy⟩ := cutX_inv hr hp hn h
    obtain ⟨ho, hl, hh⟩ := sl_ops (t := t) (d := d) (ty := ty) (pos := pos) (af := af) h1 ha hb
    refine x_gen rfl ho ⟨_, fun w' => ?_, _, σ, ρ, _, h, Up.refl ρ, hy, hM, rfl⟩
    have := run_ar (b := p.b) (o := o) hu hi' hl hh hab hbn w'
    by_cases hna : n = a
    ·rw [if_pos hna] at this
     simp [execOp, ev_of h1, this, hna]
    ·rw [if_neg hna] at this
     simp [execOp, ev_of h1, this, hna, hsz]
   ·exact absurd h.symm hr
theorem s_ln {t : TypeId} {x : Operand} (h : (lnW m t x).f ih e σ c = res) : xs Tryz.prog isI isS [] Eng.noH full (Good w0 ρ c res env (some d)) [⟨some d, .call { callee := .builtin .len, args := ⟨[x]⟩, argTypes := ⟨[t]⟩ }, ty, pos, af, none⟩] env w := by
 unfold lnW at h
 split at h
 ·rename_i hS
  obtain ⟨q, v, h1, h2, h⟩ := gtW_inv hr hE (show (gtW m x).f e _ = res from h)
  split at h
  ·rename_i l hl
   obtain rfl := slO_some hl
   have h := (fN_eq _ _).symm.trans h
   obtain ⟨hb, h⟩ := okK_inv h hr
   have hb := Nat.le_of_ble_eq_true hb
   obtain ⟨rfl, _⟩ := h2
   have hlen : (l.map (ucOf ρ)).length = l.length := by simp
   exact xuln h1 hS ⟨_, σ, ρ, _, h, Up.refl ρ, ⟨by rw [hlen]; rfl, hb⟩, hM, rfl⟩
  obtain ⟨l, e0, h0⟩ := onS_inv hr h; subst e0; have h := h0
  have h := (fN_eq _ _).symm.trans h
  obtain ⟨hb, h⟩ := okK_inv h hr
  have hb := Nat.le_of_ble_eq_true hb
  obtain ⟨rfl, _⟩ := h2
  have hlen : (uOf l).length = l.length := by simp [uOf]
  exact xuln h1 hS ⟨_, σ, ρ, _, h, Up.refl ρ, ⟨by rw [hlen]; rfl, hb⟩, hM, rfl⟩
 ·split at h
  ·rename_i z hz
   obtain ⟨q, v, h1, h2, h⟩ := gtW_inv hr hE h
   have go : ∀ (A : Option Addr) (n k : Nat) (y : SV), v = .slice A n k → c (.v y) σ = res → SR ρ y (.int .i64 (n : Int)) → xs Tryz.prog isI isS [] Eng.noH full (Good w0 ρ c res env (some d)) [⟨some d, .call { callee := .builtin .len, args := ⟨[x]⟩, argTypes := ⟨[t]⟩ }, ty, pos, af, none⟩] env w := fun A n k y hv hc hy => by
    subst hv
    exact xln h1 (by simp only [lnV, hz]) ⟨_, σ, ρ, _, hc, Up.refl ρ, hy, hM, rfl⟩
   rcases onL_inv hr h with ⟨e0, h0⟩ | ⟨id, z, j, n, e0, h0⟩ | ⟨id, z, j, n, k, e0, h0⟩ | ⟨_, _, _, _, e0, h0⟩ | ⟨l, e0, h0⟩ | ⟨id, o, e0, h0⟩ <;> (subst e0; have h := h0)
   ·exact go _ _ _ _ h2 h ⟨rfl, Nat.zero_le _⟩
   ·obtain ⟨hb, h⟩ := okK_inv h hr
    obtain ⟨p, _, _, _, _, rfl⟩ := h2
    exact go _ _ _ _ rfl h ⟨rfl, Nat.le_of_ble_eq_true hb⟩
   ·obtain ⟨hb, h⟩ := okK_inv h hr
    obtain ⟨p, _, _, _, rfl⟩ := h2
    exact go _ _ _ _ rfl h ⟨rfl, Nat.le_of_ble_eq_true hb⟩
   ·obtain ⟨A, k, rfl, _⟩ := SR.le_inv h2
    exact go _ _ _ _ rfl h ⟨rfl, Nat.zero_le _⟩
   ·exact absurd h.symm hr
   ·exact absurd h.symm hr
  ·exact absurd h.symm hr
theorem s_mn {up : Bool} {t u : TypeId} {x y : Operand} (h : (mnW up m x y).f ih e σ c = res) : xs Tryz.prog isI isS [] Eng.noH full (Good w0 ρ c res env (some d)) [⟨some d, .call { callee := .builtin (mnB up), args := ⟨[x, y]⟩, argTypes := ⟨[t, u]⟩ }, ty, pos, af, none⟩] env w := by
 obtain ⟨a, b, va, vb, h1, h2, h3, h4, h⟩ := two hr hE h
 have key : ∀ (k : IntKind) (p q : Int), va = .int k p → vb = .int k q → AR ρ a va → AR ρ b vb → ifK (eB up (bI p q)) (c b σ) (c a σ) = res → xs Tryz.prog isI isS [] Eng.noH full (Good w0 ρ c res env (some d)) [⟨some d, .call { callee := .builtin (mnB up), args := ⟨[x, y]⟩, argTypes := ⟨[t, u]⟩ }, ty, pos, af, none⟩] env w := fun k p q e1 e2 ha hb h => by
  subst e1; subst e2
  rw [ifK_eq, eB_eq, bI_eq] at h
  cases up with
  | true =>
   by_cases hpq : p < q
   ·rw [if_pos (by simp [hpq])] at h
    exact xmax h1 h2 ⟨_, σ, ρ, _, h, Up.refl ρ, by rw [show max p q = q by omega]; exact hb, hM, rfl⟩
   ·rw [if_neg (by simp [hpq])] at h
    exact xmax h1 h2 ⟨_, σ, ρ, _, h, Up.refl ρ, by rw [show max p q = p by omega]; exact ha, hM, rfl⟩
  | false =>
   by_cases hpq : p < q
   ·rw [if_neg (by simp [hpq])] at h
    exact xmin h1 h2 ⟨_, σ, ρ, _, h, Up.refl ρ, by rw [show min p q = p by omega]; exact ha, hM, rfl⟩
   ·rw [if_pos (by simp [hpq])] at h
    exact xmin h1 h2 ⟨_, σ, ρ, _, h, Up.refl ρ, by rw [show min p q = q by omega]; exact hb, hM, rfl⟩
 rcases onI_inv hr h with ⟨k, p, rfl, h⟩ | ⟨k, p, rfl, h⟩ <;> rcases onI_inv hr h with ⟨k', q, rfl, h⟩ | ⟨k', q, rfl, h⟩ <;> (obtain ⟨ek, h9⟩ := kkK_inv hr h; clear h; subst ek; have h := h9) <;> exact key k _ _ h3.1 h4.1 h3 h4 h
end
end Rn
end Eng
end Go.Proofs.YtpfelapckcojjaaGreatDoor
namespace Go.Proofs.YtpfelapckcojjaaGreatDoor
open Go.RowKit
namespace Eng
namespace Rn
theorem Bk.put {g : Nat} {t : TypeId} : ∀ {vs : List Value} {o : Nat} {w : World} {cs : Array Value}, Bk w g t cs → o + vs.length ≤ cs.size → ∃ cs', Bk (w.setCells g o vs) g t cs' ∧ cs'.size = cs.size ∧ (∀ k, cs'[k]? = if o ≤ k ∧ k < o + vs.length then vs[k - o]? else cs[k]?) ∧ Fr (fun b => b = g) w (w.setCells g o vs)
 | [], o, w, cs, h, _ => ⟨cs, h, rfl, fun k => by rw [if_neg (by simp)], Fr.refl _ _⟩
 | v :: vs, o, w, cs, h, hl => by
  have hl' : o + (vs.length + 1) ≤ cs.size := hl
  have h1 : Bk (w.setCell ⟨g, o, none⟩ v) g t (cs.setIfInBounds o v) := by
   obtain ⟨f, h, hf⟩ := h
   refine ⟨f, ?_, by simpa using hf⟩
   unfold World.setCell
   simp [Array.getElem?_modify, h]
  obtain ⟨cs', h2, h3, h4, h5⟩ := Bk.put (vs := vs) (o := o + 1) h1 (by simp; omega)
  refine ⟨cs', h2, by simpa using h3, fun k => ?_, (Fr.setCell (fun b => b = g) w ⟨g, o, none⟩ v (fun _ => rfl)).t h5⟩
  rw [h4 k]
  simp only [List.length_cons]
  by_cases hk : k = o
  ·subst hk
   rw [if_neg (by omega), if_pos (by omega), Array.getElem?_setIfInBounds_self_of_lt (by omega)]
   simp
  ·rw [Array.getElem?_setIfInBounds_ne (fun e => hk e.symm)]
   by_cases hh : o + 1 ≤ k ∧ k < o + 1 + vs.length
   ·rw [if_pos hh, if_pos (by omega)]
    obtain ⟨q, rfl⟩ : ∃ q, k = o + 1 + q := ⟨k - (o + 1), by omega⟩
    rw [show o + 1 + q - (o + 1) = q by omega, show o + 1 + q - o = q + 1 by omega]
    rfl
   ·rw [if_neg hh, if_neg (by omega)]
theorem MR.cells {ρ : Pl} {σ : Mem} {w0 : Fm} {w : World} (h : MR w0 ρ σ w) {id : Nat} {p : At} (hp : ρ[id]? = some p) : ∀ {l : List SV} {o : Nat}, (∀ i, i < l.length → cget σ id (o + i) = l[i]?) → ∃ vs, SRs ρ l vs ∧ ∀ (j : Nat) u, vs[j]? = some u → w.cell? ⟨p.b, o + j, none⟩ = some u ∧ w.frozen? ⟨p.b, o + j, none⟩ = false
 | [], o, _ => ⟨[], .nil, fun j u hu => by cases hu⟩
 | x :: l, o, hl => by
  have h0 := hl 0 (by simp)
  simp only [Nat.add_zero] at h0
  obtain ⟨v, h1, h2, h3⟩ := h.cell (x := x) h0 hp
  obtain ⟨vs, h4, h5⟩ := h.cells hp (l := l) (o := o + 1) (fun i hi => by
   have := hl (i + 1) (by simp; omega)
   rw [show o + 1 + i = o + (i + 1) by omega, this]
   rfl)
  refine ⟨v :: vs, .cons h2 h4, fun j u hu => ?_⟩
  cases j with
  | zero => injection hu with hu; subst hu; exact ⟨h1, h3⟩
  | succ j =>
   have := h5 j u hu
   rwa [show o + 1 + j = o + (j + 1) by omega] at this
theorem madeCells_get (z : Array Value) (n i : Nat) : (madeCells z n)[i]? = if i < n then some (z[i % z.size]!) else none := by
 unfold madeCells
 rw [Array.getElem?_map]
 by_cases h : i < n
 ·rw [if_pos h]; simp [h]
 ·rw [if_neg h]; simp [h]
theorem rep_len (l : List SV) (n : Nat) : (rep l n).length = n * l.length := by
 induction n with
 | zero => rw [Nat.zero_mul]; rfl
 | succ n ih =>
  show (l ++ rep l n).length = _
  rw [List.length_append, ih, Nat.succ_mul]
  omega
theorem rep_get (l : List SV) (hl : 0 < l.length) : ∀ (n i : Nat), i < n * l.length → (rep l n)[i]? = l[i % l.length]?
 | 0, i, h => by omega
 | n + 1, i, h => by
  show (l ++ rep l n)[i]? = _
  rw [Nat.succ_mul] at h
  by_cases hi : i < l.length
  ·rw [List.getElem?_append_left hi, Nat.mod_eq_of_lt hi]
  ·rw [List.getElem?_append_right (by omega), rep_get l hl n _ (by omega)]
   congr 1
   conv => rhs; rw [show i = i - l.length + l.length by omega, Nat.add_mod_right]
theorem rep_rel {ρ : Pl} {zs : List SV} {z : Array Value} (h : SRs ρ zs z.toList) (n : Nat) : SRs ρ (rep zs n) (madeCells z (n * zs.length)).toList := by
 have hz := h.len
 simp only [Array.length_toList] at hz
 rcases Nat.eq_zero_or_pos zs.length with h0 | h0
 ·have e : rep zs n = [] := List.eq_nil_of_length_eq_zero (by rw [rep_len, h0, Nat.mul_zero])
  rw [e, h0, Nat.mul_zero]
  have e2 : (madeCells z 0).toList = [] := by simp [madeCells]
  rw [e2]
  exact .nil
 ·refine SRs.of (by rw [rep_len, Array.length_toList, size_madeCells]) fun i x hx => ?_
  have hi : i < n * zs.length := by
   have := (List.getElem?_eq_some_iff.1 hx).1
   rwa [rep_len] at this
  rw [rep_get zs h0 n i hi] at hx
  obtain ⟨v, hv, hr⟩ := h.get _ _ hx
  refine ⟨v, ?_, hr⟩
  rw [Array.getElem?_toList, madeCells_get, if_pos hi, hz]
  rw [Array.getElem?_toList] at hv
  rw [getElem!_def, hv]
theorem an_inv {a b : Bool} (h : an a b = true) : a = true ∧ b = true := by
 cases a with
 | true => exact ⟨rfl, h⟩
 | false => cases h
section
variable {m : Nat} {ih : Cl} {e : En} {σ : Mem} {c : Kt} {res : Rs} {ρ : Pl} {env : Env} {w0 : Fm} {w : World} {full : Array Oper} {d : Tmp} {ty : TypeId} {pos : String} {af : Array Edge} (hr : res ≠ .no)
theorem x_st {K : Env → World → Prop} {hs : List Nat} {H : World → Prop} {rest : List Oper} {t : TypeId} {x y : Operand} {b o : Nat} {v : Value} {vs : List Value} (hx : evo env x = some (.pointer (some ⟨b, o, none⟩))) (hy : evo env y = some v) (hsz : ∃ i, Tryz.prog.info? t = some i ∧ i.size = vs.length) (hv : v.cells = vs.toArray)
  (hc : ∀ j, j < vs.length → (w.cell? ⟨b, o + j, none⟩).isSome = true) (hf : ∀ j, j < vs.length → w.frozen? ⟨b, o + j, none⟩ = false) (h1 : ∀ u ∈ vs, u.oneCell' = true)
  (h : xs Tryz.prog isI isS hs H full K rest env (w.setCells b o vs)) (hH : H (w.setCells b o vs)) : xs Tryz.prog isI isS hs H full K (⟨none, .store t x y, ty, pos, af, none⟩ :: rest) env w := by
 obtain ⟨i, h4, h5⟩ := hsz
 refine x_gen rfl (by simp [opsOK, Op.operands, hx, hy]) ?_
 have hr := run_storeCells_cells (P := Tryz.prog) b o vs 0 w (by simpa using hc) (by simpa using hf) h1
 simp only [Nat.add_zero] at hr
 show out Tryz.prog ((execOp (ev env) ⟨none, .store t x y, ty, pos, af, none⟩).run Tryz.prog w) _
 have e : (execOp (ev env) ⟨none, .store t x y, ty, pos, af, none⟩).run Tryz.prog w = .ok .skip (w.setCells b o vs) := by
  simp [execOp, ev_of hx, ev_of hy, Instr.storeAt, Instr.sureAddr, storeVar, hv, sizeOf, typeInfo, h4, h5, hr]
 rw [e]
 exact ⟨hH, h⟩
include hr
theorem wr_step (hM : MR w0 ρ σ w) {id o : Nat} {l : List SV} {vs : List Value} {k : Mem → Rs} {p : At} (h : wrK σ id o l k = res) (hp : ρ[id]? = some p) (hl : SRs ρ l vs) (hne : 0 < l.length) :
  ∃ σ', k σ' = res ∧ (∀ j, j < vs.length → (w.cell? ⟨p.b, o + j, none⟩).isSome = true) ∧ (∀ j, j < vs.length → w.frozen? ⟨p.b, o + j, none⟩ = false) ∧ MR w0 ρ σ' (w.setCells p.b o vs) ∧ Fr (fun b => b = p.b) w (w.setCells p.b o vs) := by
 obtain ⟨ob, m', σ', h1, h2, h3, h4, h5, h6, h7⟩ := wrK_inv hr h
 have hlen := hl.len
 have hlive : ∀ j, j < vs.length → ∃ x, cget σ id (o + j) = some x := fun j hj => by
  have := h3 j (by omega)
  unfold cget
  rw [h1]
  exact Option.isSome_iff_exists.1 this
 have hcell : ∀ j, j < vs.length → ∃ v, w.cell? ⟨p.b, o + j, none⟩ = some v ∧ w.frozen? ⟨p.b, o + j, none⟩ = false := fun j hj => by
  obtain ⟨x, hx⟩ := hlive j hj
  obtain ⟨v, a1, _, a3⟩ := hM.cell hx hp
  exact ⟨v, a1, a3⟩
 obtain ⟨x0, hx0⟩ := hlive 0 (by omega)
 obtain ⟨q, ob', cs, v, b1, b2, b3, b4, b5, _⟩ := hM.at_ hx0
 rw [hp] at b1; obtain rfl := Option.some.inj b1
 rw [h1] at b2; obtain rfl := Option.some.inj b2
 have hfit : o + vs.length ≤ cs.size := by
  obtain ⟨v, a1, _⟩ := hcell (vs.length - 1) (by omega)
  rw [b3.cell] at a1
  have := (Array.getElem?_eq_some_iff.1 a1).1
  omega
 obtain ⟨cs', c1, c2, c3, c4⟩ := b3.put (vs := vs) hfit
 refine ⟨σ', h7, fun j hj => ?_, fun j hj => ?_, hM.wr h1 h2 h3 h4 h5 h6 hp b3 c1 c2 (fun k => by rw [c3 k, hlen]) c4 hl hne, c4⟩
 ·obtain ⟨v, a1, _⟩ := hcell j hj
  rw [a1]; rfl
 ·obtain ⟨v, _, a2⟩ := hcell j hj
  exact a2
theorem new_step (hM : MR w0 ρ σ w) {w' : World} {el : TypeId} {l : List SV} {vs : List Value} {cs : Array Value} {k : Nat → Mem → Rs} (n z : Nat) (h : newK σ el l k = res) (hnz : n * z = cs.size) (hB : Bk w' w.heap.size el cs) (hcs : ∀ (o : Nat) v, vs[o]? = some v → cs[o]? = some v) (hE : Ext w w') (hl : SRs ρ l vs) :
  ∃ σ', k σ.n σ' = res ∧ MR w0 (ρ ++ [⟨w.heap.size, n, z⟩]) σ' w' ∧ (ρ ++ [(⟨w.heap.size, n, z⟩ : At)])[σ.n]? = some ⟨w.heap.size, n, z⟩ := by
 obtain ⟨ob, σ', h1, h2, h3, h4, h5, h6, h7⟩ := newK_inv hr h
 exact ⟨σ', h7, hM.new n z hnz h1 h2 h3 h4 h5 h6 hB hcs hE hl, by rw [← hM.len]; simp⟩
variable (hE : ER m ρ e env) (hM : MR w0 ρ σ w)
include hE hM
theorem s_ld {t : TypeId} {x : Operand} (h : (ldW m t x).f ih e σ c = res) : xs Tryz.prog isI isS [] Eng.noH full (Good w0 ρ c res env (some d)) [⟨some d, .load t x, ty, pos, af, none⟩] env w := by
 unfold ldW at h
 split at h
 ·rename_i ht
  obtain ⟨a, v, h1, h2, g1⟩ := gtW_inv hr hE h
  obtain ⟨id, o, e0, g2⟩ := onP_inv hr g1
  obtain ⟨ob, g3, g4⟩ := obK_inv hr g2
  obtain ⟨y, g5, g6⟩ := getK_inv hr g4
  subst e0
  obtain ⟨p, h3, rfl⟩ := h2
  have hy : cget σ id o = some y := cget_iff.2 ⟨ob, g3, g5⟩
  obtain ⟨u, h4, h5, _⟩ := hM.cell hy h3
  exact xld h1 ht h4 ⟨_, σ, ρ, _, g6, Up.refl ρ, h5.2, hM, rfl⟩
 ·split at h
  ·rename_i n hn
   rw [cN_eq] at h
   obtain ⟨a, v, h1, h2, g1⟩ := gtW_inv hr hE h
   obtain ⟨id, o, e0, g2⟩ := onP_inv hr g1
   obtain ⟨ob, l, g3, g4, g5, g6⟩ := rdK_inv hr g2
   subst e0
   obtain ⟨p, h3, rfl⟩ := h2
   obtain ⟨vs, h4, h5⟩ := hM.cells h3 (l := l) (o := o) (fun i hi => g5 i (by omega))
   exact xldz h1 (by rw [h4.len, g4]; exact hn) (fun j u hu => (h5 j u hu).1) ⟨_, σ, ρ, _, g6, Up.refl ρ, ⟨vs, h4, rfl⟩, hM, rfl⟩
  ·exact absurd h.symm hr
theorem s_st {t : TypeId} {x y : Operand} (h : (stW m t x y).f ih e σ c = res) : xs Tryz.prog isI isS [] Eng.noH full (Good w0 ρ c res env none) [⟨none, .store t x y, ty, pos, af, none⟩] env w := by
 have key : ∀ (id o : Nat) (l : List SV) (vs : List Value) (vx v : Value), evo env x = some vx → SR ρ (.p id o) vx → evo env y = some v → v.cells = vs.toArray → SRs ρ l vs → 0 < l.length → (∃ i, Tryz.prog.info? t = some i ∧ i.size = vs.length) → wrK σ id o l (fun σ => c (.v .u) σ) = res → xs Tryz.prog isI isS [] Eng.noH full (Good w0 ρ c res env none) [⟨none, .store t x y, ty, pos, af, none⟩] env w := fun id o l vs vx v h1 h2 h3 h4 h5 h6 h7 h => by
  obtain ⟨p, hp, rfl⟩ := h2
  obtain ⟨σ', g1, g2, g3, g4, _⟩ := wr_step hr hM h hp h5 h6
  exact x_st h1 h3 h7 h4 g2 g3 h5.cells ⟨_, σ', ρ, undef, g1, Up.refl ρ, rfl, g4, rfl⟩ trivial
 unfold stW at h
 split at h
 ·rename_i ht
  obtain ⟨a, b, va, vb, h1, h2, h3, h4, g1⟩ := two hr hE h
  obtain ⟨id, o, e0, g2⟩ := onP_inv hr g1
  rcases onV_inv hr g2 with ⟨u1, e1, g3⟩ | ⟨l, e1, g3⟩
  ·obtain ⟨hn, g4⟩ := okK_inv g3 hr
   subst e0; subst e1
   obtain ⟨_, i, hi, hs⟩ := one_spec ht
   refine key id o [u1] [vb] va vb h1 h3 h2 (SR.cells h4) (.cons ⟨hn, h4⟩ .nil) (by simp) ⟨i, hi, hs⟩ ?_
   have e2 : wrK σ id o [u1] (fun σ => c (.v .u) σ) = obK σ id fun ob => updK ob.d o u1 ob.m fun m => fN (Nat.add o 1) fun _ => updK dI id ⟨ob.e, ob.d, ob.n, m⟩ σ.h fun h => c (.v .u) ⟨σ.n, h, σ.mp⟩ := rfl
   rw [e2]
   simp only [fN_eq]
   exact g4
  ·exact absurd g3.symm hr
 ·split at h
  ·rename_i n hn
   rw [cN_eq] at h
   obtain ⟨a, b, va, vb, h1, h2, h3, h4, g1⟩ := two hr hE h
   obtain ⟨id, o, e0, g2⟩ := onP_inv hr g1
   obtain ⟨l, e1, g3⟩ := onG_inv hr g2
   obtain ⟨hl, g4⟩ := okK_inv g3 hr
   obtain ⟨hl1, g5⟩ := okK_inv g4 hr
   have hl := Nat.eq_of_beq_eq_true hl
   have hl1 : 1 ≤ n := Nat.le_of_ble_eq_true hl1
   subst e0; subst e1
   obtain ⟨vs, h5, rfl⟩ := h4
   obtain ⟨_, i, hi, hs⟩ := agg_spec hn
   exact key id o l vs va _ h1 h3 h2 rfl h5 (by omega) ⟨i, hi, by rw [h5.len, hl]; exact hs⟩ g5
  ·exact absurd h.symm hr
omit hE in
theorem s_al {t : TypeId} (h : (alW t (zA t)).f ih e σ c = res) : xs Tryz.prog isI isS [] Eng.noH full (Good w0 ρ c res env (some d)) [⟨some d, .alloc t, ty, pos, af, none⟩] env w := by
 unfold alW at h
 split at h
 ·rename_i z hz
  rw [cVs_eq] at h
  obtain ⟨i, v, hi, hv, hl⟩ := zA_inv (ρ := ρ) hz
  refine xalloc (z := v) (by rw [hi]; exact hv) (fun w' hB hX _ => ?_)
  obtain ⟨σ', g1, g2, g3⟩ := new_step hr hM v.cells.size 1 h (by simp) (Blk.bk hB) (fun o u hu => by simpa using hu) hX hl
  exact ⟨_, σ', _, _, g1, Up.snoc _ _, ⟨_, g3, rfl⟩, g2, rfl⟩
 ·exact absurd h.symm hr
theorem s_bx {t : TypeId} {x : Operand} (h : (bxW m t x).f ih e σ c = res) : xs Tryz.prog isI isS [] Eng.noH full (Good w0 ρ c res env (some d)) [⟨some d, .box t x, ty, pos, af, none⟩] env w := by
 obtain ⟨a, v, h1, h2, g1⟩ := gtW_inv hr hE (show (gtW m x).f e _ = res from h)
 have key : ∀ (l : List SV), SRs ρ l v.cells.toList → newK σ t l (fun id σ => c (.v (.p id 0)) σ) = res → xs Tryz.prog isI isS [] Eng.noH full (Good w0 ρ c res env (some d)) [⟨some d, .box t x, ty, pos, af, none⟩] env w := fun l hl h => by
  refine xbox h1 (fun w' hB hX _ => ?_)
  obtain ⟨σ', g1, g2, g3⟩ := new_step hr hM v.cells.size 1 h (by simp) (Blk.bk hB) (fun o u hu => by simpa using hu) hX hl
  exact ⟨_, σ', _, _, g1, Up.snoc _ _, ⟨_, g3, rfl⟩, g2, rfl⟩
 rcases onV_inv hr g1 with ⟨u1, e1, g3⟩ | ⟨l, e1, g3⟩
 ·obtain ⟨hn, g4⟩ := okK_inv g3 hr
  subst e1
  refine key [u1] ?_ g4
  rw [SR.cells h2]
  exact .cons ⟨hn, h2⟩ .nil
 ·subst e1
  obtain ⟨vs, h5, rfl⟩ := h2
  exact key l h5 g3
omit hE in
theorem s_rw0 {t : TypeId} (h : (rw0 (elemOf t)).f ih e σ c = res) : xs Tryz.prog isI isS [] Eng.noH full (Good w0 ρ c res env (some d)) [⟨some d, .buildSlice t 0 #[], ty, pos, af, none⟩] env w := by
 unfold rw0 at h
 split at h
 ·rename_i el z hel
  rw [cN_eq] at h
  obtain ⟨hu, hsz⟩ := elemOf_inv hel
  obtain ⟨⟨ie, hie, hz⟩, _⟩ := size_spec hsz
  have hE0 : Array.map (fun _ : Nat => (default : Value)) (Array.range 0) = #[] := by simp
  refine xw (by simp [opsOK, Op.operands]) rfl (v := .slice (some ⟨w.heap.size, 0, none⟩) 0 0) (w' := w.alloc (.cells #[] el)) ?_ ?_ trivial
  ·simp [execOp, Instr.buildSlice, run_underlying hu, sizeOf, typeInfo, hie, Instr.fill, newRow]
   first | rw [hE0] | simp
  ·obtain ⟨σ', q1, q2, q3⟩ := new_step hr hM 0 z (show newK σ el [] (fun id σ => c (.v (.lx id z 0 0 0)) σ) = res from h) (by simp) (Blk.bk (Blk.new w el #[])) (vs := []) (fun o u hu => by cases hu) (Fr.alloc _ _ _) .nil
   exact ⟨_, σ', _, _, q1, Up.snoc _ _, ⟨_, q3, Nat.le_refl _, Nat.zero_le _, by simp⟩, q2, rfl⟩
 ·exact absurd h.symm hr
theorem s_rw {t : TypeId} {n : Nat} {ps : List (Nat × Operand)} (h : (rwW m n ps (elemOf t)).f ih e σ c = res) : xs Tryz.prog isI isS [] Eng.noH full (Good w0 ρ c res env (some d)) [⟨some d, .buildSlice t n ps.toArray, ty, pos, af, none⟩] env w := by
 unfold rwW at h
 split at h
 ·exact s_rw0 hr hM h
 split at h
 ·rename_i el z hel
  obtain ⟨hu, hsz⟩ := elemOf_inv hel
  obtain ⟨⟨ie, hie, hz⟩, _⟩ := size_spec hsz
  split at h
  ·rename_i zs hzs
   split at h
   ·exact absurd h.symm hr
   ·rename_i hchk
    rw [cN_eq, cN_eq, cVs_eq] at h
    obtain ⟨k1, hchk⟩ := an_inv hchk
    obtain ⟨k2, hchk⟩ := an_inv hchk
    obtain ⟨k3, k4⟩ := an_inv hchk
    have k1 := Nat.eq_of_beq_eq_true k1
    have k2 := Nat.le_of_ble_eq_true k2
    have k3 := Nat.le_of_ble_eq_true k3
    have k4 : n * z ≤ 16777216 := Nat.le_of_ble_eq_true k4
    obtain ⟨i, v, hi, hv, hl⟩ := zA_inv (ρ := ρ) hzs
    rw [hie] at hi; obtain rfl := Option.some.inj hi
    have hrep := rep_rel hl n
    rw [k1] at hrep
    obtain ⟨pvs, l', vs', h1, h2, h3, hlen', g1⟩ := ptW_inv hr hE h hrep
    obtain ⟨he, ho⟩ := evq_spec h1
    have hpos : 0 < n * z := Nat.mul_pos (by omega) (by omega)
    have hrun := run_buildSlice (P := Tryz.prog) w t el n ((ps.map fun p => (p.1, ev env p.2)).toArray) vs'.toArray ie v hu hie hv (by rw [hz]; omega) (by rw [hz]; omega) (by
     show Instr.fill _ _ (ps.map fun p => (p.1, ev env p.2)) = _
     rw [he, hz]
     exact h2)
    have hlen' : vs'.length = n * z := by rw [hlen', Array.length_toList, size_madeCells]
    refine xw (by simp only [opsOK, Op.operands]; rw [List.all_eq_true]; intro x hx; simp at hx; obtain ⟨j, hj⟩ := hx; exact ho _ hj) rfl (v := .slice (some ⟨w.heap.size, 0, none⟩) n n) (w' := w.alloc (.cells vs'.toArray el)) ?_ ?_ trivial
    ·have e2 : (ps.toArray.map fun x => match x with | (i, x) => (i, ev env x)) = (ps.map fun p => (p.1, ev env p.2)).toArray := by simp
     simp only [execOp]
     rw [e2]
     simp [hrun]
    ·obtain ⟨σ', q1, q2, q3⟩ := new_step hr hM n z g1 (by simp [hlen']) (Blk.bk (Blk.new w el vs'.toArray)) (fun o u hu => by simpa using hu) (Fr.alloc _ _ _) h3
     exact ⟨_, σ', _, _, q1, Up.snoc _ _, ⟨_, q3, Nat.le_refl _, by have := Nat.le_mul_of_pos_right n k3; unfold maxLen; omega, by simp⟩, q2, rfl⟩
  ·exact absurd h.symm hr
 ·exact absurd h.symm hr
theorem s_mk {t : TypeId} {x y : Operand} (h : (mkW m x y (elemOf t)).f ih e σ c = res) : xs Tryz.prog isI isS [] Eng.noH full (Good w0 ρ c res env (some d)) [⟨some d, .makeSlice t x y, ty, pos, af, none⟩] env w := by
 unfold mkW at h
 split at h
 ·rename_i el z hel
  obtain ⟨hu, hsz⟩ := elemOf_inv hel
  obtain ⟨⟨ie, hie, hz⟩, _⟩ := size_spec hsz
  split at h
  ·rename_i zs hfew hzs
   split at h
   ·exact absurd h.symm hr
   ·rename_i k1
    have k1 := Nat.eq_of_beq_eq_true k1
    rw [cN_eq, cVs_eq] at h
    obtain ⟨a, b, va, vb, h1, h2, h3, h4, g1⟩ := two hr hE h
    obtain ⟨k, n, e0, g2⟩ := onN_inv hr g1
    obtain ⟨k', q, e1, g3⟩ := onN_inv hr g2
    obtain ⟨hnq, g4⟩ := okK_inv g3 hr
    obtain ⟨hq, g5⟩ := okK_inv g4 hr
    rw [fP_eq] at g5
    have hnq := Nat.le_of_ble_eq_true hnq
    have hq := Nat.le_of_ble_eq_true hq
    subst e0; subst e1
    obtain ⟨rfl, _⟩ := h3
    obtain ⟨rfl, _⟩ := h4
    obtain ⟨i, v, hi, hv, hl⟩ := zA_inv (ρ := ρ) hzs
    rw [hie] at hi; obtain rfl := Option.some.inj hi
    have hrep := rep_rel hl q
    rw [k1] at hrep
    have hby : ie.bytes ≤ 1000000 := by
     unfold few at hfew
     rw [hie] at hfew
     exact Nat.le_of_ble_eq_true hfew
    have hbq : ie.bytes * q ≤ 1000000 * 65536 := Nat.mul_le_mul hby hq
    have hrun := run_make (P := Tryz.prog) w t el ie v hu hie hv k k' (n : Int) (q : Int) (by omega) (by omega) (by
     have : ((ie.bytes * q : Nat) : Int) ≤ 281474976710656 := by omega
     rwa [Int.natCast_mul] at this) (by omega)
    simp only [Int.toNat_natCast, hz] at hrun
    refine xw (by simp [opsOK, Op.operands, h1, h2]) rfl (v := .slice (some ⟨w.heap.size, 0, none⟩) n q) (w' := w.alloc (.cells (madeCells v.cells (q * z)) el)) ?_ ?_ trivial
    ·have h1' : ev env x = .int k (n : Int) := ev_of h1
     have h2' : ev env y = .int k' (q : Int) := ev_of h2
     simp [execOp, h1', h2', hrun]
    ·obtain ⟨σ', q1, q2, q3⟩ := new_step hr hM q z g5 (by rw [size_madeCells]) (Blk.bk (Blk.new w el (madeCells v.cells (q * z)))) (fun o u hu => by simpa using hu) (Fr.alloc _ _ _) hrep
     exact ⟨_, σ', _, _, q1, Up.snoc _ _, ⟨_, q3, hnq, by unfold maxLen; omega, by simp⟩, q2, rfl⟩
  ·exact absurd h.symm hr
 ·exact absurd h.symm hr
end
end Rn
end Eng
end Go.Proofs.YtpfelapckcojjaaGreatDoor
namespace Go.Proofs.YtpfelapckcojjaaGreatDoor
open Go.RowKit
open Go.Lib (strCells strCells_length run_firstCells_string run_append_grow_string)
namespace Eng
namespace Rn
inductive Src (w : World) (t : TypeId) (z : Nat) : TypeId → Value → Nat → List Value → Prop where
 | sl {A : Option Addr} {q c : Nat} {news : List Value} (hl : news.length = q * z) (hc : ∀ a, A = some a → ∀ (j : Nat) u, news[j]? = some u → w.cell? (a.add j) = some u) (hn : A = none → q = 0) : Src w t z t (.slice A q c) q news
 | st {u : TypeId} {b : ByteArray} (hu : Tryz.prog.underlying u = some .string) (hz : z = 1) : Src w t z u (.string b) b.size (strCells b)
theorem Src.len {w : World} {t u : TypeId} {z q : Nat} {v : Value} {news : List Value} (h : Src w t z u v q news) : news.length = q * z := by
 cases h with
 | sl hl _ _ => exact hl
 | st _ hz => rw [strCells_length, hz, Nat.mul_one]
def Grown (w : World) (el : TypeId) (z n : Nat) (vs : List Value) (v : Value) (w' : World) : Prop := ∃ g k cur, v = .slice (some ⟨g, 0, none⟩) n k ∧ w.heap.size ≤ g ∧ Blk w' g el cur ∧ Ext w w' ∧ n ≤ k ∧ k ≤ maxLen ∧ cur.size = k * z ∧ cur.toList.take (n * z) = vs
section
variable {w0 : Fm} {w : World} {t u ty el : TypeId} {i : TypeInfo} {z q : Nat} {vy zv : Value} {news : List Value} (hu : Tryz.prog.underlying t = some (.slice el)) (hi : Tryz.prog.info? el = some i) (hz : i.size = z) (hS : Src w t z u vy q news) (h1 : ∀ u ∈ news, u.oneCell' = true) (hq : 0 < q)
include hu hi hz hS h1 hq
theorem run_room {b o n k : Nat} (hroom : n + q ≤ k) (hc : ∀ j, j < news.length → (w.cell? ⟨b, o + n * z + j, none⟩).isSome = true) (hf : ∀ j, j < news.length → w.frozen? ⟨b, o + n * z + j, none⟩ = false) :
  (Builtin.append_ #[t, u] ty #[.slice (some ⟨b, o, none⟩) n k, vy]).run Tryz.prog w = .ok (.slice (some ⟨b, o, none⟩) (n + q) k) (w.setCells b (o + n * z) news) := by
 cases hS with
 | @sl A _ c _ hl hcell hn =>
  cases A with
  | none => exact absurd (hn rfl) (by omega)
  | some a =>
   subst hz
   exact run_append_room_cells (P := Tryz.prog) w t ty el i hu hi b o n k a q c news hl (hcell a rfl) h1 hroom hc hf
 | @st _ s hus hz1 =>
  subst hz
  have hfc := run_firstCells_string (P := Tryz.prog) w i.size s
  have hst := run_storeCells_cells (P := Tryz.prog) b (o + n * i.size) (strCells s) 0 w (by simpa using hc) (by simpa using hf) h1
  simp only [Nat.add_zero] at hst
  simp [Builtin.append_, run_underlying hu, run_underlying hus, sizeOf, typeInfo, hi, Builtin.lenOf, hroom, hfc, Addr.add_lit, hst]
variable (hzv : i.zero = some zv) (hzs : zv.cells.size = z) (hz0 : 0 < z) (hby : i.bytes ≤ 1000000)
include hzv hzs hz0 hby
theorem run_grow {B : Addr} {n k : Nat} {olds : List Value} (hlo : olds.length = n * z) (holds : ∀ (j : Nat) u, olds[j]? = some u → w.cell? (B.add j) = some u) (hg : k < n + q) (hm : n + q ≤ 1000000) :
  ∃ v' w', (Builtin.append_ #[t, u] ty #[.slice (some B) n k, vy]).run Tryz.prog w = .ok v' w' ∧ Grown w el z (n + q) (olds ++ news) v' w' := by
 have hbb : (n + q) * i.bytes ≤ 140737488355328 := Nat.le_trans (Nat.mul_le_mul hm hby) (by decide)
 have h63 : n + q ≤ maxLen := by unfold maxLen; omega
 cases hS with
 | @sl A _ c _ hl hcell hn =>
  cases A with
  | none => exact absurd (hn rfl) (by omega)
  | some a =>
   obtain ⟨v', w', hrun, hown, hgr⟩ := run_append_arg_grows (P := Tryz.prog) w t ty el i zv z i.bytes hu hi hzv hz rfl hzs hz0 B n k olds hlo holds a q c news hl (hcell a rfl) hg h63 hbb
   refine ⟨v', w', hrun, ?_⟩
   rcases hown.2 with ⟨_, h0⟩ | ⟨g, k', cur, e1, e2, e3, e4, e5, e6, e7⟩
   ·omega
   ·exact ⟨g, k', cur, e1, e2, e3, Fr.grown hgr (fun _ hh _ => by cases hh), e4, e5, e6, e7⟩
 | @st _ s hus hz1 =>
  have hr := run_append_grow_string (P := Tryz.prog) w t u ty el i zv hu hus hi hzv B n k olds (by rw [hz]; exact hlo) holds s hg (by unfold maxLen at h63; omega) (growslice_fits hg hbb)
  have hge := grownCap_ge w (n + s.size) k el
  refine ⟨_, _, hr, w.heap.size, _, _, rfl, Nat.le_refl _, heap_alloc_new w.drew _, (Fr.drew _ w).t (Fr.alloc _ _ _), hge, grownCap_le_maxLen w _ k el h63, ?_, ?_⟩
  ·simp only [Array.size_append, List.size_toArray, size_zeroCells, hzs, hlo, strCells_length, hz1, Nat.mul_one]
   omega
  ·simp only [Array.toList_append, List.append_assoc]
   rw [← List.append_assoc, show (n + s.size) * z = (olds ++ strCells s).length by rw [List.length_append, hlo, strCells_length, hz1, Nat.mul_one, Nat.mul_one]]
   exact List.take_left
theorem run_nil (hm : q ≤ 1000000) : ∃ v' w', (Builtin.append_ #[t, u] ty #[.slice none 0 0, vy]).run Tryz.prog w = .ok v' w' ∧ Grown w el z q news v' w' := by
 have hbb : (0 + q) * i.bytes ≤ 140737488355328 := Nat.le_trans (Nat.mul_le_mul (by omega) hby) (show 1000000 * 1000000 ≤ _ by decide)
 have h63 : 0 + q ≤ maxLen := by unfold maxLen; omega
 cases hS with
 | @sl A _ c _ hl hcell hn =>
  cases A with
  | none => exact absurd (hn rfl) (by omega)
  | some a =>
   obtain ⟨v', w', hrun, hown, hgr, _⟩ := run_append_own (P := Tryz.prog) w w.heap.size t ty el i zv z i.bytes hu hi hzv hz rfl hzs hz0 (.slice none 0 0) 0 [] (World.ownsRow_nil w w.heap.size el z) a q c news hl (hcell a rfl) h1 h63 hbb (Nat.le_refl _)
   refine ⟨v', w', hrun, ?_⟩
   rw [Nat.zero_add, List.nil_append] at hown
   rcases hown.2 with ⟨_, h0⟩ | ⟨g, k', cur, e1, e2, e3, e4, e5, e6, e7⟩
   ·omega
   ·exact ⟨g, k', cur, e1, e2, e3, Fr.grown hgr (fun _ hh _ => by cases hh), e4, e5, e6, e7⟩
 | @st _ s hus hz1 =>
  have hn : ¬ s.size = 0 := by omega
  have hn' : ¬ s.size ≤ 0 := by omega
  have h63' : ¬ ((9223372036854775807 : Int) < (s.size : Int)) := by unfold maxLen at h63; omega
  have hfit := growslice_fits (need := s.size) (old := 0) (bytes := i.bytes) (by omega) (by rw [Nat.zero_add] at hbb; exact hbb)
  have h48' : ¬ (281474976710656 < Builtin.nextslicecap s.size 0 * i.bytes) := by omega
  have hfc := run_firstCells_string (P := Tryz.prog) w.drew i.size s
  have hge := grownCap_ge w s.size 0 el
  have hfn : (Builtin.firstCells i.size 0 (.slice none 0 0)).run Tryz.prog w.drew = .ok #[] w.drew := by simp [Builtin.firstCells]
  have hr : (Builtin.append_ #[t, u] ty #[.slice none 0 0, .string s]).run Tryz.prog w = .ok (.slice (some ⟨w.heap.size, 0, none⟩) s.size (grownCap w s.size 0 el)) (w.drew.alloc (.cells ((strCells s).toArray ++ Builtin.zeroCells zv.cells (grownCap w s.size 0 el - s.size)) el)) := by
   simp [Builtin.append_, run_underlying hu, run_underlying hus, sizeOf, typeInfo, zeroValue, hi, hzv, Builtin.lenOf, hn, h63', h48', Question.forced, hfc, newRow, grownCap, hfn]
  refine ⟨_, _, hr, w.heap.size, _, _, rfl, Nat.le_refl _, heap_alloc_new w.drew _, (Fr.drew _ w).t (Fr.alloc _ _ _), hge, grownCap_le_maxLen w _ 0 el (by rw [Nat.zero_add] at h63; exact h63), ?_, ?_⟩
  ·simp only [Array.size_append, List.size_toArray, size_zeroCells, hzs, strCells_length, hz1, Nat.mul_one]
   omega
  ·simp only [Array.toList_append]
   rw [show s.size * z = (strCells s).length by rw [strCells_length, hz1, Nat.mul_one]]
   exact List.take_left
end
section
variable {σ : Mem} {res : Rs} {ρ : Pl} {w0 : Fm} {w : World} (hr : res ≠ .no)
include hr
theorem srK_inv (hM : MR w0 ρ σ w) {z : Nat} {x : AV} {vx : Value} {t : TypeId} {k : Nat → List SV → Rs} (hx : AR ρ x vx) (h : srK σ z x k = res) : ∃ q new news, k q new = res ∧ SRs ρ new news ∧ Src w t z t vx q news := by
 rcases onL_inv hr h with ⟨e0, g1⟩ | ⟨id, z', j, n, e0, g1⟩ | ⟨id, z', j, n, k', e0, g1⟩ | ⟨_, _, _, _, e0, g1⟩ | ⟨l, e0, g1⟩ | ⟨id, o, e0, g1⟩ <;> subst e0
 ·have e1 : vx = .slice none 0 0 := hx
  subst e1
  exact ⟨0, [], [], g1, .nil, .sl (by simp) (fun a ha => by cases ha) (fun _ => rfl)⟩
 ·obtain ⟨ob, l, g3, g4, g5, g6⟩ := rdK_inv hr g1
  obtain ⟨p, hp, _, _, _, rfl⟩ := hx
  obtain ⟨vs, h4, h5⟩ := hM.cells hp (l := l) (o := Nat.mul j z') (fun i hi => g5 i (by omega))
  refine ⟨n, l, vs, g6, h4, .sl (by rw [h4.len, g4]; rfl) (fun a ha j' u hu => ?_) (fun ha => by cases ha)⟩
  injection ha with ha; subst ha
  rw [Addr.add_lit]
  exact (h5 j' u hu).1
 ·obtain ⟨ob, l, g3, g4, g5, g6⟩ := rdK_inv hr g1
  obtain ⟨p, hp, _, _, rfl⟩ := hx
  obtain ⟨vs, h4, h5⟩ := hM.cells hp (l := l) (o := Nat.mul j z') (fun i hi => g5 i (by omega))
  refine ⟨n, l, vs, g6, h4, .sl (by rw [h4.len, g4]; rfl) (fun a ha j' u hu => ?_) (fun ha => by cases ha)⟩
  injection ha with ha; subst ha
  rw [Addr.add_lit]
  exact (h5 j' u hu).1
 ·obtain ⟨A, k', rfl, _⟩ := SR.le_inv hx
  exact ⟨0, [], [], g1, .nil, .sl (by simp) (fun a ha j u hu => by cases hu) (fun _ => rfl)⟩
 ·exact absurd g1.symm hr
 ·exact absurd g1.symm hr
omit hr in
theorem byte_rel (ρ : Pl) : ∀ {l : List Nat}, (∀ c ∈ l, c < 256) → SRs ρ (l.map fun c => SV.n .u8 c) ((uOf l).map fun b => Value.int .u8 (b.toNat : Int))
 | [], _ => .nil
 | a :: l, h => by
  have ha := h a (by simp)
  refine .cons ⟨rfl, ?_, by show a ≤ 255; omega⟩ (byte_rel ρ fun c hc => h c (by simp [hc]))
  simp only [UInt8.toNat_ofNat', Nat.mod_eq_of_lt ha]
  rfl
theorem stK_inv {x : AV} {vx : Value} {t u : TypeId} {k : Nat → List SV → Rs} (hu : Tryz.prog.underlying u = some .string) (hx : AR ρ x vx) (h : stK x k = res) : ∃ q new news, k q new = res ∧ SRs ρ new news ∧ Src w t 1 u vx q news := by
 obtain ⟨l, e0, g1⟩ := onS_inv hr h
 rw [fN_eq, fP_eq] at g1
 subst e0
 obtain ⟨rfl, h2, _⟩ := hx
 refine ⟨_, _, _, g1, byte_rel ρ h2, ?_⟩
 have e1 : (uOf l).map (fun b => Value.int .u8 (b.toNat : Int)) = strCells (su (uOf l)) := by simp [strCells, su]
 have e2 : l.length = (su (uOf l)).size := by rw [su_size]; simp [uOf]
 rw [e1, e2]
 exact .st hu rfl
theorem scW_inv (hM : MR w0 ρ σ w) {el : TypeId} {z : Nat} {t u : TypeId} {r : Ws} {x : AV} {vx : Value} {k : Nat → List SV → Rs} (hs : scW el z t u = some r) (hx : AR ρ x vx) (h : r.f σ x k = res) : ∃ q new news, k q new = res ∧ SRs ρ new news ∧ Src w t z u vx q news := by
 unfold scW at hs
 split at hs
 ·rename_i hS
  split at hs
  ·rename_i h1 _
   obtain rfl := Option.some.inj hs
   have h1 := Nat.eq_of_beq_eq_true h1
   subst h1
   exact stK_inv hr (str_spec hS) hx h
  ·cases hs
 ·split at hs
  ·rename_i h1
   obtain rfl := Option.some.inj hs
   have h1 := Nat.eq_of_beq_eq_true h1
   subst h1
   exact srK_inv hr hM hx h
  ·cases hs
end
section
variable {m : Nat} {ih : Cl} {e : En} {σ : Mem} {c : Kt} {res : Rs} {ρ : Pl} {env : Env} {w0 : Fm} {w : World} {full : Array Oper} {d : Tmp} {ty : TypeId} {pos : String} {af : Array Edge} (hr : res ≠ .no)
include hr
theorem grown_step (hM : MR w0 ρ σ w) {el : TypeId} {z n : Nat} {vs : List Value} {v : Value} {w' : World} {l : List SV} (hG : Grown w el z n vs v w') (hl : SRs ρ l vs) (h : newK σ el l (fun id σ => c (.v (.l id z 0 n)) σ) = res) : ∃ x σ' ρ', c x σ' = res ∧ Up ρ ρ' ∧ AR ρ' x v ∧ MR w0 ρ' σ' w' := by
 obtain ⟨g, k, cur, rfl, e2, e3, e4, e5, e6, e7, e8⟩ := hG
 obtain ⟨ob, σ', h1, h2, h3, h4, h5, h6, h7⟩ := newK_inv hr h
 refine ⟨_, σ', ρ ++ [⟨g, k, z⟩], h7, Up.snoc _ _, ⟨⟨g, k, z⟩, by rw [← hM.len]; simp, rfl, by simpa using e5, e6, by simp⟩, ?_⟩
 refine hM.more k z (by rw [e7]) h1 h2 (fun o ho => by rw [h4 o]; exact List.getElem?_eq_none (by omega)) (fun o x hx => ?_) h5 h6 (Blk.bk e3) e4 (fun id o p hs hp => ⟨fun hh => by have := hM.below id o p hs hp; omega, fun hh => hh⟩) (fun b hh => hh.elim) (.inl (Nat.le_trans hM.old.size e2))
 rw [h4 o] at hx
 obtain ⟨v, h8, h9⟩ := hl.get o x hx
 refine ⟨v, ?_, h9⟩
 have h10 : (cur.toList.take (n * z))[o]? = some v := by rw [e8]; exact h8
 rw [List.getElem?_take] at h10
 split at h10
 ·simpa using h10
 ·cases h10
variable (hM : MR w0 ρ σ w) {t u el : TypeId} {i : TypeInfo} {z q : Nat} {vs0 vy zv : Value} {s : AV} {new : List SV} {news : List Value} (hu : Tryz.prog.underlying t = some (.slice el)) (hi : Tryz.prog.info? el = some i) (hz : i.size = z) (hS : Src w t z u vy q news) (hn : SRs ρ new news)
 (hzv : i.zero = some zv) (hzs : zv.cells.size = z) (hz0 : 0 < z) (hby : i.bytes ≤ 1000000)
include hM hu hi hz hS hn hzv hzs hz0 hby
theorem apL_inv {id n : Nat} {p : At} (hp : ρ[id]? = some p) (hpz : p.z = z) (hpc : n ≤ p.c) (hpm : p.c ≤ maxLen) (hq : 0 < q) (hm : n + q ≤ 1000000) (h : apL σ c el z id n q new = res) :
  ∃ v' w' x σ' ρ', (Builtin.append_ #[t, u] ty #[.slice (some ⟨p.b, 0, none⟩) n p.c, vy]).run Tryz.prog w = .ok v' w' ∧ c x σ' = res ∧ Up ρ ρ' ∧ AR ρ' x v' ∧ MR w0 ρ' σ' w' := by
 have hlen := hn.len
 have hSl := hS.len
 obtain ⟨ob, g1, g2⟩ := obK_inv hr h
 obtain ⟨he, g3⟩ := okK_inv g2 hr
 have he := Nat.eq_of_beq_eq_true he
 obtain ⟨y0, g4, g5⟩ := getK_inv hr g3
 have hlive : cget σ id 0 = some y0 := cget_iff.2 ⟨ob, g1, g4⟩
 obtain ⟨p', cs, b1, b2, b3, b4⟩ := hM.blk id ob g1 ⟨0, by rw [g4]; rfl⟩
 rw [hp] at b1; obtain rfl := Option.some.inj b1
 rw [hpz] at b3
 have hfar0 := hM.far id 0 p (by rw [hlive]; rfl) hp
 have hnz : n * z ≤ cs.size := Nat.le_trans (Nat.mul_le_mul_right z hpc) (Nat.le_of_eq b3)
 have hworld : ∃ v' w' g k cur S, (Builtin.append_ #[t, u] ty #[.slice (some ⟨p.b, 0, none⟩) n p.c, vy]).run Tryz.prog w = .ok v' w' ∧ v' = .slice (some ⟨g, 0, none⟩) (n + q) k ∧ Bk w' g el cur ∧ n + q ≤ k ∧ k ≤ maxLen ∧ k * z = cur.size ∧ Fr S w w' ∧ (∀ a, (a ≠ p.b ∧ a < w.heap.size) → a ≠ g ∧ ¬ S a) ∧ (∀ b, S b → w0.may b) ∧ w0.may g ∧ (∀ o v, o < n * z → cs[o]? = some v → cur[o]? = some v) ∧ (∀ (j : Nat) v, news[j]? = some v → cur[n * z + j]? = some v) := by
  by_cases hroom : n + q ≤ p.c
  ·have hfit : n * z + news.length ≤ cs.size := by
    rw [hSl, ← Nat.add_mul]
    exact Nat.le_trans (Nat.mul_le_mul_right z hroom) (Nat.le_of_eq b3)
   have hrun := run_room (ty := ty) (b := p.b) (o := 0) hu hi hz hS hn.cells hq hroom (fun j hj => by rw [b2.cell, Nat.zero_add]; simp; omega) (fun j hj => b2.frozen (by omega))
   rw [Nat.zero_add] at hrun
   obtain ⟨cs', c1, c2, c3, c4⟩ := b2.put (vs := news) hfit
   refine ⟨_, _, p.b, p.c, cs', _, hrun, rfl, by rw [← he]; exact c1, hroom, hpm, by rw [c2]; exact b3, c4, fun a ha => ⟨ha.1, fun hh => ha.1 hh⟩, fun b hb => by rw [hb]; exact hfar0, hfar0, fun o v ho hv => ?_, fun j v hj => ?_⟩
   ·rw [c3, if_neg (by omega)]; exact hv
   ·have hjl := (List.getElem?_eq_some_iff.1 hj).1
    rw [c3, if_pos (by omega), show n * z + j - n * z = j by omega]; exact hj
  ·obtain ⟨v', w', hrun, g, k, cur, rfl, e2, e3, e4, e5, e6, e7, e8⟩ := run_grow (ty := ty) hu hi hz hS hn.cells hq hzv hzs hz0 hby (B := ⟨p.b, 0, none⟩) (n := n) (k := p.c) (olds := cs.toList.take (n * z)) (by simp; omega) (fun j v hj => by
    rw [Addr.add_lit, Nat.zero_add, b2.cell]
    rw [List.getElem?_take] at hj
    split at hj
    ·simpa using hj
    ·cases hj) (by omega) hm
   have hA : (cs.toList.take (n * z)).length = n * z := by simp; omega
   refine ⟨_, w', g, k, cur, _, hrun, rfl, Blk.bk e3, e5, e6, by rw [e7], e4, fun a ha => ⟨by omega, fun hh => hh⟩, fun b hb => hb.elim, .inl (Nat.le_trans hM.old.size e2), fun o v ho hv => ?_, fun j v hj => ?_⟩
   ·have h10 : (cur.toList.take ((n + q) * z))[o]? = some v := by
     rw [e8, List.getElem?_append_left (by omega), List.getElem?_take, if_pos ho]
     simpa using hv
    rw [List.getElem?_take] at h10
    split at h10
    ·simpa using h10
    ·cases h10
   ·have h10 : (cur.toList.take ((n + q) * z))[n * z + j]? = some v := by
     rw [e8, List.getElem?_append_right (by omega), hA, show n * z + j - n * z = j by omega]
     exact hj
    rw [List.getElem?_take] at h10
    split at h10
    ·simpa using h10
    ·cases h10
 obtain ⟨v', w', g, k, cur, S, hrun, rfl, hB, hk1, hk2, hk3, hF, hfar, hS0, hg0, hold, hnew⟩ := hworld
 have hSm : ∀ b l, MpB w b l → ¬ S b := fun b l hb => (hfar b ⟨fun e => b2.no_map (e ▸ hb), hb.lt⟩).2
 rw [ifK_eq] at g5
 split at g5
 ·rename_i hchk
  obtain ⟨hob, _⟩ := an_inv hchk
  have hob : ob.n = n * z := Nat.eq_of_beq_eq_true hob
  obtain ⟨t', f1, f2⟩ := fillT_inv hr g5
  rw [fN_eq] at f2
  obtain ⟨σ1, k1, k2, k3, k4⟩ := killK_inv hr f2
  obtain ⟨hM1, hap⟩ := hM.kill k1 k2 k3 hp (by rw [hlive]; rfl)
  obtain ⟨σ2, a1, a2, a3, a4⟩ := addK_inv hr k4
  rw [fN_eq] at a4
  refine ⟨_, w', _, σ2, ρ ++ [⟨g, k, z⟩], hrun, a4, Up.snoc _ _, ⟨⟨g, k, z⟩, by rw [← hM1.len]; simp, rfl, by simpa using hk1, hk2, by simp⟩, ?_⟩
  refine hM1.more k z hk3 a1 rfl (fun o ho => ?_) (fun o x hx => ?_) a2 a3 (by show Bk w' g ob.e cur; rw [he]; exact hB) hF (fun id' o p' hs' hp' => hfar p'.b ⟨hap id' o p' hs' hp', hM1.below id' o p' hs' hp'⟩) hS0 hg0 hSm
  ·have ho : ob.n + new.length ≤ o := ho
   show tget ob.d o t' = none
   rw [f1 o, if_neg (by omega)]
   exact hM.pre id ob g1 o (by omega)
  ·have hx : tget ob.d o t' = some x := hx
   rw [f1 o] at hx
   split at hx
   ·rename_i hh
    obtain ⟨v, h8, h9⟩ := hn.get _ _ hx
    refine ⟨v, ?_, h9⟩
    have := hnew _ v h8
    rwa [show n * z + (o - ob.n) = o by omega] at this
   ·rename_i hh
    obtain ⟨v, h8, h9⟩ := b4 o x hx
    refine ⟨v, hold o v ?_ h8, h9⟩
    rcases Nat.lt_or_ge o ob.n with hlt | hge
    ·omega
    ·rw [hM.pre id ob g1 o hge] at hx
     cases hx
 ·obtain ⟨old, f1, f2, f3⟩ := rdT_inv hr g5
  rw [fP_eq] at f3
  obtain ⟨σ1, k1, k2, k3, k4⟩ := killK_inv hr f3
  obtain ⟨hM1, hap⟩ := hM.kill k1 k2 k3 hp (by rw [hlive]; rfl)
  obtain ⟨ob', σ2, a1, a2, a5, a6, a3, a7, a4⟩ := newK_inv hr k4
  rw [fN_eq] at a4
  refine ⟨_, w', _, σ2, ρ ++ [⟨g, k, z⟩], hrun, a4, Up.snoc _ _, ⟨⟨g, k, z⟩, by rw [← hM1.len]; simp, rfl, by simpa using hk1, hk2, by simp⟩, ?_⟩
  refine hM1.more k z hk3 a1 a2 (fun o ho => by rw [a6 o]; exact List.getElem?_eq_none (by omega)) (fun o x hx => ?_) a3 a7 hB hF (fun id' o p' hs' hp' => hfar p'.b ⟨hap id' o p' hs' hp', hM1.below id' o p' hs' hp'⟩) hS0 hg0 hSm
  rw [a6 o] at hx
  have f1 : old.length = n * z := f1
  rcases Nat.lt_or_ge o old.length with hlt | hge
  ·rw [List.getElem?_append_left hlt] at hx
   have := f2 o (by omega)
   rw [hx, Nat.zero_add] at this
   obtain ⟨v, h8, h9⟩ := b4 o x this
   exact ⟨v, hold o v (by omega) h8, h9⟩
  ·rw [List.getElem?_append_right hge] at hx
   obtain ⟨v, h8, h9⟩ := hn.get _ _ hx
   refine ⟨v, ?_, h9⟩
   have := hnew _ v h8
   rwa [show n * z + (o - old.length) = o by omega] at this
theorem apX_inv {id j n k : Nat} {p : At} (hp : ρ[id]? = some p) (_ : n ≤ k) (hkm : k ≤ maxLen) (hq : 0 < q) (hm : n + q ≤ 1000000) (h : apX σ c el z id j n k q new = res) :
  ∃ v' w' x σ' ρ', (Builtin.append_ #[t, u] ty #[.slice (some ⟨p.b, j * z, none⟩) n k, vy]).run Tryz.prog w = .ok v' w' ∧ c x σ' = res ∧ Up ρ ρ' ∧ AR ρ' x v' ∧ MR w0 ρ' σ' w' := by
 have hlen := hn.len
 have hSl := hS.len
 have hne : 0 < new.length := by
  rw [← hlen, hSl]
  exact Nat.mul_pos hq hz0
 unfold apX at h
 rw [ifK_eq] at h
 split at h
 ·rename_i hroom
  have hroom : n + q ≤ k := Nat.le_of_ble_eq_true hroom
  rw [fN_eq] at h
  obtain ⟨σ', g1, g2, g3, g4, _⟩ := wr_step hr hM h hp hn hne
  rw [fN_eq] at g1
  have e1 : Nat.mul (Nat.add j n) z = j * z + n * z := Nat.add_mul j n z
  rw [e1] at g2 g3 g4
  have hrun := run_room (ty := ty) (b := p.b) (o := j * z) hu hi hz hS hn.cells hq hroom g2 g3
  exact ⟨_, _, _, σ', ρ, hrun, g1, Up.refl ρ, ⟨p, hp, hroom, hkm, rfl⟩, g4⟩
 ·rename_i hroom
  have hroom : ¬ n + q ≤ k := fun hh => hroom (Nat.ble_eq_true_of_le hh)
  obtain ⟨ob, l, g3, g4, g5, g6⟩ := rdK_inv hr h
  rw [fP_eq] at g6
  obtain ⟨vs, h4, h5⟩ := hM.cells hp (l := l) (o := Nat.mul j z) (fun i hi => g5 i (by omega))
  obtain ⟨v', w', hrun, hG⟩ := run_grow (ty := ty) hu hi hz hS hn.cells hq hzv hzs hz0 hby (B := ⟨p.b, j * z, none⟩) (n := n) (k := k) (olds := vs) (by rw [h4.len, g4]; rfl) (fun j' v hj => by rw [Addr.add_lit]; exact (h5 j' v hj).1) (by omega) hm
  have g7 : newK σ el (l ++ new) (fun id σ => c (.v (.l id z 0 (n + q))) σ) = res := by
   have e2 : (fun id σ => fN (Nat.add n q) fun n => c (.v (.l id z 0 n)) σ) = (fun id σ => c (.v (.l id z 0 (n + q))) σ) := by
    funext id σ
    exact fN_eq _ _
   rw [← e2]
   exact g6
  obtain ⟨x, σ', ρ', a1, a2, a3, a4⟩ := grown_step hr hM hG (h4.app hn) g7
  exact ⟨v', w', x, σ', ρ', hrun, a1, a2, a3, a4⟩
theorem apK_inv (hs : AR ρ s vs0) (h : apK σ c el z s q new = res) : ∃ v' w' x σ' ρ', (Builtin.append_ #[t, u] ty #[vs0, vy]).run Tryz.prog w = .ok v' w' ∧ c x σ' = res ∧ Up ρ ρ' ∧ AR ρ' x v' ∧ MR w0 ρ' σ' w' := by
 have hzero : q = 0 → ∀ (A : Option Addr) (n k : Nat), n ≤ k → (Builtin.append_ #[t, u] ty #[.slice A n k, vy]).run Tryz.prog w = .ok (.slice A n k) w := fun hq0 A n k hnk => by
  have hl : news.length = 0 := by rw [hS.len, hq0, Nat.zero_mul]
  have hnil : news = [] := List.eq_nil_of_length_eq_zero hl
  cases hS with
  | @sl A' _ c' _ hl hcell hn' =>
   subst hq0
   cases A <;> cases A' <;> simp [Builtin.append_, run_underlying hu, sizeOf, typeInfo, hi, Builtin.lenOf, Builtin.firstCells, hnk, storeCells, loadCells, loadCellsFrom]
  | @st _ b hus hz1 =>
   have hfc := run_firstCells_string (P := Tryz.prog) w i.size b
   rw [hnil] at hfc
   rw [hq0] at hfc
   cases A <;> simp [Builtin.append_, run_underlying hu, run_underlying hus, sizeOf, typeInfo, hi, Builtin.lenOf, hq0, hnk, hfc, storeCells]
 rcases onL_inv hr h with ⟨e0, g1⟩ | ⟨id, z', j, n, e0, g1⟩ | ⟨id, z', j, n, k', e0, g1⟩ | ⟨_, _, _, _, e0, g1⟩ | ⟨l, e0, g1⟩ | ⟨id, o, e0, g1⟩ <;> subst e0
 ·have e1 : vs0 = .slice none 0 0 := hs
  subst e1
  rcases Nat.eq_zero_or_pos q with h0 | h0
  ·subst h0
   exact ⟨_, w, _, σ, ρ, hzero rfl none 0 0 (Nat.le_refl _), g1, Up.refl ρ, rfl, hM⟩
  ·obtain ⟨q', rfl⟩ : ∃ q', q = q' + 1 := ⟨q - 1, by omega⟩
   obtain ⟨hm, g2⟩ := okK_inv (show okK (Nat.ble (q' + 1) 1000000) _ = res from g1) hr
   have hm := Nat.le_of_ble_eq_true hm
   obtain ⟨v', w', hrun, hG⟩ := run_nil (ty := ty) hu hi hz hS hn.cells h0 hzv hzs hz0 hby hm
   obtain ⟨x, σ', ρ', a1, a2, a3, a4⟩ := grown_step hr hM hG hn g2
   exact ⟨v', w', x, σ', ρ', hrun, a1, a2, a3, a4⟩
 ·obtain ⟨hj, g2⟩ := okK_inv g1 hr
  obtain ⟨hzz, g3⟩ := okK_inv g2 hr
  obtain ⟨hm, g4⟩ := okK_inv g3 hr
  have hj := Nat.eq_of_beq_eq_true hj
  have hzz := Nat.eq_of_beq_eq_true hzz
  have hm : n + q ≤ 1000000 := Nat.le_of_ble_eq_true hm
  subst hj
  subst hzz
  have hs' := hs
  obtain ⟨p, hp, hpz, hpc, hpm, rfl⟩ := hs
  rcases Nat.eq_zero_or_pos q with h0 | h0
  ·subst h0
   exact ⟨_, w, _, σ, ρ, hzero rfl _ n _ (by omega), g4, Up.refl ρ, hs', hM⟩
  ·obtain ⟨q', rfl⟩ : ∃ q', q = q' + 1 := ⟨q - 1, by omega⟩
   obtain ⟨v', w', x, σ', ρ', a0, a1, a2, a3, a4⟩ := apL_inv (ty := ty) (c := c) hr hM hu hi hz hS hn hzv hzs hz0 hby hp hpz (by omega) hpm h0 hm g4
   refine ⟨v', w', x, σ', ρ', ?_, a1, a2, a3, a4⟩
   simpa using a0
 ·obtain ⟨hzz, g3⟩ := okK_inv g1 hr
  obtain ⟨hm, g4⟩ := okK_inv g3 hr
  have hzz := Nat.eq_of_beq_eq_true hzz
  have hm : n + q ≤ 1000000 := Nat.le_of_ble_eq_true hm
  subst hzz
  have hs' := hs
  obtain ⟨p, hp, hnk, hkm, rfl⟩ := hs
  rcases Nat.eq_zero_or_pos q with h0 | h0
  ·subst h0
   exact ⟨_, w, _, σ, ρ, hzero rfl _ n _ hnk, g4, Up.refl ρ, hs', hM⟩
  ·obtain ⟨q', rfl⟩ : ∃ q', q = q' + 1 := ⟨q - 1, by omega⟩
   exact apX_inv (ty := ty) (c := c) hr hM hu hi hz hS hn hzv hzs hz0 hby hp hnk hkm h0 hm g4
 ·exact absurd g1.symm hr
 ·exact absurd g1.symm hr
 ·exact absurd g1.symm hr
end
end Rn
end Eng
end Go.Proofs.YtpfelapckcojjaaGreatDoor
namespace Go.Proofs.YtpfelapckcojjaaGreatDoor
open Go.RowKit
open Go.Lib (strCells strCells_length run_firstCells_string)
namespace Eng
namespace Rn
theorem zA_cells {t : TypeId} {l : List SV} {i : TypeInfo} (hi : Tryz.prog.info? t = some i) (h : zA t = some l) : ∃ v, i.zero = some v ∧ v.cells.size = l.length := by
 obtain ⟨i', v, h1, h2, h3⟩ := zA_inv (ρ := []) h
 rw [hi] at h1; obtain rfl := Option.some.inj h1
 exact ⟨v, h2, by simpa using h3.len⟩
theorem few_spec {t : TypeId} {i : TypeInfo} (hi : Tryz.prog.info? t = some i) (h : few t = true) : i.bytes ≤ 1000000 := by
 unfold few at h
 rw [hi] at h
 exact Nat.le_of_ble_eq_true h
theorem firsts {w : World} {t u : TypeId} {z q : Nat} {vy : Value} {news : List Value} (hS : Src w t z u vy q news) (r : Nat) (hrq : r ≤ q) : (Builtin.firstCells z r vy).run Tryz.prog w = .ok (news.take (r * z)).toArray w := by
 cases hS with
 | @sl A _ c _ hl hcell hn =>
  cases A with
  | none =>
   have h0 : r = 0 := by have := hn rfl; omega
   subst h0
   simp [Builtin.firstCells]
  | some a =>
   refine run_firstCells_some (P := Tryz.prog) w z r a q c (news.take (r * z)) ?_ (fun j v hj => ?_)
   ·rw [List.length_take, hl]
    exact Nat.min_eq_left (Nat.mul_le_mul_right z hrq)
   ·rw [List.getElem?_take] at hj
    split at hj
    ·exact hcell a rfl j v hj
    ·cases hj
 | @st _ b hus hz1 =>
  subst hz1
  obtain ⟨l, rfl⟩ := su_of b
  have e := su_cut l 0 r
  simp only [List.drop_zero, Nat.sub_zero] at e
  simp only [Builtin.firstCells, e]
  simp [strCells, su, List.map_take]
section
variable {m : Nat} {ih : Cl} {e : En} {σ : Mem} {c : Kt} {res : Rs} {ρ : Pl} {env : Env} {w0 : Fm} {w : World} {full : Array Oper} {d : Tmp} {dst : Option Tmp} {ty : TypeId} {pos : String} {af : Array Edge} (hr : res ≠ .no) (hE : ER m ρ e env) (hM : MR w0 ρ σ w)
include hr hE hM
theorem s_ap {t u : TypeId} {x y : Operand} (h : (apW m t u x y).f ih e σ c = res) : xs Tryz.prog isI isS [] Eng.noH full (Good w0 ρ c res env dst) [⟨dst, .call { callee := .builtin .append, args := ⟨[x, y]⟩, argTypes := ⟨[t, u]⟩ }, ty, pos, af, none⟩] env w := by
 unfold apW at h
 split at h
 ·rename_i el z hel
  obtain ⟨hu, hsz⟩ := elemOf_inv hel
  obtain ⟨⟨i, hi, hz⟩, _⟩ := size_spec hsz
  split at h
  ·rename_i zs hfew hzs
   split at h
   ·rename_i r k1 k2 hsc
    rw [cN_eq] at h
    have k1 := Nat.eq_of_beq_eq_true k1
    have k2 := Nat.le_of_ble_eq_true k2
    obtain ⟨a, b, va, vb, h1, h2, h3, h4, g1⟩ := two hr hE h
    obtain ⟨q, new, news, g2, hn, hS⟩ := scW_inv hr hM hsc h4 g1
    obtain ⟨zv, hzv, hzc⟩ := zA_cells hi hzs
    obtain ⟨v', w', x', σ', ρ', hrun, a1, a2, a3, a4⟩ := apK_inv (ty := ty) (c := c) hr hM hu hi hz hS hn hzv (by rw [hzc, k1]) (by omega) (few_spec hi hfew) h3 g2
    refine xw (by simp [opsOK, Op.operands, Call.operands, h1, h2]) rfl (v := v') (w' := w') ?_ ⟨x', σ', ρ', _, a1, a2, a3, a4, rfl⟩ trivial
    simp [execOp, resolve, invoke, builtin, ev_of h1, ev_of h2, hrun]
   ·exact absurd h.symm hr
  ·exact absurd h.symm hr
 ·exact absurd h.symm hr
theorem s_cp {t u : TypeId} {x y : Operand} (h : (cpW m t u x y).f ih e σ c = res) : xs Tryz.prog isI isS [] Eng.noH full (Good w0 ρ c res env dst) [⟨dst, .call { callee := .builtin .copy, args := ⟨[x, y]⟩, argTypes := ⟨[t, u]⟩ }, ty, pos, af, none⟩] env w := by
 unfold cpW at h
 split at h
 ·rename_i el z hel
  obtain ⟨hu, hsz⟩ := elemOf_inv hel
  obtain ⟨⟨i, hi, hz⟩, _⟩ := size_spec hsz
  split at h
  ·rename_i r hz1 hsc
   rw [cN_eq] at h
   have hz1 := Nat.le_of_ble_eq_true hz1
   obtain ⟨a, b, va, vb, h1, h2, h3, h4, g1⟩ := two hr hE h
   obtain ⟨q, new, news, g2, hn, hS⟩ := scW_inv hr hM hsc h4 g1
   have hlen : ∀ w', (Builtin.lenOf vb).run Tryz.prog w' = .ok q w' := fun w' => by cases hS <;> simp [Builtin.lenOf]
   have go : ∀ (A : Option Addr) (n k r : Nat) (y' : SV) (σ' : Mem) (w' : World), va = .slice A n k → Nat.min q n = r → (match A with | some a => (storeCells a (news.take (r * z))).run Tryz.prog w = .ok () w' | none => w' = w) → c (.v y') σ' = res → SR ρ y' (.int .i64 (r : Int)) → MR w0 ρ σ' w' → xs Tryz.prog isI isS [] Eng.noH full (Good w0 ρ c res env dst) [⟨dst, .call { callee := .builtin .copy, args := ⟨[x, y]⟩, argTypes := ⟨[t, u]⟩ }, ty, pos, af, none⟩] env w := fun A n k r y' σ' w' hv hmin hst hc hy hM' => by
    subst hv
    have hfc := firsts hS r (by rw [← hmin]; exact Nat.min_le_left _ _)
    have hrun : (Builtin.copy_ #[t, u] ty #[.slice A n k, vb]).run Tryz.prog w = .ok (.int .i64 (r : Int)) w' := by
     cases A with
     | none =>
      have hst : w' = w := hst
      subst hst
      simp [Builtin.copy_, run_underlying hu, sizeOf, typeInfo, hi, hz, hlen, hmin, hfc, goInt]
     | some a =>
      have hst : (storeCells a (news.take (r * z))).run Tryz.prog w = .ok () w' := hst
      simp [Builtin.copy_, run_underlying hu, sizeOf, typeInfo, hi, hz, hlen, hmin, hfc, hst, goInt]
    refine xw (by simp [opsOK, Op.operands, Call.operands, h1, h2]) rfl (v := .int .i64 (r : Int)) (w' := w') ?_ ⟨_, σ', ρ, _, hc, Up.refl ρ, hy, hM', rfl⟩ trivial
    simp [execOp, resolve, invoke, builtin, ev_of h1, ev_of h2, hrun]
   have gt : ∀ (id z' j n k : Nat) (p : At), va = .slice (some ⟨p.b, j * z', none⟩) n k → ρ[id]? = some p → cpT σ c z id z' j n q new = res → xs Tryz.prog isI isS [] Eng.noH full (Good w0 ρ c res env dst) [⟨dst, .call { callee := .builtin .copy, args := ⟨[x, y]⟩, argTypes := ⟨[t, u]⟩ }, ty, pos, af, none⟩] env w := fun id z' j n k p hv hp h => by
    obtain ⟨hzz, g3⟩ := okK_inv h hr
    have hzz := Nat.eq_of_beq_eq_true hzz
    rw [fN_eq] at g3
    rcases Nat.eq_zero_or_pos (Nat.min q n) with h0 | h0
    ·rw [h0] at g3
     refine go _ n k 0 (.n .i64 0) σ w hv h0 ?_ g3 ⟨rfl, Nat.zero_le _⟩ hM
     rw [Nat.zero_mul]
     rfl
    ·obtain ⟨r, hr1⟩ : ∃ r, Nat.min q n = r + 1 := ⟨Nat.min q n - 1, by omega⟩
     have hrq : r + 1 ≤ q := by rw [← hr1]; exact Nat.min_le_left _ _
     rw [hr1] at g3
     have g4 : (fP (new.take (Nat.mul (r + 1) z)) fun l => fN (Nat.mul j z) fun o => wrK σ id o l fun σ => lnK σ c (r + 1)) = res := g3
     rw [fP_eq, fN_eq] at g4
     have hSl := hS.len
     have hnl := hn.len
     have hle : (r + 1) * z ≤ q * z := Nat.mul_le_mul_right z hrq
     have hz0 : 0 < (r + 1) * z := Nat.mul_pos (by omega) (by omega)
     ·obtain ⟨σ', g5, g6, g7, g8, _⟩ := wr_step hr hM g4 hp (hn.take ((r + 1) * z)) (by rw [List.length_take]; exact Nat.lt_min.2 ⟨hz0, by omega⟩)
      obtain ⟨hb, g9⟩ := okK_inv g5 hr
      refine go _ n k (r + 1) _ σ' _ hv hr1 ?_ g9 ⟨rfl, Nat.le_of_ble_eq_true hb⟩ g8
      have hst := run_storeCells_cells (P := Tryz.prog) p.b (j * z') (news.take ((r + 1) * z)) 0 w (by rw [hzz]; simpa using g6) (by rw [hzz]; simpa using g7) ((hn.take _).cells)
      rw [Nat.add_zero, hzz] at hst
      rw [hzz]
      exact hst
   rcases onL_inv hr g2 with ⟨e0, g3⟩ | ⟨id, z', j, n, e0, g3⟩ | ⟨id, z', j, n, k', e0, g3⟩ | ⟨_, _, _, _, e0, g3⟩ | ⟨l, e0, g3⟩ | ⟨id, o, e0, g3⟩ <;> subst e0
   ·exact go none 0 0 0 _ σ w h3 (Nat.min_eq_right (Nat.zero_le _)) rfl g3 ⟨rfl, Nat.zero_le _⟩ hM
   ·obtain ⟨p, hp, _, _, _, rfl⟩ := h3
    exact gt id z' j n _ p rfl hp g3
   ·obtain ⟨p, hp, _, _, rfl⟩ := h3
    exact gt id z' j n _ p rfl hp g3
   ·obtain ⟨A, k, rfl, _⟩ := SR.le_inv h3
    refine go A 0 k 0 _ σ w rfl (Nat.min_eq_right (Nat.zero_le _)) ?_ g3 ⟨rfl, Nat.zero_le _⟩ hM
    cases A with
    | none => rfl
    | some a =>
     rw [Nat.zero_mul]
     rfl
   ·exact absurd g3.symm hr
   ·exact absurd g3.symm hr
  ·exact absurd h.symm hr
 ·exact absurd h.symm hr
theorem s_cl {t : TypeId} {x : Operand} (h : (clW m t x).f ih e σ c = res) : xs Tryz.prog isI isS [] Eng.noH full (Good w0 ρ c res env dst) [⟨dst, .call { callee := .builtin .clear, args := ⟨[x]⟩, argTypes := ⟨[t]⟩ }, ty, pos, af, none⟩] env w := by
 unfold clW at h
 split at h
 ·rename_i el z hel
  obtain ⟨hu, hsz⟩ := elemOf_inv hel
  split at h
  ·rename_i zs hzs
   split at h
   ·rename_i k1 k2
    rw [cN_eq, cVs_eq] at h
    have k1 := Nat.eq_of_beq_eq_true k1
    have k2 := Nat.le_of_ble_eq_true k2
    obtain ⟨i, v, hi, hz, hl⟩ := zA_inv (ρ := ρ) hzs
    obtain ⟨a, va, h1, h2, g1⟩ := gtW_inv hr hE h
    have none : ∀ (A : Option Addr) (k : Nat), va = .slice A 0 k → c (.t []) σ = res → xs Tryz.prog isI isS [] Eng.noH full (Good w0 ρ c res env dst) [⟨dst, .call { callee := .builtin .clear, args := ⟨[x]⟩, argTypes := ⟨[t]⟩ }, ty, pos, af, none⟩] env w := fun A k hv hc => by
     subst hv
     have hrun : (Builtin.clear_ #[t] ty #[.slice A 0 k]).run Tryz.prog w = .ok (.tuple #[]) w := by
      cases A <;> simp [Builtin.clear_, run_underlying hu]
     refine xw (v := .tuple #[]) (w' := w) (by simp [opsOK, Op.operands, Call.operands, h1]) rfl ?_ ⟨_, σ, ρ, _, hc, Up.refl ρ, ⟨[], .nil, rfl⟩, hM, rfl⟩ trivial
     simp [execOp, resolve, invoke, builtin, ev_of h1, hrun]
    have gt : ∀ (id z' j n k : Nat) (p : At), va = .slice (some ⟨p.b, j * z', Option.none⟩) n k → ρ[id]? = some p → clT σ c z zs id z' j n = res → xs Tryz.prog isI isS [] Eng.noH full (Good w0 ρ c res env dst) [⟨dst, .call { callee := .builtin .clear, args := ⟨[x]⟩, argTypes := ⟨[t]⟩ }, ty, pos, af, Option.none⟩] env w := fun id z' j n k p hv hp h => by
     obtain ⟨hzz, g3⟩ := okK_inv h hr
     have hzz := Nat.eq_of_beq_eq_true hzz
     cases n with
     | zero => exact none _ k hv g3
     | succ n =>
      have g4 : (fP (rep zs (n + 1)) fun l => fN (Nat.mul j z) fun o => wrK σ id o l fun σ => c (.t []) σ) = res := g3
      rw [fP_eq, fN_eq] at g4
      have hrep := rep_rel hl (n + 1)
      rw [k1] at hrep
      have hlen : (rep zs (n + 1)).length = (n + 1) * z := by rw [rep_len, k1]
      have hpos : 0 < (n + 1) * z := Nat.mul_pos (by omega) (by omega)
      obtain ⟨σ', g5, g6, g7, g8, _⟩ := wr_step hr hM g4 hp hrep (by omega)
      subst hv
      have hst := run_storeCells_cells (P := Tryz.prog) p.b (j * z') (madeCells v.cells ((n + 1) * z)).toList 0 w (by rw [hzz]; simpa using g6) (by rw [hzz]; simpa using g7) hrep.cells
      rw [Nat.add_zero] at hst
      have hvs : v.cells.size = z := by rw [← k1, ← Array.length_toList, hl.len]
      have hzc : Builtin.zeroCells v.cells (n + 1) = madeCells v.cells ((n + 1) * z) := by
       unfold Builtin.zeroCells madeCells
       rw [hvs]
      have hrun : (Builtin.clear_ #[t] ty #[.slice (some ⟨p.b, j * z', Option.none⟩) (n + 1) k]).run Tryz.prog w = .ok (.tuple #[]) (w.setCells p.b (j * z') (madeCells v.cells ((n + 1) * z)).toList) := by
       simp [Builtin.clear_, run_underlying hu, zeroValue, typeInfo, hi, hz, hzc, hst]
      rw [hzz] at hrun
      refine xw (v := .tuple #[]) (by simp [opsOK, Op.operands, Call.operands, h1]) rfl (w' := w.setCells p.b (j * z) (madeCells v.cells ((n + 1) * z)).toList) ?_ ⟨_, σ', ρ, _, g5, Up.refl ρ, ⟨[], .nil, rfl⟩, g8, rfl⟩ trivial
      rw [hzz] at h1
      simp [execOp, resolve, invoke, builtin, ev_of h1, hrun]
    rcases onL_inv hr g1 with ⟨e0, g3⟩ | ⟨id, z', j, n, e0, g3⟩ | ⟨id, z', j, n, k', e0, g3⟩ | ⟨_, _, _, _, e0, g3⟩ | ⟨l, e0, g3⟩ | ⟨id, o, e0, g3⟩ <;> subst e0
    ·exact none Option.none 0 h2 g3
    ·obtain ⟨p, hp, _, _, _, rfl⟩ := h2
     exact gt id z' j n _ p rfl hp g3
    ·obtain ⟨p, hp, _, _, rfl⟩ := h2
     exact gt id z' j n _ p rfl hp g3
    ·obtain ⟨A, k, rfl, _⟩ := SR.le_inv h2
     exact none A k rfl g3
    ·exact absurd g3.symm hr
    ·exact absurd g3.symm hr
   ·exact absurd h.symm hr
  ·exact absurd h.symm hr
 ·exact absurd h.symm hr
omit hr hE hM in
theorem x_cvi {s t : TypeId} {x : Operand} {k0 k k1 : IntKind} {a : Int} (hx : evo env x = some (.int k1 a)) (hsk : kindOf s = some k0) (ht : kindOf t = some k) {K : Env → World → Prop} {hs : List Nat} {H : World → Prop} {rest : List Oper}
  (h : xs Tryz.prog isI isS hs H full K rest ((d, .int k (k.wrap a)) :: env) w) : xs Tryz.prog isI isS hs H full K (⟨some d, .convert s t x, ty, pos, af, none⟩ :: rest) env w := by
 refine x_gen rfl (by simp [opsOK, Op.operands, hx]) ?_
 have hc : clsO isI isS hs ⟨some d, Op.convert s t x, ty, pos, af, none⟩ = .p := by simp [clsO, cls, isI, hsk, ht]
 rw [hc]
 exact ⟨_, fun w' => by simp [execOp, ev_of hx, convert, run_underlying (kind_spec hsk), run_underlying (kind_spec ht), Conv.intToInt], h⟩
end
end Rn
end Eng
end Go.Proofs.YtpfelapckcojjaaGreatDoor
namespace Go.Proofs.YtpfelapckcojjaaGreatDoor
open Go.RowKit
namespace Eng
namespace Rn
theorem freeze_bk {w : World} {b : Nat} {eb : TypeId} {n : Nat} (hs : w.shape? b = some (eb, n)) {g : Nat} {t : TypeId} {cs : Array Value} (h : Bk w g t cs) : Bk (w.freeze ⟨b, n, none⟩ 1) g t cs := by
 obtain ⟨f, h, hf⟩ := h
 unfold World.freeze
 rw [if_neg (by decide)]
 by_cases hb : b = g
 ·subst hb
  have hn : n = cs.size := by
   unfold World.shape? at hs
   rw [h] at hs
   have := Option.some.inj hs
   exact (Prod.mk.inj this).2.symm
  refine ⟨if f.1 == f.2 then (n, n + 1) else (min f.1 n, max f.2 (n + 1)), ?_, .inl ?_⟩
  ·simp [Array.getElem?_modify, h]
  ·subst hn
   split
   ·exact Nat.le_refl _
   ·rename_i hne
    rcases hf with hf | hf
    ·show cs.size ≤ min f.1 cs.size
     omega
    ·rw [hf] at hne
     simp at hne
 ·refine ⟨f, ?_, hf⟩
  simp [Array.getElem?_modify, hb, h]
theorem mark_run (P : Program) (a : Addr) (w : World) : ∃ w', (markStringish a).run P w = .ok () w' ∧ Fr (fun k => k = a.block) w w' ∧ (∀ g t cs, Bk w g t cs → Bk w' g t cs) ∧ ∀ g l, MpB w g l → MpB w' g l := by
 cases hs : w.shape? a.block with
 | none => exact ⟨w, by simp [markStringish, hs], Fr.refl _ _, fun _ _ _ h => h, fun _ _ h => h⟩
 | some p =>
  obtain ⟨eb, n⟩ := p
  have hF : Fr (fun k => k = a.block) w (w.freeze ⟨a.block, n, none⟩ 1) := ⟨rfl, rfl, rfl, by simp [World.freeze], fun k hk hn => by unfold World.freeze; rw [if_neg (by decide)]; simp only [Array.getElem?_modify]; rw [if_neg (fun e => hn e.symm)]⟩
  refine ⟨w.freeze ⟨a.block, n, none⟩ 1, by simp [markStringish, hs], hF, fun g t cs h => freeze_bk hs h, fun g l h => h.fr hF fun e => ?_⟩
  have e : g = a.block := e
  subst e
  obtain ⟨es, clock, h1, _⟩ := h
  simp [World.shape?, h1] at hs
section
variable {m : Nat} {ih : Cl} {e : En} {σ : Mem} {c : Kt} {res : Rs} {ρ : Pl} {env : Env} {w0 : Fm} {w : World} {full : Array Oper} {d : Tmp} {dst : Option Tmp} {ty : TypeId} {pos : String} {af : Array Edge} (hr : res ≠ .no)
include hr
theorem byK_inv {ρ : Pl} : ∀ {l : List SV} {vs : List Value} {k : List Nat → Rs}, byK l k = res → SRs ρ l vs → ∃ r, r.length = l.length ∧ (∀ c ∈ r, c < 256) ∧ vs = (uOf r).map (fun b => Value.int .u8 (b.toNat : Int)) ∧ k r = res
 | [], vs, k, h, hl => by
  cases hl
  exact ⟨[], rfl, (by intro c hc; cases hc), rfl, h⟩
 | x :: l, vs, k, h, hl => by
  cases hl with
  | cons h1 h2 =>
   obtain ⟨q, a, e0, g1⟩ := onN_inv hr (show onN (.v x) (fun q a => kkK q .u8 (byK l fun r => k (a :: r))) = res from h)
   obtain ⟨e1, g2⟩ := kkK_inv hr g1
   obtain ⟨r, g3, g4, g5, g6⟩ := byK_inv g2 h2
   have e2 : x = .n q a := by injection e0
   subst e2
   subst e1
   obtain ⟨_, h3, h4⟩ := h1
   have ha : a < 256 := by have h4 : a ≤ 255 := h4; omega
   refine ⟨a :: r, by simp [g3], fun c hc => ?_, ?_, g6⟩
   ·rcases List.mem_cons.1 hc with rfl | hc
    ·exact ha
    ·exact g4 c hc
   ·rw [h3, g5]
    simp only [uOf, List.map_cons, UInt8.toNat_ofNat', Nat.mod_eq_of_lt ha]
    rfl
theorem rvK_inv {r : Rs} (h : rvK c r = res) : ∃ v e' σ', r = .mk (.val v) e' σ' ∧ c v σ' = res := by
 cases r with
 | no => exact absurd h.symm hr
 | mk x e' σ' =>
  cases x with
  | val v => exact ⟨v, e', σ', rfl, h⟩
  | _ => exact absurd h.symm hr
variable (hE : ER m ρ e env) (hM : MR w0 ρ σ w)
include hE hM
theorem s_cv {s t : TypeId} {x : Operand} (h : (cvW m s t x).f ih e σ c = res) : xs Tryz.prog isI isS [] Eng.noH full (Good w0 ρ c res env (some d)) [⟨some d, .convert s t x, ty, pos, af, none⟩] env w := by
 unfold cvW at h
 split at h
 ·rename_i k hk
  split at h
  ·rename_i k0 hk0
   obtain ⟨a, v, h1, h2, g1⟩ := gtW_inv hr hE (show (gtW m x).f e _ = res from h)
   rcases onI_inv hr g1 with ⟨k1, b, e0, g2⟩ | ⟨k1, b, e0, g2⟩ <;> subst e0
   ·obtain ⟨rfl, _⟩ := h2
    obtain ⟨y, g3, hy⟩ := wrI_inv (ρ := ρ) hr g2
    exact x_cvi h1 hk0 hk ⟨_, σ, ρ, _, g3, Up.refl ρ, hy, hM, rfl⟩
   ·obtain ⟨rfl, _⟩ := h2
    obtain ⟨y, g3, hy⟩ := wrI_inv (ρ := ρ) hr g2
    exact x_cvi h1 hk0 hk ⟨_, σ, ρ, _, g3, Up.refl ρ, hy, hM, rfl⟩
  ·rename_i hk0
   split at h
   ·rename_i hu
    obtain ⟨a, v, h1, h2, g1⟩ := gtW_inv hr hE (show (gtW m x).f e _ = res from h)
    obtain ⟨n, e0, g2⟩ := onE_inv hr g1
    subst e0
    obtain ⟨rfl, hn⟩ := h2
    have hv : floatToIntVal .f64 (fw n) .i64 = some (n : Int) := by
     unfold floatToIntVal
     rw [fw_int (by omega)]
     dsimp only
     rw [if_pos (by simp [IntKind.min, IntKind.max, IntKind.signed, IntKind.bits]; omega)]
    have hI : isI s = false := by unfold isI; rw [hk0]; rfl
    have hS : isS t = false := by
     cases hst : isS t with
     | false => rfl
     | true =>
      have h5 := str_spec hst
      rw [kind_spec hk] at h5
      cases h5
    refine xw (v := .int .i64 (n : Int)) (w' := w) (by simp [opsOK, Op.operands, h1]) (by simp [cls, hI, hS]) ?_ ⟨_, σ, ρ, _, g2, Up.refl ρ, ⟨rfl, by show n ≤ 9223372036854775807; omega⟩, hM, rfl⟩ trivial
    simp [execOp, ev_of h1, run_convert_float_int (P := Tryz.prog) w s t .f64 .i64 (fw n) n (by rw [hu]; rfl) (kind_spec hk) hv]
   ·exact absurd h.symm hr
 ·rename_i hk
  have hI : isI t = false := by unfold isI; rw [hk]; rfl
  split at h
  ·rename_i hS
   have hcl : clsO isI isS [] ⟨some d, .convert s t x, ty, pos, af, none⟩ = .r := by
    simp [clsO, cls, hI, hS, memb]
   split at h
   ·rename_i hS'
    obtain ⟨a, v, h1, h2, g1⟩ := gtW_inv hr hE h
    obtain ⟨l, e0, g2⟩ := onS_inv hr g1
    subst e0
    have h2' := h2
    obtain ⟨rfl, _⟩ := h2
    refine x_gen rfl (by simp [opsOK, Op.operands, h1]) ?_
    rw [hcl]
    refine ⟨_, ?_, _, σ, ρ, _, g2, Up.refl ρ, h2', hM, rfl⟩
    simp [execOp, ev_of h1, convert, run_underlying (str_spec hS), run_underlying (str_spec hS')]
   ·split at h
    ·rename_i el hel
     split at h
     ·rename_i hk8
      obtain ⟨hu, hsz⟩ := elemOf_inv hel
      obtain ⟨a, v, h1, h2, g1⟩ := gtW_inv hr hE h
      obtain ⟨q, new, news, g2, hn, hSr⟩ := srK_inv (t := s) hr hM h2 g1
      obtain ⟨r, f1, f2, f3, f4⟩ := byK_inv hr g2 hn
      obtain ⟨hb, f5⟩ := okK_inv f4 hr
      have hb := Nat.le_of_ble_eq_true hb
      have hlen : (uOf r).length = q := by
       have := hSr.len
       rw [hn.len] at this
       simp [uOf]
       omega
      refine x_gen rfl (by simp [opsOK, Op.operands, h1]) ?_
      rw [hcl]
      refine ⟨.string (su (uOf r)), ?_, _, σ, ρ, _, f5, Up.refl ρ, ⟨rfl, f2, hb⟩, hM, rfl⟩
      have hrun : (convert s t v).run Tryz.prog w = .ok (.string (su (uOf r))) w := by
       cases hSr with
       | @sl A _ c' _ hl hcell hnn =>
        cases A with
        | none =>
         have h0 := hnn rfl
         have e1 : uOf r = [] := List.eq_nil_of_length_eq_zero (by omega)
         rw [run_convert_bytes_nil w s el hu (kind_spec hk8) _ _ t (str_spec hS), e1]
         rfl
        | some a' =>
         have := run_convert_bytes_back (P := Tryz.prog) w s t el a' c' (uOf r) hu (kind_spec hk8) (str_spec hS) (fun j hj => by
          refine hcell a' rfl j _ ?_
          rw [f3, List.getElem?_map, List.getElem?_eq_getElem hj]
          rfl)
         rw [hlen] at this
         exact this
       | st hus _ =>
        have := str_spec hS
        rw [hu] at hus
        cases hus
      simp [execOp, ev_of h1, hrun]
     ·exact absurd h.symm hr
    ·exact absurd h.symm hr
  ·rename_i hS
   split at h
   ·rename_i el hel
    obtain ⟨hu, hsz⟩ := elemOf_inv hel
    split at h
    ·rename_i hk8
     have hclw : cls isI isS (.convert s t x) = .w := by simp [cls, hI, hS]
     split at h
     ·rename_i hS'
      obtain ⟨a, v, h1, h2, g1⟩ := gtW_inv hr hE h
      obtain ⟨l, e0, g2⟩ := onS_inv hr g1
      rw [fN_eq] at g2
      obtain ⟨hl1, g3⟩ := okK_inv g2 hr
      rw [fP_eq] at g3
      subst e0
      obtain ⟨rfl, h3, h4⟩ := h2
      have hrun := run_bytes_of_string (P := Tryz.prog) w s t el (su (uOf l)) (str_spec hS') hu (kind_spec hk8)
      have hsize : (su (uOf l)).size = l.length := by rw [su_size]; simp [uOf]
      have hge := grownCap_ge w (su (uOf l)).size 0 el
      have hle := grownCap_le_maxLen w (su (uOf l)).size 0 el (by rw [hsize]; exact h4)
      generalize grownCap w (su (uOf l)).size 0 el = k at hrun hge hle
      have hcs : (bytesRow (su (uOf l)) k).size = k := by
       simp only [bytesRow, Array.size_append, Array.size_map, Array.size_replicate]
       show (su (uOf l)).size + _ = _
       omega
      refine xw (by simp [opsOK, Op.operands, h1]) hclw (v := .slice (some ⟨w.heap.size, 0, none⟩) (su (uOf l)).size k) (w' := w.drew.alloc (.cells (bytesRow (su (uOf l)) k) el ((bytesRow (su (uOf l)) k).size, (bytesRow (su (uOf l)) k).size + 1))) ?_ ?_ trivial
      ·simp [execOp, ev_of h1, hrun]
      ·have hB : Bk (w.drew.alloc (.cells (bytesRow (su (uOf l)) k) el ((bytesRow (su (uOf l)) k).size, (bytesRow (su (uOf l)) k).size + 1))) w.heap.size el (bytesRow (su (uOf l)) k) := ⟨_, heap_alloc_new w.drew _, .inl (Nat.le_refl _)⟩
       obtain ⟨σ', q1, q2, q3⟩ := new_step hr hM k 1 g3 (by rw [hcs, Nat.mul_one]) hB (fun o u hu => by
        have hlt := (List.getElem?_eq_some_iff.1 hu).1
        simp only [bytesRow]
        rw [Array.getElem?_append_left (by simp [su]; simpa using hlt)]
        simpa [su] using hu) ((Fr.drew _ w).t (Fr.alloc _ _ _)) (byte_rel ρ h3)
       refine ⟨_, σ', _, _, q1, Up.snoc _ _, ⟨⟨w.heap.size, k, 1⟩, q3, rfl, by rw [hsize] at hge; simpa using hge, hle, by rw [hsize]; simp⟩, q2, rfl⟩
     ·split at h
      ·rename_i hbq
       have hst := Nat.eq_of_beq_eq_true hbq
       subst hst
       obtain ⟨a, v, h1, h2, g1⟩ := gtW_inv hr hE h
       have go : ∀ (A : Addr) (n k : Nat), v = .slice (some A) n k → w0.may A.block → c a σ = res → xs Tryz.prog isI isS [] Eng.noH full (Good w0 ρ c res env (some d)) [⟨some d, .convert s s x, ty, pos, af, none⟩] env w := fun A n k hv hA hc => by
        obtain ⟨w', hrun, hFk, hbk, hmk⟩ := mark_run Tryz.prog A w
        refine xw (by simp [opsOK, Op.operands, h1]) hclw (v := v) (w' := w') ?_ ⟨_, σ, ρ, _, hc, Up.refl ρ, h2, hM.as hFk hA hbk hmk, rfl⟩ trivial
        subst hv
        simp [execOp, ev_of h1, convert, run_underlying hu, run_underlying (kind_spec hk8), hrun]
       rcases onL_inv hr g1 with ⟨e0, g3⟩ | ⟨id, z', j, n, e0, g3⟩ | ⟨id, z', j, n, k', e0, g3⟩ | ⟨_, _, _, _, e0, g3⟩ | ⟨l, e0, g3⟩ | ⟨id, o, e0, g3⟩ <;> subst e0
       ·exact absurd g3.symm hr
       ·have h2' := h2
        obtain ⟨p, hp, _, _, _, e1⟩ := h2'
        obtain ⟨ob, k1, k2⟩ := obK_inv hr g3
        obtain ⟨y, k3, k4⟩ := getK_inv hr k2
        exact go _ _ _ e1 (hM.far id 0 p (by rw [cget_iff.2 ⟨ob, k1, k3⟩]; rfl) hp) k4
       ·have h2' := h2
        obtain ⟨p, hp, _, _, e1⟩ := h2'
        obtain ⟨ob, k1, k2⟩ := obK_inv hr g3
        obtain ⟨y, k3, k4⟩ := getK_inv hr k2
        exact go _ _ _ e1 (hM.far id 0 p (by rw [cget_iff.2 ⟨ob, k1, k3⟩]; rfl) hp) k4
       ·exact absurd g3.symm hr
       ·exact absurd g3.symm hr
       ·exact absurd g3.symm hr
      ·exact absurd h.symm hr
    ·exact absurd h.symm hr
   ·split at h
    ·rename_i k0 hu hk0
     obtain ⟨a, v, h1, h2, g1⟩ := gtW_inv hr hE (show (gtW m x).f e _ = res from h)
     obtain ⟨k1, n, e0, g2⟩ := onN_inv hr g1
     obtain ⟨hn, g3⟩ := okK_inv g2 hr
     have hn := Nat.le_of_ble_eq_true hn
     subst e0
     obtain ⟨rfl, _⟩ := h2
     refine xw (v := .float .f64 (fw n)) (w' := w) (by simp [opsOK, Op.operands, h1]) (by simp [cls, hI, hS]) ?_ ⟨_, σ, ρ, _, g3, Up.refl ρ, ⟨rfl, hn⟩, hM, rfl⟩ trivial
     have h1' : ev env x = .int k1 (n : Int) := ev_of h1
     simp [execOp, h1', run_convert_int_float (P := Tryz.prog) w s t k1 .f64 (n : Int) (by rw [kind_spec hk0]; rfl) hu, floatOfInt, fw]
    ·exact absurd h.symm hr
def CallS (w0 : Fm) (ih : Cl) : Prop := ∀ f al σ v e' σ' (ρ : Pl) vs w, ih f al σ = .mk (.val v) e' σ' → ARs ρ al vs → MR w0 ρ σ w → Does Tryz.prog f vs.toArray w (fun val w' => ∃ ρ', Up ρ ρ' ∧ AR ρ' v val ∧ MR w0 ρ' σ' w')
omit hr hE hM in
theorem evs_toArray {al : List AV} {vs : List Value} {cl : List SV} {cs : List Value} (ha : ARs ρ al vs) (hc : SRs ρ cl cs) : ARs ρ (al ++ cl.map AV.v) (vs ++ cs) := by
 induction ha with
 | nil =>
  show ARs ρ (cl.map AV.v) cs
  induction hc with
  | nil => exact .nil
  | cons h1 _ ih => exact .cons h1.2 ih
 | cons h1 _ ih => exact .cons h1 ih
omit hE hM in
theorem ad3_inv {al : List AV} {vs : List Value} (ha : ARs ρ al vs) (h : ad3 σ c al = res) : ∃ a b q, vs = [.int .u64 (a : Nat), .int .u64 (b : Nat), .int .u64 (q : Nat)] ∧ a < 18446744073709551616 ∧ b < 18446744073709551616 ∧ q ≤ 1 ∧ c (.t [.v (.n .u64 ((a + b + q) % 18446744073709551616)), .v (.n .u64 ((a + b + q) / 18446744073709551616))]) σ = res := by
 cases ha with
 | nil => exact absurd h.symm hr
 | cons h1 ha =>
  cases ha with
  | nil => exact absurd h.symm hr
  | cons h2 ha =>
   cases ha with
   | nil => exact absurd h.symm hr
   | cons h3 ha =>
    cases ha with
    | cons _ _ => exact absurd h.symm hr
    | nil =>
     obtain ⟨k1, a, e1, q1⟩ := onN_inv hr (show adR σ c _ _ _ = res from h)
     obtain ⟨p1, q2⟩ := kkK_inv hr q1
     obtain ⟨k2, b, e2, q3⟩ := onN_inv hr q2
     obtain ⟨p2, q4⟩ := kkK_inv hr q3
     obtain ⟨k3, q, e3, q5⟩ := onN_inv hr q4
     obtain ⟨p3, q6⟩ := kkK_inv hr q5
     obtain ⟨g2, g1⟩ := okK_inv q6 hr
     clear q1 q2 q3 q4 q5 q6 h
     subst e1; subst e2; subst e3
     rw [fN_eq, fN_eq, fN_eq] at g1
     subst p1; subst p2; subst p3
     obtain ⟨rfl, h1⟩ := h1
     obtain ⟨rfl, h2⟩ := h2
     obtain ⟨rfl, h3⟩ := h3
     have h1 : a ≤ 18446744073709551615 := h1
     have h2 : b ≤ 18446744073709551615 := h2
     exact ⟨a, b, q, rfl, by omega, by omega, Nat.le_of_ble_eq_true g2, g1⟩
def AdOK (f : Nat) : Prop := ∀ (a b q : Nat) (w : World), a < 18446744073709551616 → b < 18446744073709551616 → q ≤ 1 → (callFunc f #[.int .u64 (a : Int), .int .u64 (b : Int), .int .u64 (q : Int)]).run Tryz.prog w = .ok (.value (.tuple #[.int .u64 (((a + b + q) % 18446744073709551616 : Nat) : Int), .int .u64 (((a + b + q) / 18446744073709551616 : Nat) : Int)])) w
omit hr hE hM in
theorem ad_ok {f : Nat} (h : n_ad64 = some f) : AdOK f := by
 have e : 232 = f := Option.some.inj h
 subst e
 intro a b q w ha hb hq
 rw [run_callFunc_extern Tryz.func232 (by kernel_rfl) (by kernel_rfl) (by kernel_rfl) (e := add64Entry) (by kernel_rfl), run_add64 a b q (by omega) (by omega) (by omega) (by omega)]
 simp only [Result.andThen]
 congr 5 <;> omega
theorem s_call (hih : CallS w0 ih) {k : Callee} {a : List Operand} {ts : List TypeId} (h : (caW m k a ts).f ih e σ c = res) (hb : ∀ b, k ≠ .builtin b) : xs Tryz.prog isI isS [] Eng.noH full (Good w0 ρ c res env dst) [⟨dst, .call { callee := k, args := a.toArray, argTypes := ts.toArray }, ty, pos, af, none⟩] env w := by
 unfold caW at h
 split at h
 ·rename_i f
  split at h
  ·rename_i hf
   obtain ⟨al, vs, h1, h2, g1⟩ := gtsW_inv hr hE (show (gtsW m a).f e _ = res from h)
   obtain ⟨v, e', σ', g2, g3⟩ := rvK_inv hr g1
   refine xcall h1 hf (hih f al σ v e' σ' ρ vs w g2 h2 hM) (fun val w' hS => ?_)
   obtain ⟨ρ', r1, r2, r3⟩ := hS
   exact ⟨v, σ', ρ', val, g3, r1, r2, r3, rfl⟩
  ·split at h
   ·rename_i q hq
    split at h
    ·rename_i hqf
     obtain rfl := Nat.eq_of_beq_eq_true hqf
     obtain ⟨al, vs, h1, h2, g1⟩ := gtsW_inv hr hE (show (gtsW m a).f e _ = res from h)
     obtain ⟨x, y, z, rfl, b1, b2, b3, g2⟩ := ad3_inv hr h2 g1
     obtain ⟨k1, k2⟩ := evs_spec h1
     refine xw (v := .tuple #[.int .u64 (((x + y + z) % 18446744073709551616 : Nat) : Int), .int .u64 (((x + y + z) / 18446744073709551616 : Nat) : Int)]) (by simpa [opsOK, Op.operands, Call.operands, evo] using k2) rfl (w' := w) ?_ ?_ trivial
     ·have e1 : ev env (.func q) = .func (.func q) #[] #[] := rfl
      have hr' := ad_ok hq x y z w b1 b2 b3
      simp [execOp, resolve, e1, Deferred.ofValue, invoke, k1, hr']
     ·refine ⟨_, σ, ρ, _, g2, Up.refl ρ, ?_, hM, rfl⟩
      exact ⟨_, .cons ⟨rfl, by show _ ≤ 18446744073709551615; omega⟩ (.cons ⟨rfl, by show _ ≤ 18446744073709551615; omega⟩ .nil), rfl⟩
    ·exact absurd h.symm hr
   ·exact absurd h.symm hr
 ·rename_i t
  obtain ⟨q, h1, g1⟩ := gtT_inv hr (show (gtT m t).f e _ = res from h)
  obtain ⟨fv, h2, h3⟩ := hE t q h1
  obtain ⟨al, vs, h4, h5, g2⟩ := gtsW_inv hr hE g1
  obtain ⟨g, cl, e0, g3⟩ := onF_inv hr g2
  obtain ⟨hf, g4⟩ := okK_inv g3 hr
  rw [fP_eq] at g4
  obtain ⟨v, e', σ', g5, g6⟩ := rvK_inv hr g4
  subst e0
  obtain ⟨cs, h6, rfl⟩ := h3
  have hd := hih g _ σ v e' σ' ρ (vs ++ cs) w g5 (evs_toArray h5 h6) hM
  refine xcallv (cap := cs.toArray) h2 h4 hf (by rw [List.append_toArray]; exact hd) (fun val w' hS => ?_)
  obtain ⟨ρ', r1, r2, r3⟩ := hS
  exact ⟨v, σ', ρ', val, g6, r1, r2, r3, rfl⟩
 ·rename_i b
  exact absurd rfl (hb b)
 ·exact absurd h.symm hr
end
end Rn
end Eng
end Go.Proofs.YtpfelapckcojjaaGreatDoor
namespace Go.Proofs.YtpfelapckcojjaaGreatDoor
open Go.RowKit
namespace Eng
namespace Rn
theorem mpT_spec {t : TypeId} (h : mpT t = true) : ∃ kt et, Tryz.prog.underlying t = some (.map kt et) ∧ Tryz.prog.underlying kt = some (.int .i64) ∧ ∀ w : World, (zeroValue et).run Tryz.prog w = .ok (.int .i64 0) w := by
 unfold mpT at h
 split at h
 ·rename_i kt et hu
  split at h
  ·rename_i hk
   refine ⟨kt, et, hu, kind_spec hk, fun w => ?_⟩
   unfold zeB at h
   split at h
   ·rename_i n hz
    have h := Nat.eq_of_beq_eq_true h
    subst h
    cases hi : Tryz.prog.info? et with
    | none => rw [hi] at hz; cases hz
    | some i =>
     rw [hi] at hz
     have hz : i.zero = some (.int .i64 (Int.ofNat 0)) := hz
     simp [zeroValue, typeInfo, hi, hz]
   ·cases h
  ·cases h
 ·cases h
theorem zeB_spec {et : TypeId} (h : zeB ((Tryz.prog.info? et).bind (·.zero)) = true) (w : World) : (zeroValue et).run Tryz.prog w = .ok (.int .i64 0) w := by
 unfold zeB at h
 split at h
 ·rename_i n hz
  have h := Nat.eq_of_beq_eq_true h
  subst h
  cases hi : Tryz.prog.info? et with
  | none => rw [hi] at hz; cases hz
  | some i =>
   rw [hi] at hz
   have hz : i.zero = some (.int .i64 (Int.ofNat 0)) := hz
   simp [zeroValue, typeInfo, hi, hz]
 ·cases h
theorem mpS_spec {t : TypeId} (h : mpS t = true) : ∃ kt et, Tryz.prog.underlying t = some (.map kt et) ∧ Tryz.prog.underlying kt = some .string ∧ ∀ w : World, (zeroValue et).run Tryz.prog w = .ok (.int .i64 0) w := by
 unfold mpS at h
 split at h
 ·rename_i kt et hu
  split at h
  ·rename_i hk
   exact ⟨kt, et, hu, hk, zeB_spec h⟩
  ·cases h
 ·cases h
theorem run_lke {w : World} {g : Nat} (hB : MpB w g []) (t kt et : TypeId) (hu : Tryz.prog.underlying t = some (.map kt et)) (hk : Tryz.prog.underlying kt = some .string) (hz : (zeroValue et).run Tryz.prog w = .ok (.int .i64 0) w) (s : ByteArray) :
  (Instr.lookup t (.map (some g)) (.string s) false).run Tryz.prog w = .ok (.int .i64 0) w := by
 obtain ⟨es, clock, h1, h2⟩ := hB
 have he : es.toList = [] := List.map_eq_nil_iff.1 h2
 have hc : (Instr.checkKey es.isEmpty 10000 kt (.string s)).run Tryz.prog w = .ok () w := MapKept.run_checkKey (k := .string s) hk (by simp [MapKept.IsKey]) _ 9999
 have hg : (getObj g).run Tryz.prog w = .ok (.map es clock) w := by simp [getObj, Sem.run, h1]
 have hf : (Instr.findKey kt (.string s) es.toList).run Tryz.prog w = .ok none w := by
  rw [he]
  simp [Instr.findKey, run_underlying hk, Instr.findNow]
 simp only [Instr.lookup, Sem.run_bind, run_underlying hu, Result.andThen_ok, hg, hc, Sem.run_pure, hf]
 simp [hz]
theorem nilK_inv {l : List (Nat × Nat)} {r res : Rs} (hr : res ≠ .no) (h : nilK l r = res) : l = [] ∧ r = res := by
 cases l with
 | nil => exact ⟨rfl, h⟩
 | cons _ _ => exact absurd h.symm hr
theorem onM_inv {x : AV} {f : Nat → Rs} {res : Rs} (hr : res ≠ .no) (h : onM x f = res) : ∃ id, x = .v (.mp id) ∧ f id = res := by
 cases x with
 | v x => cases x <;> first | exact ⟨_, rfl, h⟩ | exact absurd h.symm hr
 | _ => exact absurd h.symm hr
theorem asK_inv {α : Type} {x : Option α} {f : α → Rs} {res : Rs} (hr : res ≠ .no) (h : asK x f = res) : ∃ a, x = some a ∧ f a = res := by
 cases x with
 | none => exact absurd h.symm hr
 | some a => exact ⟨a, rfl, h⟩
theorem asc_ints (a : Nat) : ∀ l : List (Nat × Nat), asc (a : Int) (ints l) = (asL a l).map Int.ofNat
 | [] => rfl
 | (i, x) :: l => by
  rw [asL_cons]
  show (if ((i : Nat) : Int) = (a : Int) then some (x : Int) else asc (a : Int) (ints l)) = _
  rw [asc_ints a l]
  by_cases h : i = a
  ·rw [if_pos h, if_pos (by omega)]; rfl
  ·rw [if_neg h, if_neg (by omega)]
theorem MR.newmap {w0 : Fm} {ρ : Pl} {σ : Mem} {w w' : World} (h : MR w0 ρ σ w) (hE : Ext w w') (hB : MpB w' w.heap.size []) : MR w0 (ρ ++ [⟨w.heap.size, 0, 0⟩]) ⟨σ.n + 1, σ.h, (σ.n, []) :: σ.mp⟩ w' := by
 have hu := Up.snoc ρ ⟨w.heap.size, 0, 0⟩
 have hlast : (ρ ++ [(⟨w.heap.size, 0, 0⟩ : At)])[σ.n]? = some ⟨w.heap.size, 0, 0⟩ := by rw [← h.len]; simp
 have old : ∀ id o p, (cget σ id o).isSome = true → (ρ ++ [(⟨w.heap.size, 0, 0⟩ : At)])[id]? = some p → ρ[id]? = some p := fun id o p hs hp => by
  obtain ⟨x, hx⟩ := Option.isSome_iff_exists.1 hs
  obtain ⟨q, _, _, _, h1, _⟩ := h.at_ hx
  have := hu _ _ h1
  rw [hp] at this
  rw [h1, Option.some.inj this]
 have hm := h.mps.to (w0' := w0) hu (fun _ _ hb => hb.ext hE) fun _ _ _ hb => hb
 refine ⟨by simp [h.len], fun id ob h1 h2 => ?_, h.old.te hE, fun id o p hs hp => h.far id o p hs (old id o p hs hp), h.pre, fun id id' o o' p p' hne a1 a2 a3 a4 => h.apart id id' o o' p p' hne a1 a2 (old id o p a1 a3) (old id' o' p' a2 a4), fun id l h1 => ?_, fun id id' l l' p p' hne a1 a2 a3 a4 => ?_⟩
 ·obtain ⟨p, cs, h3, h4, h5, h6⟩ := h.blk id ob h1 h2
  refine ⟨p, cs, hu _ _ h3, h4.ext hE, h5, fun o x hx => ?_⟩
  obtain ⟨v, h7, h8⟩ := h6 o x hx
  exact ⟨v, h7, h8.up hu⟩
 ·rw [asL_cons] at h1
  split at h1
  ·rename_i hid
   subst hid
   obtain rfl := Option.some.inj h1
   exact ⟨_, hlast, hB, .inl h.old.size⟩
  ·exact hm.1 id l h1
 ·have far : ∀ id l p, asL id σ.mp = some l → (ρ ++ [(⟨w.heap.size, 0, 0⟩ : At)])[id]? = some p → p.b < w.heap.size := fun id l p b1 b2 => by
   obtain ⟨q, c1, c2, _⟩ := h.mps.1 id l b1
   have := hu _ _ c1
   rw [b2] at this
   rw [Option.some.inj this]
   exact c2.lt
  rw [asL_cons] at a1 a2
  split at a1
  ·rename_i hid
   subst hid
   rw [hlast] at a3
   obtain rfl := Option.some.inj a3
   rw [if_neg hne] at a2
   have := far _ _ _ a2 a4
   show w.heap.size ≠ p'.b
   omega
  ·split at a2
   ·rename_i hid
    subst hid
    rw [hlast] at a4
    obtain rfl := Option.some.inj a4
    have := far _ _ _ a1 a3
    show p.b ≠ w.heap.size
    omega
   ·exact hm.2 id id' l l' p p' hne a1 a2 a3 a4
theorem MR.updmap {w0 : Fm} {ρ : Pl} {σ : Mem} {w w' : World} {id : Nat} {l l' : List (Nat × Nat)} {p : At} (h : MR w0 ρ σ w) (hl : asL id σ.mp = some l) (hp : ρ[id]? = some p) (hF : Fr (· = p.b) w w') (hB : MpB w' p.b (ints l')) : MR w0 ρ ⟨σ.n, σ.h, (id, l') :: σ.mp⟩ w' := by
 obtain ⟨q, h1, h2, h3⟩ := h.mps.1 id l hl
 rw [hp] at h1
 obtain rfl := Option.some.inj h1
 refine ⟨h.len, fun i ob g1 g2 => ?_, h.old.trans hF fun j hj e => ?_, h.far, h.pre, h.apart, fun i k g1 => ?_, fun i i' k k' q q' hne a1 a2 a3 a4 => ?_⟩
 ·obtain ⟨q, cs, g3, g4, g5⟩ := h.blk i ob g1 g2
  exact ⟨q, cs, g3, g4.fr hF fun e => g4.no_map (by rw [show q.b = p.b from e]; exact h2), g5⟩
 ·have e : j = p.b := e
  subst e
  exact h3.resolve_left (by omega)
 ·rw [asL_cons] at g1
  split at g1
  ·rename_i hid
   subst hid
   obtain rfl := Option.some.inj g1
   exact ⟨p, hp, hB, h3⟩
  ·rename_i hid
   obtain ⟨q, g2, g3, g4⟩ := h.mps.1 i k g1
   exact ⟨q, g2, g3.fr hF fun e => h.mps.2 id i l k p q hid hl g1 hp g2 (show q.b = p.b from e).symm, g4⟩
 ·have get : ∀ i k, asL i ((id, l') :: σ.mp) = some k → ∃ k', asL i σ.mp = some k' := fun i k b => by
   rw [asL_cons] at b
   split at b
   ·rename_i hid
    subst hid
    exact ⟨l, hl⟩
   ·exact ⟨k, b⟩
  obtain ⟨b, hb⟩ := get i k a1
  obtain ⟨b', hb'⟩ := get i' k' a2
  exact h.mps.2 i i' b b' q q' hne hb hb' a3 a4
section
variable {m : Nat} {ih : Cl} {e : En} {σ : Mem} {c : Kt} {res : Rs} {ρ : Pl} {env : Env} {w0 : Fm} {w : World} {full : Array Oper} {d : Tmp} {ty : TypeId} {pos : String} {af : Array Edge} (hr : res ≠ .no)
include hr
theorem s_mkm (hM : MR w0 ρ σ w) {t : TypeId} (h : (mkM t).f ih e σ c = res) : xs Tryz.prog isI isS [] Eng.noH full (Good w0 ρ c res env (some d)) [⟨some d, .makeMap t none, ty, pos, af, none⟩] env w := by
 unfold mkM at h
 split at h
 ·have h : fN (Nat.add σ.n 1) (fun n => c (.v (.mp σ.n)) ⟨n, σ.h, (σ.n, []) :: σ.mp⟩) = res := h
  rw [fN_eq] at h
  exact xmkm fun w' hB hE hs => ⟨_, _, _, _, h, Up.snoc ρ ⟨w.heap.size, 0, 0⟩, ⟨⟨w.heap.size, 0, 0⟩, by rw [← hM.len]; simp, rfl⟩, hM.newmap hE hB, rfl⟩
 ·exact absurd h.symm hr
variable (hE : ER m ρ e env) (hM : MR w0 ρ σ w)
include hE hM
theorem s_lk {t : TypeId} {x y : Operand} (h : (lkW m t x y).f ih e σ c = res) : xs Tryz.prog isI isS [] Eng.noH full (Good w0 ρ c res env (some d)) [⟨some d, .lookup t x y true, ty, pos, af, none⟩] env w := by
 unfold lkW at h
 split at h
 ·rename_i ht
  obtain ⟨kt, et, hu, hk, hz⟩ := mpT_spec ht
  obtain ⟨a, va, h1, h2, q0⟩ := gtW_inv hr hE h
  clear h
  obtain ⟨b, vb, h3, h4, q1⟩ := gtW_inv hr hE q0
  clear q0
  obtain ⟨id, e1, q2⟩ := onM_inv hr q1
  clear q1
  obtain ⟨k, n, e2, q3⟩ := onN_inv hr q2
  clear q2
  obtain ⟨e3, q4⟩ := kkK_inv hr q3
  clear q3
  obtain ⟨l, hl, h⟩ := asK_inv hr q4
  clear q4
  subst e1; subst e2; subst e3
  obtain ⟨p, hp, rfl⟩ := h2
  obtain ⟨rfl, _⟩ := h4
  obtain ⟨q, hq, hB, _⟩ := hM.mps.1 id l hl
  rw [hp] at hq
  obtain rfl := Option.some.inj hq
  refine xlk hu hk hz hB h1 h3 ?_
  have ha := asc_ints n l
  show Good w0 ρ c res env (some d) ((d, .tuple #[.int .i64 ((asc (n : Int) (ints l)).getD 0), .bool (asc (n : Int) (ints l)).isSome]) :: env) w
  rw [ha]
  unfold lkK at h
  split at h
  ·rename_i v hv
   obtain ⟨hle, h⟩ := okK_inv h hr
   rw [hv]
   exact ⟨_, σ, ρ, _, h, Up.refl ρ, ⟨_, .cons (x := .v (.n .i64 v)) ⟨rfl, Nat.le_of_ble_eq_true hle⟩ (.cons (x := .v (.b true)) rfl .nil), rfl⟩, hM, rfl⟩
  ·rename_i hv
   rw [hv]
   exact ⟨_, σ, ρ, _, h, Up.refl ρ, ⟨_, .cons (x := .v (.n .i64 0)) ⟨rfl, Nat.zero_le _⟩ (.cons (x := .v (.b false)) rfl .nil), rfl⟩, hM, rfl⟩
 ·exact absurd h.symm hr
theorem s_le {t : TypeId} {x y : Operand} (h : (leW m t x y).f ih e σ c = res) : xs Tryz.prog isI isS [] Eng.noH full (Good w0 ρ c res env (some d)) [⟨some d, .lookup t x y false, ty, pos, af, none⟩] env w := by
 unfold leW at h
 split at h
 ·rename_i ht
  obtain ⟨kt, et, hu, hk, hz⟩ := mpS_spec ht
  obtain ⟨a, va, h1, h2, q0⟩ := gtW_inv hr hE h
  clear h
  obtain ⟨b, vb, h3, h4, q1⟩ := gtW_inv hr hE q0
  clear q0
  obtain ⟨id, e1, q2⟩ := onM_inv hr q1
  clear q1
  obtain ⟨s, e2, q3⟩ := onS_inv hr q2
  clear q2
  obtain ⟨l, hl, h⟩ := asK_inv hr q3
  clear q3
  obtain ⟨e3, h⟩ := nilK_inv hr h
  subst e1; subst e2; subst e3
  obtain ⟨p, hp, rfl⟩ := h2
  obtain ⟨rfl, _⟩ := h4
  obtain ⟨q, hq, hB, _⟩ := hM.mps.1 id [] hl
  rw [hp] at hq
  obtain rfl := Option.some.inj hq
  have hB : MpB w p.b [] := hB
  refine xw (v := .int .i64 0) (w' := w) (by simp [opsOK, Op.operands, h1, h3]) rfl ?_ ⟨_, σ, ρ, _, h, Up.refl ρ, ⟨rfl, Nat.zero_le _⟩, hM, rfl⟩ True.intro
  simp [execOp, ev_of h1, ev_of h3, run_lke hB t kt et hu hk (hz w)]
 ·exact absurd h.symm hr
theorem s_mu {t : TypeId} {x y z : Operand} (h : (muW m t x y z).f ih e σ c = res) : xs Tryz.prog isI isS [] Eng.noH full (Good w0 ρ c res env none) [⟨none, .mapUpdate t x y z, ty, pos, af, none⟩] env w := by
 unfold muW at h
 split at h
 ·rename_i ht
  obtain ⟨kt, et, hu, hk, hz⟩ := mpT_spec ht
  obtain ⟨a, va, h1, h2, q0⟩ := gtW_inv hr hE h
  clear h
  obtain ⟨b, vb, h3, h4, q1⟩ := gtW_inv hr hE q0
  clear q0
  obtain ⟨g, vg, h5, h6, q2⟩ := gtW_inv hr hE q1
  clear q1
  obtain ⟨id, e1, q3⟩ := onM_inv hr q2
  clear q2
  obtain ⟨k, n, e2, q4⟩ := onN_inv hr q3
  clear q3
  obtain ⟨e3, q5⟩ := kkK_inv hr q4
  clear q4
  obtain ⟨k', n', e4, q6⟩ := onN_inv hr q5
  clear q5
  obtain ⟨e5, q7⟩ := kkK_inv hr q6
  clear q6
  obtain ⟨l, hl, h⟩ := asK_inv hr q7
  clear q7
  subst e1; subst e2; subst e3; subst e4; subst e5
  obtain ⟨p, hp, rfl⟩ := h2
  obtain ⟨rfl, _⟩ := h4
  obtain ⟨rfl, _⟩ := h6
  obtain ⟨q, hq, hB, _⟩ := hM.mps.1 id l hl
  rw [hp] at hq
  obtain rfl := Option.some.inj hq
  unfold muK at h
  split at h
  ·exact absurd h.symm hr
  ·rename_i hn
   rw [fP_eq] at h
   refine xmup hu hk hB (by rw [show asc (Int.ofNat n) (ints l) = _ from asc_ints n l, hn]; rfl) h1 h3 h5 fun w' hB' hF => ?_
   refine ⟨_, _, ρ, undef, h, Up.refl ρ, rfl, hM.updmap hl hp hF ?_, rfl⟩
   unfold ints at hB' ⊢
   rw [List.map_append]
   exact hB'
 ·exact absurd h.symm hr
end
end Rn
end Eng
end Go.Proofs.YtpfelapckcojjaaGreatDoor
namespace Go.Proofs.YtpfelapckcojjaaGreatDoor
open Go.RowKit
namespace Eng
namespace Rn
theorem opU_ne {m : Nat} {op : Op} (h : ∀ s t x, op ≠ .convert s t x) : opU m op = opW m op := by
 unfold opU
 split
 ·exact absurd rfl (h _ _ _)
 ·rfl
section
variable {m : Nat} {ih : Cl} {e : En} {σ : Mem} {c : Kt} {res : Rs} {ρ : Pl} {env : Env} {w0 : Fm} {w : World} {full : Array Oper} {d : Tmp} {ty : TypeId} {pos : String} {af : Array Edge} (hr : res ≠ .no)
include hr
theorem bz1_inv {x : SV} {v : Value} {f : Nat → Rs} (h : bz1 x f = res) (hx : CR ρ x v) : ∃ q, f q = res ∧ (q < 256 ∨ ∃ p, ρ[q - 256]? = some p ∧ p.b < 256) ∧ v = .int .u8 ((ucOf ρ q).toNat : Int) := by
 unfold bz1 at h
 split at h
 ·rename_i a
  obtain ⟨_, h3, h4⟩ := hx
  have ha : a < 256 := by have h4 : a ≤ 255 := h4; omega
  refine ⟨a, h, .inl ha, ?_⟩
  rw [h3]
  unfold ucOf
  rw [if_pos ha]
  simp only [UInt8.toNat_ofNat', Nat.mod_eq_of_lt ha]
  rfl
 ·rename_i id
  obtain ⟨_, p, h3, h4, h5, _⟩ := hx
  have hp : p.b < 256 := by have h5 : p.b ≤ 255 := h5; omega
  rw [fN_eq] at h
  have e1 : Nat.add 256 id - 256 = id := by show 256 + id - 256 = id; omega
  refine ⟨_, h, .inr ⟨p, by rw [e1]; exact h3, hp⟩, ?_⟩
  rw [h4]
  unfold ucOf
  rw [if_neg (by show ¬ (256 + id < 256); omega), e1, h3]
  simp only [UInt8.toNat_ofNat', Nat.mod_eq_of_lt hp]
  rfl
 ·exact absurd h.symm hr
theorem bzK_inv : ∀ {l : List SV} {vs : List Value} {k : List Nat → Rs}, bzK l k = res → SRs ρ l vs → ∃ r, r.length = l.length ∧ (∀ q ∈ r, q < 256 ∨ ∃ p, ρ[q - 256]? = some p ∧ p.b < 256) ∧ vs = (r.map (ucOf ρ)).map (fun b => Value.int .u8 (b.toNat : Int)) ∧ k r = res
 | [], vs, k, h, hl => by
  cases hl
  exact ⟨[], rfl, (by intro c hc; cases hc), rfl, h⟩
 | x :: l, vs, k, h, hl => by
  cases hl with
  | cons h1 h2 =>
   obtain ⟨q, g1, g2, g3⟩ := bz1_inv hr (show bz1 x (fun q => bzK l fun r => k (q :: r)) = res from h) h1
   obtain ⟨r, g4, g5, g6, g7⟩ := bzK_inv g1 h2
   refine ⟨q :: r, by simp [g4], fun c hc => ?_, ?_, g7⟩
   ·rcases List.mem_cons.1 hc with rfl | hc
    ·exact g2
    ·exact g5 c hc
   ·rw [g3, g6]
    rfl
variable (hE : ER m ρ e env) (hM : MR w0 ρ σ w)
include hE hM
theorem s_cu {s t : TypeId} {x : Operand} {W : Wh} (old : W.f ih e σ c = res → xs Tryz.prog isI isS [] Eng.noH full (Good w0 ρ c res env (some d)) [⟨some d, .convert s t x, ty, pos, af, none⟩] env w)
  (h : (cuW m s t x W).f ih e σ c = res) : xs Tryz.prog isI isS [] Eng.noH full (Good w0 ρ c res env (some d)) [⟨some d, .convert s t x, ty, pos, af, none⟩] env w := by
 unfold cuW at h
 split at h
 ·rename_i k k0 hk hk0
  obtain ⟨a, v, h1, h2, h⟩ := gtW_inv hr hE (show (gtW m x).f e _ = res from h)
  unfold cuN at h
  split at h
  ·rename_i k1 hk1
   obtain ⟨n, rfl, hn, _⟩ := xkO_some hk1 h2
   obtain ⟨n', e1, hn'⟩ := wrap_uns (newX_uns hr h) (n : Int)
   refine x_cvi h1 hk0 hk ?_
   rw [e1]
   exact newX_good hr hM h n' hn'
  ·exact old h
 ·rename_i hk
  split at h
  ·rename_i hB
   obtain ⟨a, v, h1, h2, g1⟩ := gtW_inv hr hE (show (gtW m x).f e _ = res from h)
   obtain ⟨q, new, news, g2, hn, hSr⟩ := srK_inv (t := s) hr hM h2 g1
   unfold cuK at g2
   split at g2
   ·obtain ⟨r, f1, f2, f3, f4⟩ := bzK_inv hr g2 hn
    obtain ⟨hb, f5⟩ := okK_inv f4 hr
    have hb := Nat.le_of_ble_eq_true hb
    unfold cuB at hB
    split at hB
    ·rename_i el hS hS' hel
     split at hB
     ·rename_i hk8
      have hI : isI t = false := by unfold isI; rw [hk]; rfl
      have hcl : clsO isI isS [] ⟨some d, .convert s t x, ty, pos, af, none⟩ = .r := by
       simp [clsO, cls, hI, hS, memb]
      obtain ⟨hu, hsz⟩ := elemOf_inv hel
      have hlen : (r.map (ucOf ρ)).length = q := by
       have := hSr.len
       rw [hn.len] at this
       simp
       omega
      refine x_gen rfl (by simp [opsOK, Op.operands, h1]) ?_
      rw [hcl]
      refine ⟨.string (su (r.map (ucOf ρ))), ?_, _, σ, ρ, _, f5, Up.refl ρ, ⟨rfl, f2, hb⟩, hM, rfl⟩
      have hrun : (convert s t v).run Tryz.prog w = .ok (.string (su (r.map (ucOf ρ)))) w := by
       cases hSr with
       | @sl A _ c' _ hl hcell hnn =>
        cases A with
        | none =>
         have h0 := hnn rfl
         have e1 : r.map (ucOf ρ) = [] := List.eq_nil_of_length_eq_zero (by omega)
         rw [run_convert_bytes_nil w s el hu (kind_spec hk8) _ _ t (str_spec hS), e1]
         rfl
        | some a' =>
         have := run_convert_bytes_back (P := Tryz.prog) w s t el a' c' (r.map (ucOf ρ)) hu (kind_spec hk8) (str_spec hS) (fun j hj => by
          refine hcell a' rfl j _ ?_
          rw [f3, List.getElem?_map, List.getElem?_eq_getElem hj]
          rfl)
         rw [hlen] at this
         exact this
       | st hus _ =>
        have := str_spec hS
        rw [hu] at hus
        cases hus
      simp [execOp, ev_of h1, hrun]
     ·cases hB
    ·cases hB
   ·exact old g2
  ·exact old h
 ·exact old h
end
end Rn
end Eng
end Go.Proofs.YtpfelapckcojjaaGreatDoor
namespace Go.Proofs.YtpfelapckcojjaaGreatDoor
open Go.RowKit
namespace Eng
namespace Rn
theorem ER.put {m : Nat} {ρ : Pl} {e e' : En} {env : Env} {v : AV} {val : Value} {d : Option Nat} (h : ER m ρ e env) (hv : AR ρ v val) (he : ∀ t a, elk m e' t = some a → (d = some t ∧ a = v) ∨ (d ≠ some t ∧ elk m e t = some a)) : ER m ρ e' (Eng.put env d val) := fun t a ha => by
 rcases he t a ha with ⟨rfl, rfl⟩ | ⟨hd, ha⟩
 ·exact ⟨val, by simp [Eng.put, look_cons], hv⟩
 ·obtain ⟨u1, h1, h2⟩ := h t a ha
  cases d with
  | none => exact ⟨u1, h1, h2⟩
  | some d =>
   refine ⟨u1, ?_, h2⟩
   show look ((d, val) :: env) t = some u1
   rw [look_cons, if_neg (fun e => hd (by rw [e]))]
   exact h1
section
variable {m : Nat} {ih : Cl} {e : En} {σ : Mem} {res : Rs} {ρ : Pl} {env : Env} {w0 : Fm} {w : World} (hr : res ≠ .no)
include hr
omit hr in
theorem puW_inv {d : Option Nat} {v : AV} {c : En → Rs} (h : (puW m d).f e v c = res) : ∃ e', c e' = res ∧ e'.hs = e.hs ∧ e'.ms = e.ms ∧ ∀ t a, elk m e' t = some a → (d = some t ∧ a = v) ∨ (d ≠ some t ∧ elk m e t = some a) := by
 unfold puW at h
 cases d with
 | none => exact ⟨e, h, rfl, rfl, fun t a ha => .inr ⟨fun hh => (by cases hh), ha⟩⟩
 | some d =>
  cases hk : kept m d with
  | true =>
   have h' : repK d v e.vs (fun vs => c ⟨vs, e.ts, e.hs, e.ms⟩) = res := by
    have h'' : (match kept m d with
     | true => (⟨fun e v c => repK d v e.vs fun vs => c ⟨vs, e.ts, e.hs, e.ms⟩⟩ : Wd)
     | false => ⟨fun e v c => c ⟨e.vs, (d, v) :: e.ts, e.hs, e.ms⟩⟩).f e v c = res := h
    rw [hk] at h''
    exact h''
   obtain ⟨l', h1, h2⟩ := repK_inv (t := d) (v := v) (l := e.vs) (c := fun vs => c ⟨vs, e.ts, e.hs, e.ms⟩)
   rw [h1] at h'
   refine ⟨_, h', rfl, rfl, fun t a ha => ?_⟩
   unfold elk at ha ⊢
   by_cases htd : t = d
   ·subst htd
    rw [hk] at ha
    have ha : alook t l' = some a := ha
    rw [h2, if_pos rfl] at ha
    exact .inl ⟨rfl, (Option.some.inj ha).symm⟩
   ·refine .inr ⟨fun hh => htd (Option.some.inj hh).symm, ?_⟩
    cases hkt : kept m t with
    | true =>
     rw [hkt] at ha
     have ha : alook t l' = some a := ha
     rw [h2, if_neg htd] at ha
     exact ha
    | false =>
     rw [hkt] at ha
     exact ha
  | false =>
   have h' : c ⟨e.vs, (d, v) :: e.ts, e.hs, e.ms⟩ = res := by
    have h'' : (match kept m d with
     | true => (⟨fun e v c => repK d v e.vs fun vs => c ⟨vs, e.ts, e.hs, e.ms⟩⟩ : Wd)
     | false => ⟨fun e v c => c ⟨e.vs, (d, v) :: e.ts, e.hs, e.ms⟩⟩).f e v c = res := h
    rw [hk] at h''
    exact h''
   refine ⟨_, h', rfl, rfl, fun t a ha => ?_⟩
   unfold elk at ha ⊢
   by_cases htd : t = d
   ·subst htd
    rw [hk] at ha
    have ha : alook t ((t, v) :: e.ts) = some a := ha
    simp only [alook, if_pos] at ha
    exact .inl ⟨rfl, (Option.some.inj ha).symm⟩
   ·refine .inr ⟨fun hh => htd (Option.some.inj hh).symm, ?_⟩
    cases hkt : kept m t with
    | true =>
     rw [hkt] at ha
     exact ha
    | false =>
     rw [hkt] at ha
     have ha : alook t ((d, v) :: e.ts) = some a := ha
     simp only [alook] at ha
     rw [if_neg (fun hh => htd hh.symm)] at ha
     exact ha
theorem bqK_inv {x : AV} {want : Bool} {a b : Rs} (h : bqK x want a b = res) : (∃ q, x = .v (.b q) ∧ ((q == want) = true ∧ a = res ∨ (q == want) = false ∧ b = res)) ∨ (x = .v .u ∧ b = res) := by
 cases x with
 | v x =>
  cases x with
  | b q =>
   have h' : ifK (eB q want) a b = res := h
   rw [ifK_eq, eB_eq] at h'
   refine .inl ⟨q, rfl, ?_⟩
   cases hq : (q == want) with
   | true => rw [hq] at h'; exact .inl ⟨rfl, h'⟩
   | false => rw [hq] at h'; exact .inr ⟨rfl, h'⟩
  | u => exact .inr ⟨rfl, h⟩
  | _ => exact absurd h.symm hr
 | _ => exact absurd h.symm hr
variable (hih : CallS w0 ih) (hE : ER m ρ e env) (hM : MR w0 ρ σ w)
include hih hE hM
omit hih in
theorem s_bf {full : Array Oper} {c : Kt} {d : Option Tmp} {ty : TypeId} {pos : String} {af : Array Edge} {b : Builtin} {a : List Operand} {ts : List TypeId} (hd : dsO d (.call { callee := .builtin b, args := a.toArray, argTypes := ts.toArray }) = true) (h : (bfW m b a ts).f ih e σ c = res) :
  xs Tryz.prog isI isS [] Eng.noH full (Good w0 ρ c res env d) [⟨d, .call { callee := .builtin b, args := a.toArray, argTypes := ts.toArray }, ty, pos, af, none⟩] env w := by
 unfold bfW at h
 split at h
 ·cases d with
  | none => cases hd
  | some d => exact s_ln hr hE hM h
 ·exact s_ap hr hE hM h
 ·exact s_cp hr hE hM h
 ·exact s_cl hr hE hM h
 ·cases d with
  | none => cases hd
  | some d =>
   obtain ⟨p, q, vp, vq, h1, h2, h3, h4, g1⟩ := two hr hE h
   obtain ⟨na, e0, g2⟩ := onE_inv hr g1
   obtain ⟨nb, e1, g3⟩ := onE_inv hr g2
   subst e0; subst e1
   obtain ⟨rfl, h5⟩ := h3
   obtain ⟨rfl, h6⟩ := h4
   refine xw (v := .complex .f64 (fw na) (fw nb)) (w' := w) (by simp [opsOK, Op.operands, Call.operands, h1, h2]) rfl ?_ ⟨_, σ, ρ, _, g3, Up.refl ρ, ⟨rfl, h5, h6⟩, hM, rfl⟩ trivial
   simp [execOp, resolve, invoke, builtin, ev_of h1, ev_of h2, run_complex]
 ·cases d with
  | none => cases hd
  | some d =>
   obtain ⟨p, vp, h1, h3, g1⟩ := gtW_inv hr hE (show (gtW m _).f e _ = res from h)
   obtain ⟨na, nb, e0, g2⟩ := onX_inv hr g1
   subst e0
   obtain ⟨rfl, h5, h6⟩ := h3
   refine xw (v := .float .f64 (fw na)) (w' := w) (by simp [opsOK, Op.operands, Call.operands, h1]) rfl ?_ ⟨_, σ, ρ, _, g2, Up.refl ρ, ⟨rfl, h5⟩, hM, rfl⟩ trivial
   simp [execOp, resolve, invoke, builtin, ev_of h1, run_real]
 ·cases d with
  | none => cases hd
  | some d =>
   obtain ⟨p, vp, h1, h3, g1⟩ := gtW_inv hr hE (show (gtW m _).f e _ = res from h)
   obtain ⟨na, nb, e0, g2⟩ := onX_inv hr g1
   subst e0
   obtain ⟨rfl, h5, h6⟩ := h3
   refine xw (v := .float .f64 (fw nb)) (w' := w) (by simp [opsOK, Op.operands, Call.operands, h1]) rfl ?_ ⟨_, σ, ρ, _, g2, Up.refl ρ, ⟨rfl, h6⟩, hM, rfl⟩ trivial
   simp [execOp, resolve, invoke, builtin, ev_of h1, run_imag]
 ·cases d with
  | none => cases hd
  | some d => exact s_mn (up := false) hr hE hM h
 ·cases d with
  | none => cases hd
  | some d => exact s_mn (up := true) hr hE hM h
 ·exact absurd h.symm hr
theorem s_op {full : Array Oper} {c : Kt} {d : Option Tmp} {op : Op} {ty : TypeId} {pos : String} {af : Array Edge} (hd : dsO d op = true) (h : (opW m op).f ih e σ c = res) : xs Tryz.prog isI isS [] Eng.noH full (Good w0 ρ c res env d) [⟨d, op, ty, pos, af, none⟩] env w := by
 cases d with
 | none =>
  cases op with
  | store t x y => exact s_st hr hE hM h
  | mapUpdate t x y z => exact s_mu hr hE hM h
  | call cl =>
   obtain ⟨k, a, ts⟩ := cl
   by_cases hb : ∃ b, k = .builtin b
   ·obtain ⟨b, rfl⟩ := hb
    exact s_bf (a := a.toList) (ts := ts.toList) hr hE hM hd h
   ·exact s_call (a := a.toList) (ts := ts.toList) hr hE hM hih h (fun b hh => hb ⟨b, hh⟩)
  | _ => cases hd
 | some d =>
  cases op with
  | move x => exact s_move hr hE hM h
  | assign x => exact s_assign hr hE hM h
  | pick x a b => exact s_pick hr hE hM h
  | alloc t => exact s_al hr hM h
  | box t x => exact s_bx hr hE hM h
  | build t ps => exact s_bu (ps := ps.toList) hr hE hM h
  | buildSlice t n ps => exact s_rw (ps := ps.toList) hr hE hM h
  | load t x => exact s_ld hr hE hM h
  | nilCheck x => exact s_nilCheck hr hE hM h
  | binOp op t x y yt => exact s_bin hr hE hM h
  | unOp op t x =>
   cases op with
   | not => exact s_not hr hE hM h
   | neg => exact s_neg hr hE hM h
   | _ => exact absurd h.symm hr
  | convert s t x => exact s_cv hr hE hM h
  | makeFunc fn a b =>
   have h' : (mfW m fn a.toList b.toList).f ih e σ c = res := h
   exact s_mf (a := a.toList) (b := b.toList) hr hE hM h'
  | makeSlice t n q => exact s_mk hr hE hM h
  | slice t x lo hi mx => exact s_sl hr hE hM h
  | fieldAddr s x f => exact s_fd hr hE hM h
  | field t x k => exact s_fl hr hE hM h
  | indexAddr t x i => exact s_ix hr hE hM h
  | index t x i => exact s_el hr hE hM h
  | extract x k => exact s_ex hr hE hM h
  | call cl =>
   obtain ⟨k, a, ts⟩ := cl
   by_cases hb : ∃ b, k = .builtin b
   ·obtain ⟨b, rfl⟩ := hb
    exact s_bf (a := a.toList) (ts := ts.toList) hr hE hM rfl h
   ·exact s_call (a := a.toList) (ts := ts.toList) hr hE hM hih h (fun b hh => hb ⟨b, hh⟩)
  | store t x y => cases hd
  | mapUpdate t x y z => cases hd
  | makeMap t q =>
   cases q with
   | none => exact s_mkm hr hM h
   | some q => exact absurd h.symm hr
  | lookup t x y q =>
   cases q with
   | true => exact s_lk hr hE hM h
   | false => exact s_le hr hE hM h
  | _ => exact absurd h.symm hr
omit hr hih hE hM in
theorem dstOf_eq : ∀ (l : List Oper) (j : Nat), dstOf l j = dstAt l j
 | [], _ => rfl
 | _ :: _, 0 => rfl
 | _ :: r, j + 1 => dstOf_eq r j
def Then (w0 : Fm) (m : Nat) (ρ : Pl) (hs : List Nt) (ms : List Mem) (c : Kr) (res : Rs) : Env → World → Prop := fun env' w' => ∃ e' σ' ρ', c e' σ' = res ∧ e'.hs = hs ∧ e'.ms = ms ∧ Up ρ ρ' ∧ ER m ρ' e' env' ∧ MR w0 ρ' σ' w'
omit hr hih hE hM in
theorem xs_one {full : Array Oper} {o : Oper} {rest : List Oper} {K K' : Env → World → Prop} (h : xs Tryz.prog isI isS [] Eng.noH full K' [o] env w) (hk : ∀ env' w', K' env' w' → xs Tryz.prog isI isS [] Eng.noH full K rest env' w') : xs Tryz.prog isI isS [] Eng.noH full K (o :: rest) env w := by
 obtain ⟨g, hg, h1, h2⟩ := h
 exact ⟨g, hg, fun hh => ⟨(h1 hh).1, acts_mono trivial (fun v w' _ hs => hk _ _ hs) (h1 hh).2⟩, fun hh => hk _ _ (h2 hh)⟩
omit hih hM in
theorem s_guard {hs : List Nat} {H : World → Prop} {K : Env → World → Prop} {full : List Oper} {c : Kr} {wo : Wo} {d : Option Tmp} {op : Op} {ty : TypeId} {pos : String} {af : Array Edge} {gd : Option (Nat × Bool)} (h : (gdW m full ⟨d, op, ty, pos, af, gd⟩ wo).f ih e σ c = res)
  (go : wo.f ih e σ c = res → xs Tryz.prog isI isS hs H full.toArray K [⟨d, op, ty, pos, af, none⟩] env w)
  (no : ∀ e', c e' σ = res → e'.hs = e.hs → e'.ms = e.ms → ER m ρ e' (Eng.put env d undef) → K (Eng.put env d undef) w) : xs Tryz.prog isI isS hs H full.toArray K [⟨d, op, ty, pos, af, gd⟩] env w := by
 unfold gdW at h
 cases gd with
 | none => exact go h
 | some gq =>
  obtain ⟨j, want⟩ := gq
  have h' : (match dstOf full j with
   | some d' => (⟨fun ih e σ c => (gtT m d').f e fun q => bqK q want (wo.f ih e σ c) ((puW m d).f e (.v .u) fun e => c e σ)⟩ : Wo)
   | none => noO).f ih e σ c = res := h
  split at h'
  ·rename_i d' hdj
   obtain ⟨q, h1, g1⟩ := gtT_inv hr h'
   obtain ⟨val, h2, h3⟩ := hE d' q h1
   have hgv : ∀ r, (match look env d' with
    | some (.bool true) => some want
    | some (.bool false) => some (!want)
    | some _ => some false
    | none => none) = some r → gv full.toArray env (some (j, want)) = some r := fun r hh => by
    refine gvl_eq ?_
    unfold gvl
    rw [← dstOf_eq, hdj]
    exact hh
   have nox : (puW m d).f e (.v .u) (fun e => c e σ) = res → gv full.toArray env (some (j, want)) = some false → xs Tryz.prog isI isS hs H full.toArray K [⟨d, op, ty, pos, af, some (j, want)⟩] env w := fun hp hg => by
    obtain ⟨e', k1, k3, k4, k2⟩ := puW_inv hp
    exact xgn hg (no e' k1 k3 k4 (hE.put (v := .v .u) (val := undef) rfl k2))
   rcases bqK_inv hr g1 with ⟨q', e0, ⟨hq, g2⟩ | ⟨hq, g2⟩⟩ | ⟨e0, g2⟩
   ·subst e0
    have h3 : val = .bool q' := h3
    subst h3
    refine xgy (hgv true ?_) (go g2)
    rw [h2]
    cases q' <;> cases want <;> first | rfl | cases hq
   ·subst e0
    have h3 : val = .bool q' := h3
    subst h3
    refine nox g2 (hgv false ?_)
    rw [h2]
    cases q' <;> cases want <;> first | rfl | cases hq
   ·subst e0
    have h3 : val = undef := h3
    subst h3
    refine nox g2 (hgv false ?_)
    rw [h2]
    rfl
  ·exact absurd h'.symm hr
theorem s_opU {full : Array Oper} {c : Kt} {d : Option Tmp} {op : Op} {ty : TypeId} {pos : String} {af : Array Edge} (hd : dsO d op = true) (h : (opU m op).f ih e σ c = res) : xs Tryz.prog isI isS [] Eng.noH full (Good w0 ρ c res env d) [⟨d, op, ty, pos, af, none⟩] env w := by
 cases op with
 | convert s t x =>
  cases d with
  | none => cases hd
  | some d => exact s_cu hr hE hM (fun h => s_op hr hih hE hM hd h) h
 | _ =>
  rw [opU_ne (fun s t x hh => by cases hh)] at h
  exact s_op hr hih hE hM hd h
theorem s_or {full : List Oper} {c : Kr} {o : Oper} (h : (orW m full o).f ih e σ c = res) : xs Tryz.prog isI isS [] Eng.noH full.toArray (Then w0 m ρ e.hs e.ms c res) [o] env w := by
 obtain ⟨d, op, ty, pos, af, gd⟩ := o
 unfold orW at h
 split at h
 ·exact absurd h.symm hr
 ·rename_i hd
  refine s_guard hr hE h (fun h => ?_) (fun e' k1 k3 k4 k2 => ⟨e', σ, ρ, k1, k3, k4, Up.refl ρ, k2, hM⟩)
  refine xs_one (s_opU hr hih hE hM hd h) (fun env' w' hg => ?_)
  obtain ⟨v, σ', ρ', val, g1, g2, g3, g4, rfl⟩ := hg
  obtain ⟨e', k1, k3, k4, k2⟩ := puW_inv g1
  exact ⟨e', σ', ρ', k1, k3, k4, g2, (hE.up g2).put g3 k2, g4⟩
end
theorem xs_mono {full : Array Oper} {K K' : Env → World → Prop} (hk : ∀ env w, K env w → K' env w) : ∀ {l : List Oper} {env : Env} {w : World}, xs Tryz.prog isI isS [] Eng.noH full K l env w → xs Tryz.prog isI isS [] Eng.noH full K' l env w
 | [], _, _, h => hk _ _ h
 | _ :: _, _, _, ⟨g, hg, h1, h2⟩ => ⟨g, hg, fun hh => ⟨(h1 hh).1, acts_mono trivial (fun _ _ _ hs => xs_mono hk hs) (h1 hh).2⟩, fun hh => xs_mono hk (h2 hh)⟩
theorem s_reg {w0 : Fm} {m : Nat} {ih : Cl} {res : Rs} (hr : res ≠ .no) (hih : CallS w0 ih) {full : List Oper} {c : Kr} : ∀ {l : List Oper} {e : En} {σ : Mem} {ρ : Pl} {env : Env} {w : World}, ER m ρ e env → MR w0 ρ σ w → (regW m full l).f ih e σ c = res → xs Tryz.prog isI isS [] Eng.noH full.toArray (Then w0 m ρ e.hs e.ms c res) l env w
 | [], e, σ, ρ, env, w, hE, hM, h => ⟨e, σ, ρ, h, rfl, rfl, Up.refl ρ, hE, hM⟩
 | o :: l, e, σ, ρ, env, w, hE, hM, h => by
  have h' : (orW m full o).f ih e σ (fun e σ => (regW m full l).f ih e σ c) = res := h
  refine xs_one (s_or hr hih hE hM h') (fun env' w' hg => ?_)
  obtain ⟨e', σ', ρ', g1, g5, g6, g2, g3, g4⟩ := hg
  have := s_reg hr hih (l := l) g3 g4 g1
  refine xs_mono (fun env'' w'' hh => ?_) this
  obtain ⟨e2, σ2, ρ2, k1, k5, k6, k2, k3, k4⟩ := hh
  exact ⟨e2, σ2, ρ2, k1, k5.trans g5, k6.trans g6, g2.trans k2, k3, k4⟩
end Rn
end Eng
end Go.Proofs.YtpfelapckcojjaaGreatDoor
namespace Go.Proofs.YtpfelapckcojjaaGreatDoor
open Go.RowKit
namespace Eng
namespace Rn
theorem kn_inj {k k' : IntKind} (h : Nat.beq (kn k) (kn k') = true) : k = k' := by
 cases k <;> cases k' <;> first | rfl | cases h
theorem eU_inj : ∀ {a b : List Nat}, eU a b = true → a = b
 | [], [], _ => rfl
 | [], _ :: _, h => by cases h
 | _ :: _, [], h => by cases h
 | x :: a, y :: b, h => by
  have h' : Bool.rec (motive := fun _ => Bool) false (eU a b) (Nat.beq x y) = true := h
  rcases beq_cases x y with ⟨h1, h2⟩ | ⟨h1, h2⟩
  ·rw [h2] at h'
   rw [h1, eU_inj (a := a) (b := b) h']
  ·rw [h2] at h'
   cases h'
theorem sE_eq {x y : SV} (h : sE x y = true) : x = y := by
 cases x with
 | n k a =>
  cases y <;> try cases h
  obtain ⟨h1, h2⟩ := an_inv h
  rw [kn_inj h1, Nat.eq_of_beq_eq_true h2]
 | m k a =>
  cases y <;> try cases h
  obtain ⟨h1, h2⟩ := an_inv h
  rw [kn_inj h1, Nat.eq_of_beq_eq_true h2]
 | b q =>
  cases y with
  | b q' =>
   have h : eB q q' = true := h
   rw [eB_eq] at h
   rw [eq_of_beq h]
  | _ => cases h
 | s l =>
  cases y with
  | s l' =>
   have h : eU l l' = true := h
   rw [eU_inj h]
  | _ => cases h
 | p0 => cases y <;> first | exact rfl | cases h
 | p i a =>
  cases y <;> try cases h
  obtain ⟨h1, h2⟩ := an_inv h
  rw [Nat.eq_of_beq_eq_true h1, Nat.eq_of_beq_eq_true h2]
 | l0 => cases y <;> first | exact rfl | cases h
 | l i a b c =>
  cases y <;> try cases h
  obtain ⟨h1, h2⟩ := an_inv h
  obtain ⟨h2, h3⟩ := an_inv h2
  obtain ⟨h3, h4⟩ := an_inv h3
  rw [Nat.eq_of_beq_eq_true h1, Nat.eq_of_beq_eq_true h2, Nat.eq_of_beq_eq_true h3, Nat.eq_of_beq_eq_true h4]
 | lx i a b c d =>
  cases y <;> try cases h
  obtain ⟨h1, h2⟩ := an_inv h
  obtain ⟨h2, h3⟩ := an_inv h2
  obtain ⟨h3, h4⟩ := an_inv h3
  obtain ⟨h4, h5⟩ := an_inv h4
  rw [Nat.eq_of_beq_eq_true h1, Nat.eq_of_beq_eq_true h2, Nat.eq_of_beq_eq_true h3, Nat.eq_of_beq_eq_true h4, Nat.eq_of_beq_eq_true h5]
 | fl a =>
  cases y <;> try cases h
  rw [Nat.eq_of_beq_eq_true h]
 | i0 => cases y <;> first | exact rfl | cases h
 | x k i =>
  cases y <;> try cases h
  obtain ⟨h1, h2⟩ := an_inv h
  rw [kn_inj h1, Nat.eq_of_beq_eq_true h2]
 | sl l =>
  cases y with
  | sl l' =>
   have h : eU l l' = true := h
   rw [eU_inj h]
  | _ => cases h
 | mp a =>
  cases y <;> try cases h
  rw [Nat.eq_of_beq_eq_true h]
 | cx a b =>
  cases y <;> try cases h
  obtain ⟨h1, h2⟩ := an_inv h
  rw [Nat.eq_of_beq_eq_true h1, Nat.eq_of_beq_eq_true h2]
 | le i a b c =>
  cases y <;> try cases h
  obtain ⟨h1, h2⟩ := an_inv h
  obtain ⟨h2, h3⟩ := an_inv h2
  obtain ⟨h3, h4⟩ := an_inv h3
  rw [Nat.eq_of_beq_eq_true h1, Nat.eq_of_beq_eq_true h2, Nat.eq_of_beq_eq_true h3, Nat.eq_of_beq_eq_true h4]
 | u => cases y <;> cases h
theorem lE_eq : ∀ {a b : List SV}, lE a b = true → a = b
 | [], [], _ => rfl
 | [], _ :: _, h => by cases h
 | _ :: _, [], h => by cases h
 | x :: a, y :: b, h => by
  have h' : an (sE x y) (lE a b) = true := h
  obtain ⟨h1, h2⟩ := an_inv h'
  rw [sE_eq h1, lE_eq h2]
theorem SRs.one {ρ : Pl} {l : List SV} {us vs : List Value} (h : SRs ρ l us) (h' : SRs ρ l vs) : us = vs := by
 induction h generalizing vs with
 | nil => cases h'; rfl
 | cons h1 _ ih =>
  cases h' with
  | cons h3 h4 => rw [SR.one h1.2 h3.2, ih h4]
def Hold (σ0 : Mem) (ms : List Mem) (n : Nt) : Prop := n.1 < σ0.n ∧ ∀ s ∈ σ0 :: ms, ∀ i, i < n.2.2.length → cget s n.1 (n.2.1 + i) = n.2.2[i]?
section
variable {res : Rs} (hr : res ≠ .no)
include hr
theorem ckM_inv {n : Nt} {r : Rs} : ∀ {ms : List Mem}, ckM ms n r = res → r = res ∧ ∀ s ∈ ms, ∀ i, i < n.2.2.length → cget s n.1 (n.2.1 + i) = n.2.2[i]?
 | [], h => ⟨h, fun s hs => by cases hs⟩
 | σ :: ms, h => by
  obtain ⟨ob, l, h1, h2, h3, h4⟩ := rdK_inv hr (show rdK σ n.1 n.2.1 n.2.2.length (fun l => okK (lE n.2.2 l) (ckM ms n r)) = res from h)
  obtain ⟨h5, h6⟩ := okK_inv h4 hr
  have h7 := lE_eq h5
  obtain ⟨h9, h10⟩ := ckM_inv h6
  refine ⟨h9, fun s hs => ?_⟩
  rcases List.mem_cons.1 hs with rfl | hs
  ·exact fun i hi => by rw [h3 i hi, h7]
  ·exact h10 s hs
theorem ckA_inv {σ0 : Mem} {ms : List Mem} {r : Rs} : ∀ {hs : List Nt}, ckA σ0 ms hs r = res → r = res ∧ ∀ n ∈ hs, Hold σ0 ms n
 | [], h => ⟨h, fun s hs => by cases hs⟩
 | n :: hs, h => by
  obtain ⟨h1, h2⟩ := okK_inv (show okK (Nat.ble (Nat.add n.1 1) σ0.n) (ckM (σ0 :: ms) n (ckA σ0 ms hs r)) = res from h) hr
  obtain ⟨h3, h4⟩ := ckM_inv hr h2
  obtain ⟨h5, h6⟩ := ckA_inv h3
  refine ⟨h5, fun k hk => ?_⟩
  rcases List.mem_cons.1 hk with rfl | hk
  ·exact ⟨Nat.le_of_ble_eq_true h1, fun s hs => h4 s hs⟩
  ·exact h6 k hk
end
def HH (ρ0 : Pl) (hl : List Nt) (w' : World) : Prop := ∀ n ∈ hl, ∀ p vs, ρ0[n.1]? = some p → SRs ρ0 n.2.2 vs → ∀ (j : Nat) u, vs[j]? = some u → w'.cell? ⟨p.b, n.2.1 + j, none⟩ = some u
theorem hold_at {w0 : Fm} {ρ0 ρ : Pl} {σ0 s : Mem} {ms : List Mem} {hl : List Nt} {w' : World} (hM : MR w0 ρ s w') (hu : Up ρ0 ρ) (hs : s ∈ σ0 :: ms) (hh : ∀ n ∈ hl, Hold σ0 ms n) : HH ρ0 hl w' := fun n hn p vs hp hv j u hj => by
 obtain ⟨_, h2⟩ := hh n hn
 obtain ⟨vs', h4, h5⟩ := hM.cells (hu _ _ hp) (l := n.2.2) (o := n.2.1) (fun i hi => h2 s hs i hi)
 have := SRs.one (hv.up hu) h4
 subst this
 exact (h5 j u hj).1
section
variable {w0 : Fm} {m : Nat} {ih : Cl} {e : En} {σ : Mem} {res : Rs} {ρ : Pl} {env : Env} {w : World} (hr : res ≠ .no)
include hr
theorem ldH_inv (hE : ER m ρ e env) {t : TypeId} {x : Operand} {k : AV → Nt → Rs} (h : (ldH m t x).f e σ k = res) : ∃ id o l av p, evo env x = some (.pointer (some ⟨p.b, o, none⟩)) ∧ ρ[id]? = some p ∧ (∀ i, i < l.length → cget σ id (o + i) = l[i]?) ∧ k av (id, o, l) = res ∧ ((one t = true ∧ ∃ y, l = [y] ∧ av = .v y) ∨ (get l_agg t = some l.length ∧ av = .g l)) := by
 unfold ldH at h
 split at h
 ·rename_i ht
  obtain ⟨a, v, h1, h2, g1⟩ := gtW_inv hr hE h
  obtain ⟨id, o, e0, g2⟩ := onP_inv hr g1
  obtain ⟨ob, g3, g4⟩ := obK_inv hr g2
  obtain ⟨y, g5, g6⟩ := getK_inv hr g4
  subst e0
  obtain ⟨p, h3, rfl⟩ := h2
  refine ⟨id, o, [y], .v y, p, h1, h3, fun i hi => ?_, g6, .inl ⟨ht, y, rfl, rfl⟩⟩
  have hi : i = 0 := by
   have : i < 1 := hi
   omega
  subst hi
  exact cget_iff.2 ⟨ob, g3, g5⟩
 ·split at h
  ·rename_i n hn
   rw [cN_eq] at h
   obtain ⟨a, v, h1, h2, g1⟩ := gtW_inv hr hE h
   obtain ⟨id, o, e0, g2⟩ := onP_inv hr g1
   obtain ⟨ob, l, g3, g4, g5, g6⟩ := rdK_inv hr g2
   subst e0
   obtain ⟨p, h3, rfl⟩ := h2
   exact ⟨id, o, l, .g l, p, h1, h3, fun i hi => g5 i (by omega), g6, .inr ⟨by rw [g4]; exact hn, rfl⟩⟩
  ·exact absurd h.symm hr
omit hr in
theorem memb_none {hs : List Nat} (h : memb hs none = true) : False := by
 cases hs <;> cases h
omit hr in
theorem isI_str {t : TypeId} (h : isS t = true) : isI t = false := by
 unfold isI
 cases hk : kindOf t with
 | none => rfl
 | some k =>
  have h1 := str_spec h
  rw [kind_spec hk] at h1
  cases h1
theorem cvN_inv (hM : MR w0 ρ σ w) {id z j n : Nat} {p : At} (hp : ρ[id]? = some p) {k : AV → Nt → Rs} (h : cvN σ k id z j n = res) : ∃ r l vs, z = 1 ∧ l.length = n ∧ r.length = n ∧ (∀ c ∈ r, c < 256) ∧ r.length ≤ maxLen ∧ (∀ i, i < l.length → cget σ id (j + i) = l[i]?) ∧ SRs ρ l vs ∧ vs = (uOf r).map (fun b => Value.int .u8 (b.toNat : Int)) ∧ (∀ (i : Nat) u, vs[i]? = some u → w.cell? ⟨p.b, j + i, none⟩ = some u) ∧ k (.v (.s r)) (id, j, l) = res := by
 obtain ⟨hz, h1⟩ := okK_inv (show okK (Nat.beq z 1) _ = res from h) hr
 have hz := Nat.eq_of_beq_eq_true hz
 obtain ⟨ob, l, g3, g4, g5, g6⟩ := rdK_inv hr h1
 have hc : ∀ i, i < l.length → cget σ id (j + i) = l[i]? := fun i hi => g5 i (by omega)
 obtain ⟨vs, h4, h5⟩ := hM.cells hp hc
 obtain ⟨r, f1, f2, f3, f4⟩ := byK_inv hr g6 h4
 obtain ⟨hb, f5⟩ := okK_inv f4 hr
 exact ⟨r, l, vs, hz, g4, by omega, f2, Nat.le_of_ble_eq_true hb, hc, h4, f3, fun i u hu => (h5 i u hu).1, f5⟩
theorem rdH_inv (hE : ER m ρ e env) (hM : MR w0 ρ σ w) {op : Op} {k : AV → Nt → Rs} (h : (rdH m op).f e σ k = res) : ∃ s t x el id j l vs r p c, op = .convert s t x ∧ Tryz.prog.underlying s = some (.slice el) ∧ Tryz.prog.underlying el = some (.int .u8) ∧ evo env x = some (.slice (some ⟨p.b, j, none⟩) (uOf r).length c) ∧ ρ[id]? = some p ∧ (∀ c ∈ r, c < 256) ∧ r.length ≤ maxLen ∧ (∀ i, i < l.length → cget σ id (j + i) = l[i]?) ∧ SRs ρ l vs ∧ vs = (uOf r).map (fun b => Value.int .u8 (b.toNat : Int)) ∧ (∀ (i : Nat) u, vs[i]? = some u → w.cell? ⟨p.b, j + i, none⟩ = some u) ∧ k (.v (.s r)) (id, j, l) = res := by
 have hu : ∀ r : List Nat, (uOf r).length = r.length := fun r => List.length_map _
 unfold rdH at h
 split at h
 ·rename_i s t x
  split at h
  ·rename_i el _ hel
   split at h
   ·rename_i hk8
    obtain ⟨hus, _⟩ := elemOf_inv hel
    obtain ⟨a, v, h1, h2, g1⟩ := gtW_inv hr hE h
    rcases onL_inv hr g1 with ⟨e1, q⟩ | ⟨id, z, j, n, e1, q⟩ | ⟨id, z, j, n, c, e1, q⟩ | ⟨_, _, _, _, e1, q⟩ | ⟨l, e1, q⟩ | ⟨id, o, e1, q⟩
    ·exact absurd q.symm hr
    ·subst e1
     obtain ⟨p, hp, h3, hc, hmx, rfl⟩ := h2
     obtain ⟨r, l, vs, rfl, k1, k2, k3, k4, k5, k6, k7, k8, k9⟩ := cvN_inv hr hM hp q
     exact ⟨s, t, x, el, id, j, l, vs, r, p, _, rfl, hus, kind_spec hk8, by rw [h1, hu, k2, Nat.mul_one], hp, k3, k4, k5, k6, k7, k8, k9⟩
    ·subst e1
     obtain ⟨p, hp, h3, hmx, rfl⟩ := h2
     obtain ⟨r, l, vs, rfl, k1, k2, k3, k4, k5, k6, k7, k8, k9⟩ := cvN_inv hr hM hp q
     exact ⟨s, t, x, el, id, j, l, vs, r, p, _, rfl, hus, kind_spec hk8, by rw [h1, hu, k2, Nat.mul_one], hp, k3, k4, k5, k6, k7, k8, k9⟩
    ·exact absurd q.symm hr
    ·exact absurd q.symm hr
    ·exact absurd q.symm hr
   ·exact absurd h.symm hr
  ·exact absurd h.symm hr
 ·exact absurd h.symm hr
omit hr in
theorem cls_r {s t : TypeId} {x : Operand} (h : cls isI isS (.convert s t x) = .r) : isS t = true := by
 simp only [cls] at h
 split at h
 ·cases h
 ·split at h
  ·assumption
  ·cases h
omit hr in
theorem run_cvH {s t el : TypeId} {p : At} {j c : Nat} {r : List UInt8} (h1 : Tryz.prog.underlying s = some (.slice el)) (h2 : Tryz.prog.underlying el = some (.int .u8)) (h3 : isS t = true) (hc : ∀ (i : Nat) u, (r.map (fun b => Value.int .u8 (b.toNat : Int)))[i]? = some u → w.cell? ⟨p.b, j + i, none⟩ = some u) : (convert s t (.slice (some ⟨p.b, j, none⟩) r.length c)).run Tryz.prog w = .ok (.string (su r)) w :=
 run_convert_bytes_back (P := Tryz.prog) w s t el ⟨p.b, j, none⟩ c r h1 h2 (str_spec h3) (fun i hi => by
  have := hc i (Value.int .u8 (r[i].toNat : Int)) (by rw [List.getElem?_map, List.getElem?_eq_getElem hi]; rfl)
  rw [Addr.add_lit]; exact this)
def ThH (w0 : Fm) (m : Nat) (ρ : Pl) (e : En) (c : Kr) (res : Rs) : Env → World → Prop := fun env' w' => ∃ e' σ' ρ', c e' σ' = res ∧ Up ρ ρ' ∧ ER m ρ' e' env' ∧ MR w0 ρ' σ' w' ∧ (∀ n ∈ e.hs, n ∈ e'.hs) ∧ ∀ s ∈ e.ms, s ∈ e'.ms
omit hr in
theorem ER.same {e' : En} (h : ER m ρ e env) (h1 : e'.vs = e.vs) (h2 : e'.ts = e.ts) : ER m ρ e' env := fun t a ha => by
 refine h t a ?_
 unfold elk at ha ⊢
 rw [h1, h2] at ha
 exact ha
variable (hih : CallS w0 ih) (hE : ER m ρ e env) (hM : MR w0 ρ σ w)
include hih hE hM
theorem s_wop {full : List Oper} {c : Kr} {d : Option Tmp} {op : Op} {ty : TypeId} {pos : String} {af : Array Edge} (hd : dsO d op = true) (h : (opW m op).f ih e σ (fun v σ => (puW m d).f e v fun e => c ⟨e.vs, e.ts, e.hs, σ :: e.ms⟩ σ) = res) :
  xs Tryz.prog isI isS [] Eng.noH full.toArray (fun env' w' => ∃ e' σ' ρ', c e' σ' = res ∧ Up ρ ρ' ∧ ER m ρ' e' env' ∧ MR w0 ρ' σ' w' ∧ (∀ n ∈ e.hs, n ∈ e'.hs) ∧ (∀ s ∈ e.ms, s ∈ e'.ms) ∧ σ' ∈ e'.ms) [⟨d, op, ty, pos, af, none⟩] env w := by
 refine xs_one (s_op hr hih hE hM hd h) (fun env' w' hg => ?_)
 obtain ⟨v, σ', ρ', val, g1, g2, g3, g4, rfl⟩ := hg
 obtain ⟨e', k1, k3, k4, k2⟩ := puW_inv g1
 refine ⟨_, σ', ρ', k1, g2, ((hE.up g2).put g3 k2).same rfl rfl, g4, fun n hn => ?_, fun s hs => ?_, List.mem_cons_self⟩
 ·show n ∈ e'.hs
  rw [k3]; exact hn
 ·show s ∈ σ' :: e'.ms
  rw [k4]; exact List.mem_cons_of_mem _ hs
theorem s_pop {full : List Oper} {c : Kr} {d : Option Tmp} {op : Op} {ty : TypeId} {pos : String} {af : Array Edge} (hd : dsO d op = true) (h : (opW m op).f ih e σ (fun v σ' => (puW m d).f e v fun e => c e σ') = res) :
  xs Tryz.prog isI isS [] Eng.noH full.toArray (ThH w0 m ρ e c res) [⟨d, op, ty, pos, af, none⟩] env w := by
 refine xs_one (s_op hr hih hE hM hd h) (fun env' w' hg => ?_)
 obtain ⟨v, σ', ρ', val, g1, g2, g3, g4, rfl⟩ := hg
 obtain ⟨e', k1, k3, k4, k2⟩ := puW_inv g1
 refine ⟨_, σ', ρ', k1, g2, (hE.up g2).put g3 k2, g4, fun n hn => ?_, fun s hs => ?_⟩
 ·rw [k3]; exact hn
 ·rw [k4]; exact hs
theorem s_popU {full : List Oper} {c : Kr} {d : Option Tmp} {op : Op} {ty : TypeId} {pos : String} {af : Array Edge} (hd : dsO d op = true) (h : (opU m op).f ih e σ (fun v σ' => (puW m d).f e v fun e => c e σ') = res) :
  xs Tryz.prog isI isS [] Eng.noH full.toArray (ThH w0 m ρ e c res) [⟨d, op, ty, pos, af, none⟩] env w := by
 refine xs_one (s_opU hr hih hE hM hd h) (fun env' w' hg => ?_)
 obtain ⟨v, σ', ρ', val, g1, g2, g3, g4, rfl⟩ := hg
 obtain ⟨e', k1, k3, k4, k2⟩ := puW_inv g1
 refine ⟨_, σ', ρ', k1, g2, (hE.up g2).put g3 k2, g4, fun n hn => ?_, fun s hs => ?_⟩
 ·rw [k3]; exact hn
 ·rw [k4]; exact hs
theorem s_orH {hs : List Nat} {full : List Oper} {c : Kr} {o : Oper} (h : (orH m hs full o).f ih e σ c = res) : xs Tryz.prog isI isS [] Eng.noH full.toArray (ThH w0 m ρ e c res) [o] env w := by
 obtain ⟨d, op, ty, pos, af, gd⟩ := o
 unfold orH at h
 split at h
 ·exact absurd h.symm hr
 ·rename_i hd
  have no : ∀ e', c e' σ = res → e'.hs = e.hs → e'.ms = e.ms → ER m ρ e' (Eng.put env d undef) → ThH w0 m ρ e c res (Eng.put env d undef) w := fun e' k1 k3 k4 k2 => ⟨e', σ, ρ, k1, Up.refl ρ, k2, hM, fun n hn => by rw [k3]; exact hn, fun s hs => by rw [k4]; exact hs⟩
  split at h
  ·rename_i t x hop
   have hop : op = .load t x := hop
   subst hop
   split at h
   ·refine s_guard hr hE h (fun h => ?_) no
    cases d with
    | none => cases hd
    | some d =>
     obtain ⟨id, o', l, av, p, h1, h2, h3, h4, h5⟩ := ldH_inv hr hE h
     obtain ⟨e', k1, k3, k4, k2⟩ := puW_inv h4
     obtain ⟨vs, g1, g2⟩ := hM.cells h2 h3
     have fin : ∀ val, AR ρ av val → ThH w0 m ρ e c res (Eng.put env (some d) val) w := fun val hv => by
      refine ⟨_, σ, ρ, k1, Up.refl ρ, (hE.put hv k2).same rfl rfl, hM, fun n hn => ?_, fun s hs => ?_⟩
      ·show n ∈ (id, o', l) :: e'.hs
       rw [k3]; exact List.mem_cons_of_mem _ hn
      ·show s ∈ e'.ms
       rw [k4]; exact hs
     rcases h5 with ⟨ht, y, rfl, rfl⟩ | ⟨ht, rfl⟩
     ·cases g1 with
      | cons q1 q2 =>
       cases q2
       exact xld h1 ht (g2 0 _ rfl).1 (fin _ q1.2)
     ·exact xldz h1 (by rw [g1.len]; exact ht) (fun j u hu => (g2 j u hu).1) (fin _ ⟨vs, g1, rfl⟩)
   ·exact s_guard hr hE h (fun h => s_pop hr hih hE hM hd h) no
  ·split at h
   ·refine s_guard hr hE h (fun h => ?_) no
    refine xs_one (s_wop hr hih hE hM hd h) (fun env' w' hg => ?_)
    obtain ⟨e', σ', ρ', g1, g2, g3, g4, g5, g6, _⟩ := hg
    exact ⟨e', σ', ρ', g1, g2, g3, g4, g5, g6⟩
   ·exact s_guard hr hE h (fun h => s_popU hr hih hE hM hd h) no
   ·rename_i hcl
    split at h
    ·rename_i hmem
     refine s_guard hr hE h (fun h => ?_) no
     cases d with
     | none => exact (memb_none hmem).elim
     | some d =>
      obtain ⟨s, t, x, el, id, j, l, vs, r, p, cc, rfl, q1, q2, q3, q4, q5, q6, q7, q8, q9, q10, q11⟩ := rdH_inv hr hE hM h
      obtain ⟨e', k1, k3, k4, k2⟩ := puW_inv q11
      have hS := cls_r hcl
      have hcl' : clsO isI isS [] ⟨some d, .convert s t x, ty, pos, af, none⟩ = .r := by
       simp [clsO, hcl, memb]
      have hrun := run_cvH (w := w) (c := cc) q1 q2 hS (fun i u hu => q10 i u (by rw [q9]; exact hu))
      refine x_gen rfl (by simp [opsOK, Op.operands, q3]) ?_
      rw [hcl']
      refine ⟨.string (su (uOf r)), by simp [execOp, ev_of q3, hrun], _, σ, ρ, k1, Up.refl ρ, (hE.put (v := .v (.s r)) ⟨rfl, q5, q6⟩ k2).same rfl rfl, hM, fun n hn => ?_, fun s hs => ?_⟩
      ·show n ∈ (id, j, l) :: e'.hs
       rw [k3]; exact List.mem_cons_of_mem _ hn
      ·show s ∈ e'.ms
       rw [k4]; exact hs
    ·exact s_guard hr hE h (fun h => s_pop hr hih hE hM hd h) no
   ·exact absurd h.symm hr
end
theorem xs_some {full : Array Oper} {K : Env → World → Prop} {o : Oper} {env : Env} {w : World} (h : xs Tryz.prog isI isS [] Eng.noH full K [o] env w) : ∃ env' w', K env' w' := by
 obtain ⟨g, hg, h1, h2⟩ := h
 cases g with
 | true =>
  obtain ⟨v, w', _, h3⟩ := acts_some (H := Eng.noH) trivial (h1 rfl).2
  exact ⟨_, w', h3⟩
 | false => exact ⟨_, w, h2 rfl⟩
theorem xs_someL {full : Array Oper} {K : Env → World → Prop} : ∀ {l : List Oper} {env : Env} {w : World}, xs Tryz.prog isI isS [] Eng.noH full K l env w → ∃ env' w', K env' w'
 | [], env, w, h => ⟨env, w, h⟩
 | o :: l, env, w, h => by
  obtain ⟨env', w', h'⟩ := xs_some (o := o) (K := fun env' w' => xs Tryz.prog isI isS [] Eng.noH full K l env' w') h
  exact xs_someL h'
noncomputable def fin0 : Kr := fun e σ => .mk .nrm e σ
noncomputable def finH (m : Nat) (ih : Cl) (full l2 : List Oper) (σ0 : Mem) : Kr := fun e' σ' => ckA σ0 e'.ms e'.hs ((regW m full l2).f ih e' σ' fin0)
theorem mono_H {w0 : Fm} {m : Nat} {ih : Cl} {res : Rs} {σ0 : Mem} (hr : res ≠ .no) (hih : CallS w0 ih) {hs : List Nat} {full l2 : List Oper} : ∀ {l : List Oper} {e : En} {σ : Mem} {ρ : Pl} {env : Env} {w : World}, ER m ρ e env → MR w0 ρ σ w → (regH m hs full l).f ih e σ (finH m ih full l2 σ0) = res → ∃ ef σf, res = .mk .nrm ef σf ∧ (∀ n ∈ e.hs, n ∈ ef.hs) ∧ (∀ s ∈ e.ms, s ∈ ef.ms) ∧ ∀ n ∈ ef.hs, Hold σ0 ef.ms n
 | [], e, σ, ρ, env, w, hE, hM, h => by
  obtain ⟨h1, h2⟩ := ckA_inv hr (show ckA σ0 e.ms e.hs ((regW m full l2).f ih e σ fin0) = res from h)
  obtain ⟨env', w', e', σ', ρ', k1, k2, k3, _⟩ := xs_someL (s_reg hr hih hE hM h1)
  exact ⟨e', σ', k1.symm, fun n hn => by rw [k2]; exact hn, fun s hs => by rw [k3]; exact hs, by rw [k2, k3]; exact h2⟩
 | o :: l, e, σ, ρ, env, w, hE, hM, h => by
  have h' : (orH m hs full o).f ih e σ (fun e σ => (regH m hs full l).f ih e σ (finH m ih full l2 σ0)) = res := h
  obtain ⟨env', w', e', σ', ρ', h1, _, h3, h4, h5, h6⟩ := xs_some (s_orH hr hih hE hM h')
  obtain ⟨ef, σf, g1, g2, g3, g4⟩ := mono_H hr hih h3 h4 h1
  exact ⟨ef, σf, g1, fun n hn => g2 n (h5 n hn), fun s hs => g3 s (h6 s hs), g4⟩
theorem acts_monoH {P : Program} {H : World → Prop} {c : Cls} {s : Sem Next} {w : World} {S S' : Value → World → Prop} (h : ∀ v w', S v w' → S' v w') (hh : acts P H c s w S) : acts P H c s w S' := by
 cases c with
 | p => obtain ⟨v, h1, h2⟩ := hh; exact ⟨v, h1, h v w h2⟩
 | r => obtain ⟨v, h1, h2⟩ := hh; exact ⟨v, h1, h v w h2⟩
 | h => obtain ⟨v, h1, h2⟩ := hh; exact ⟨v, h1, h v w h2⟩
 | w => exact out_mono (fun v w' hh => ⟨hh.1, h v w' hh.2⟩) hh
theorem xs_held {hs : List Nat} {H : World → Prop} {full : Array Oper} {K : Env → World → Prop} {d : Option Tmp} {op : Op} {ty : TypeId} {pos : String} {af : Array Edge} {env : Env} {w : World} (h : xs Tryz.prog isI isS [] Eng.noH full K [⟨d, op, ty, pos, af, none⟩] env w) (hc : (cls isI isS op = .p) ∨ (cls isI isS op = .r ∧ memb hs d = false) ∨ (cls isI isS op = .w ∧ ∀ env' w', K env' w' → H w')) : xs Tryz.prog isI isS hs H full K [⟨d, op, ty, pos, af, none⟩] env w := by
 obtain ⟨g, hg, h1, h2⟩ := h
 refine ⟨g, hg, fun hh => ⟨(h1 hh).1, ?_⟩, fun hh => h2 hh⟩
 have ha := (h1 hh).2
 rcases hc with hc | ⟨hc, hm⟩ | ⟨hc, hk⟩
 ·have e1 : ∀ hs, clsO isI isS hs ⟨d, op, ty, pos, af, none⟩ = .p := fun hs => by unfold clsO; rw [hc]
  rw [e1] at ha ⊢
  exact ha
 ·have e1 : clsO isI isS hs ⟨d, op, ty, pos, af, none⟩ = .r := by unfold clsO; rw [hc]; dsimp only; rw [hm]
  have e2 : clsO isI isS [] ⟨d, op, ty, pos, af, none⟩ = .r := by unfold clsO; rw [hc]; cases d <;> rfl
  rw [e2] at ha
  rw [e1]
  exact ha
 ·have e1 : ∀ hs, clsO isI isS hs ⟨d, op, ty, pos, af, none⟩ = .w := fun hs => by unfold clsO; rw [hc]
  rw [e1] at ha ⊢
  exact out_mono (fun v w' hh => ⟨hk _ _ hh.2, hh.2⟩) ha
theorem xs_monoH {hs : List Nat} {H : World → Prop} {full : Array Oper} {K K' : Env → World → Prop} (hk : ∀ env w, K env w → K' env w) : ∀ {l : List Oper} {env : Env} {w : World}, xs Tryz.prog isI isS hs H full K l env w → xs Tryz.prog isI isS hs H full K' l env w
 | [], _, _, h => hk _ _ h
 | _ :: _, _, _, ⟨g, hg, h1, h2⟩ => ⟨g, hg, fun hh => ⟨(h1 hh).1, acts_monoH (fun _ _ hs => xs_monoH hk hs) (h1 hh).2⟩, fun hh => xs_monoH hk (h2 hh)⟩
theorem xs_cons {hs : List Nat} {H : World → Prop} {full : Array Oper} {K : Env → World → Prop} {o : Oper} {rest : List Oper} {env : Env} {w : World} (h : xs Tryz.prog isI isS hs H full (fun env' w' => xs Tryz.prog isI isS hs H full K rest env' w') [o] env w) : xs Tryz.prog isI isS hs H full K (o :: rest) env w := h
def Mono (w0 : Fm) (m : Nat) (res : Rs) (nh : List Nt) (nm : List Mem) (k : Kr) : Prop := ∀ (e : En) (σ : Mem) (ρ : Pl) (env : Env) (w : World), ER m ρ e env → MR w0 ρ σ w → k e σ = res → (∀ n ∈ e.hs, n ∈ nh) ∧ ∀ s ∈ e.ms, s ∈ nm
theorem Mono.op {w0 : Fm} {m : Nat} {ih : Cl} {res : Rs} {nh : List Nt} {nm : List Mem} {k : Kr} (hr : res ≠ .no) (hih : CallS w0 ih) {hs : List Nat} {full : List Oper} {o : Oper} (hk : Mono w0 m res nh nm k) : Mono w0 m res nh nm (fun e σ => (orH m hs full o).f ih e σ k) := fun e σ ρ env w hE hM h => by
 obtain ⟨env', w', e', σ', ρ', h1, _, h3, h4, h5, h6⟩ := xs_some (s_orH hr hih hE hM h)
 obtain ⟨g2, g3⟩ := hk e' σ' ρ' env' w' h3 h4 h1
 exact ⟨fun n hn => g2 n (h5 n hn), fun s hs => g3 s (h6 s hs)⟩
theorem Mono.reg {w0 : Fm} {m : Nat} {ih : Cl} {res : Rs} {nh : List Nt} {nm : List Mem} {k : Kr} (hr : res ≠ .no) (hih : CallS w0 ih) {hs : List Nat} {full : List Oper} (hk : Mono w0 m res nh nm k) : ∀ l : List Oper, Mono w0 m res nh nm (fun e σ => (regH m hs full l).f ih e σ k)
 | [] => hk
 | o :: l => Mono.op (o := o) hr hih (Mono.reg hr hih hk l)
theorem Mono.fin {w0 : Fm} {m : Nat} {ih : Cl} {res : Rs} {σ0 : Mem} {ef : En} {σf : Mem} (hr : res ≠ .no) (hih : CallS w0 ih) (hres : res = .mk .nrm ef σf) {full l2 : List Oper} : Mono w0 m res ef.hs ef.ms (finH m ih full l2 σ0) := fun e σ ρ env w hE hM h => by
 obtain ⟨ef', σf', k1, k2, k3, _⟩ := mono_H (hs := []) (l := []) hr hih hE hM h
 rw [hres] at k1
 injection k1 with _ k4 k5
 subst k4
 exact ⟨k2, k3⟩
theorem s_regK {w0 w00 : Fm} {m : Nat} {ih : Cl} {res : Rs} {σ0 : Mem} {ρ0 : Pl} {ws : World} {nh : List Nt} {nm : List Mem} {k : Kr} (hr : res ≠ .no) (hih : CallS w0 ih) (hk : Mono w0 m res nh nm k) (hho : ∀ n ∈ nh, Hold σ0 nm n) (hM0 : MR w00 ρ0 σ0 ws) {hs0 : List Nat} {full : List Oper} : ∀ {l : List Oper} {e : En} {σ : Mem} {ρ : Pl} {env : Env} {w : World}, Up ρ0 ρ → ER m ρ e env → MR w0 ρ σ w → (regH m hs0 full l).f ih e σ k = res → xs Tryz.prog isI isS hs0 (HH ρ0 nh) full.toArray (fun env' w' => ∃ e1 σ1 ρ', k e1 σ1 = res ∧ Up ρ ρ' ∧ ER m ρ' e1 env' ∧ MR w0 ρ' σ1 w') l env w
 | [], e, σ, ρ, env, w, hu, hE, hM, h => ⟨e, σ, ρ, h, Up.refl ρ, hE, hM⟩
 | o :: l, e, σ, ρ, env, w, hu, hE, hM, h => by
  have h' : (orH m hs0 full o).f ih e σ (fun e σ => (regH m hs0 full l).f ih e σ k) = res := h
  have next : ∀ {ρ' e' σ' env' w'}, Up ρ ρ' → ER m ρ' e' env' → MR w0 ρ' σ' w' → (regH m hs0 full l).f ih e' σ' k = res → xs Tryz.prog isI isS hs0 (HH ρ0 nh) full.toArray (fun env' w' => ∃ e1 σ1 ρ', k e1 σ1 = res ∧ Up ρ ρ' ∧ ER m ρ' e1 env' ∧ MR w0 ρ' σ1 w') l env' w' := fun {ρ' e' σ' env' w'} hu' hE' hM' hh => by
   have := s_regK hr hih hk hho hM0 (l := l) (hu.trans hu') hE' hM' hh
   exact xs_monoH (fun env'' w'' ⟨e1, σ1, r, h0, h1, h2, h3⟩ => ⟨e1, σ1, r, h0, hu'.trans h1, h2, h3⟩) this
  have fins : ∀ {ρ' e' σ' env' w'}, ER m ρ' e' env' → MR w0 ρ' σ' w' → (regH m hs0 full l).f ih e' σ' k = res → (∀ n ∈ e'.hs, n ∈ nh) ∧ ∀ s ∈ e'.ms, s ∈ nm := fun {ρ' e' σ' env' w'} hE' hM' hh => Mono.reg hr hih hk l _ _ _ _ _ hE' hM' hh
  obtain ⟨d, op, ty, pos, af, gd⟩ := o
  unfold orH at h'
  split at h'
  ·exact absurd h'.symm hr
  ·rename_i hd
   have no : ∀ e', (regH m hs0 full l).f ih e' σ k = res → e'.hs = e.hs → e'.ms = e.ms → ER m ρ e' (Eng.put env d undef) → xs Tryz.prog isI isS hs0 (HH ρ0 nh) full.toArray (fun env' w' => ∃ e1 σ1 ρ', k e1 σ1 = res ∧ Up ρ ρ' ∧ ER m ρ' e1 env' ∧ MR w0 ρ' σ1 w') l (Eng.put env d undef) w := fun e' k1 _ _ k2 => next (Up.refl ρ) k2 hM k1
   split at h'
   ·rename_i t x hop
    have hop : op = .load t x := hop
    subst hop
    split at h'
    ·rename_i hmem
     refine xs_cons (s_guard hr hE h' (fun h => ?_) no)
     cases d with
     | none => cases hd
     | some d =>
      obtain ⟨id, o', l', av, p, h1, h2, h3, h4, h5⟩ := ldH_inv hr hE h
      obtain ⟨e', k1, k3, k4, k2⟩ := puW_inv h4
      obtain ⟨vs, g1, g2⟩ := hM.cells h2 h3
      have hn : (id, o', l') ∈ nh := by
       rcases h5 with ⟨ht, y, rfl, rfl⟩ | ⟨ht, rfl⟩
       ·cases g1 with
        | cons q1 q2 => exact (fins ((hE.put (v := .v y) q1.2 k2).same (e' := ⟨e'.vs, e'.ts, (id, o', [y]) :: e'.hs, e'.ms⟩) rfl rfl) hM k1).1 _ List.mem_cons_self
       ·exact (fins ((hE.put (v := .g l') (val := .agg vs.toArray) ⟨vs, g1, rfl⟩ k2).same (e' := ⟨e'.vs, e'.ts, (id, o', l') :: e'.hs, e'.ms⟩) rfl rfl) hM k1).1 _ List.mem_cons_self
      obtain ⟨q1, q2⟩ := hho _ hn
      have q1 : id < σ0.n := q1
      rw [← hM0.len] at q1
      have hp0 : ρ0[id]? = some ρ0[id] := List.getElem?_eq_getElem q1
      have hpp := hu _ _ hp0
      rw [h2] at hpp
      have hpe : ρ0[id] = p := (Option.some.inj hpp).symm
      rw [hpe] at hp0
      obtain ⟨vs0, g3, _⟩ := hM0.cells hp0 (l := l') (o := o') (fun i hi => q2 σ0 List.mem_cons_self i hi)
      have hcell : ∀ w', HH ρ0 nh w' → ∀ (j : Nat) u, vs0[j]? = some u → w'.cell? ⟨p.b, o' + j, none⟩ = some u := fun w' hw j u hj => hw _ hn p vs0 hp0 g3 j u hj
      have fin : ∀ val, AR ρ av val → xs Tryz.prog isI isS hs0 (HH ρ0 nh) full.toArray (fun env' w' => ∃ e1 σ1 ρ', k e1 σ1 = res ∧ Up ρ ρ' ∧ ER m ρ' e1 env' ∧ MR w0 ρ' σ1 w') l (Eng.put env (some d) val) w := fun val hv => next (Up.refl ρ) ((hE.put hv k2).same (e' := ⟨e'.vs, e'.ts, (id, o', l') :: e'.hs, e'.ms⟩) rfl rfl) hM k1
      rcases h5 with ⟨ht, y, rfl, rfl⟩ | ⟨ht, rfl⟩
      ·cases g3 with
       | cons r1 r2 =>
        cases r2
        exact xldh h1 ht (fun w' hw => by have := hcell w' hw 0 _ rfl; exact this) (fin _ (r1.2.up hu)) hmem
      ·exact xldzh h1 (by rw [g3.len]; exact ht) (fun w' hw => hcell w' hw) (fin _ ⟨vs0, g3.up hu, rfl⟩) hmem
    ·rename_i hmem
     refine xs_cons (s_guard hr hE h' (fun h => ?_) no)
     refine xs_monoH (fun env' w' hh => ?_) (xs_held (s_pop (c := fun e σ => (regH m hs0 full l).f ih e σ k) hr hih hE hM hd h) (.inr (.inl ⟨rfl, hmem⟩)))
     obtain ⟨e', σ', ρ', g1, g2, g3, g4, _⟩ := hh
     exact next g2 g3 g4 g1
   ·split at h'
    ·rename_i hcl
     refine xs_cons (s_guard hr hE h' (fun h => ?_) no)
     refine xs_monoH (fun env' w' hh => ?_) (xs_held (s_wop (c := fun e σ => (regH m hs0 full l).f ih e σ k) hr hih hE hM hd h) (.inr (.inr ⟨hcl, fun env' w' hh => ?_⟩)))
     ·obtain ⟨e', σ', ρ', g1, g2, g3, g4, _⟩ := hh
      exact next g2 g3 g4 g1
     ·obtain ⟨e', σ', ρ', g1, g2, g3, g4, _, _, g7⟩ := hh
      exact hold_at g4 (hu.trans g2) (List.mem_cons_of_mem _ ((fins g3 g4 g1).2 σ' g7)) hho
    ·rename_i hcl
     refine xs_cons (s_guard hr hE h' (fun h => ?_) no)
     refine xs_monoH (fun env' w' hh => ?_) (xs_held (s_popU (c := fun e σ => (regH m hs0 full l).f ih e σ k) hr hih hE hM hd h) (.inl hcl))
     obtain ⟨e', σ', ρ', g1, g2, g3, g4, _⟩ := hh
     exact next g2 g3 g4 g1
    ·rename_i hcl
     split at h'
     ·rename_i hmem
      refine xs_cons (s_guard hr hE h' (fun h => ?_) no)
      cases d with
      | none => exact (memb_none hmem).elim
      | some d =>
       obtain ⟨s, t, x, el, id, j, l', vs, r, p, cc, rfl, y1, y2, y3, y4, y5, y6, y7, y8, y9, y10, y11⟩ := rdH_inv hr hE hM h
       obtain ⟨e', k1, k3, k4, k2⟩ := puW_inv y11
       have hS := cls_r hcl
       have hE' : ER m ρ ⟨e'.vs, e'.ts, (id, j, l') :: e'.hs, e'.ms⟩ (Eng.put env (some d) (.string (su (uOf r)))) := (hE.put (v := .v (.s r)) ⟨rfl, y5, y6⟩ k2).same rfl rfl
       have hn : (id, j, l') ∈ nh := (fins hE' hM k1).1 _ List.mem_cons_self
       obtain ⟨q1, q2⟩ := hho _ hn
       have q1 : id < σ0.n := q1
       rw [← hM0.len] at q1
       have hp0 : ρ0[id]? = some ρ0[id] := List.getElem?_eq_getElem q1
       have hpp := hu _ _ hp0
       rw [y4] at hpp
       have hpe : ρ0[id] = p := (Option.some.inj hpp).symm
       rw [hpe] at hp0
       obtain ⟨vs0, g3, _⟩ := hM0.cells hp0 (l := l') (o := j) (fun i hi => q2 σ0 List.mem_cons_self i hi)
       have hvs := SRs.one (g3.up hu) y8
       have hcl' : clsO isI isS hs0 ⟨some d, .convert s t x, ty, pos, af, none⟩ = .h := by
        simp [clsO, hcl, hmem]
       refine x_gen rfl (by simp [opsOK, Op.operands, y3]) ?_
       rw [hcl']
       refine ⟨.string (su (uOf r)), fun w' hw => ?_, next (Up.refl ρ) hE' hM k1⟩
       have hrun := run_cvH (w := w') (c := cc) y1 y2 hS (fun i u hu => hw _ hn p vs0 hp0 g3 i u (by rw [hvs, y9]; exact hu))
       simp [execOp, ev_of y3, hrun]
     ·rename_i hmem
      refine xs_cons (s_guard hr hE h' (fun h => ?_) no)
      refine xs_monoH (fun env' w' hh => ?_) (xs_held (s_pop (c := fun e σ => (regH m hs0 full l).f ih e σ k) hr hih hE hM hd h) (.inr (.inl ⟨hcl, hmem⟩)))
      obtain ⟨e', σ', ρ', g1, g2, g3, g4, _⟩ := hh
      exact next g2 g3 g4 g1
    ·exact absurd h'.symm hr
theorem s_regH {w0 : Fm} {m : Nat} {ih : Cl} {res : Rs} {σ0 : Mem} {ρ0 : Pl} {ws : World} {ef : En} {σf : Mem} (hr : res ≠ .no) (hih : CallS w0 ih) (hres : res = .mk .nrm ef σf) (hho : ∀ n ∈ ef.hs, Hold σ0 ef.ms n) (hM0 : MR w0 ρ0 σ0 ws) {hs0 : List Nat} {full l2 l : List Oper} {e : En} {σ : Mem} {ρ : Pl} {env : Env} {w : World} (hu : Up ρ0 ρ) (hE : ER m ρ e env) (hM : MR w0 ρ σ w) (h : (regH m hs0 full l).f ih e σ (finH m ih full l2 σ0) = res) : xs Tryz.prog isI isS hs0 (HH ρ0 ef.hs) full.toArray (fun env' w' => ∃ e1 σ1 ρ', (regW m full l2).f ih e1 σ1 fin0 = res ∧ Up ρ ρ' ∧ ER m ρ' e1 env' ∧ MR w0 ρ' σ1 w') l env w := by
 refine xs_monoH (fun env' w' ⟨e1, σ1, ρ', h0, h1, h2, h3⟩ => ?_) (s_regK hr hih (Mono.fin hr hih hres) hho hM0 hu hE hM h)
 obtain ⟨g1, _⟩ := ckA_inv hr (show ckA σ0 e1.ms e1.hs ((regW m full l2).f ih e1 σ1 fin0) = res from h0)
 exact ⟨e1, σ1, ρ', g1, h1, h2, h3⟩
theorem wp_cut {N : Nat} {id : Nat} {l : List Oper} {env : Env} {w : World} {a : Act} {K : Env → World → Prop} {Q : Exit → Act → World → Prop} (cut : Nat) (hs : List Nat) (H : World → Prop) (hd : dstOK N l.toArray = true) (hq : seqOK2 isI isS hs cut l.toArray (Region.before l.toArray) = true) (hw : H w.drew) (ha : Fits N env a)
  (hQ : ∀ a' env' w', Fits N env' a' → K env' w' → Q .normal a' w')
  (h : xs Tryz.prog isI isS hs H l.toArray (fun env' w' => xs Tryz.prog isI isS [] Eng.noH l.toArray K (l.drop cut) env' w') (l.take cut) env w.drew) : (Code.region id l.toArray true).wp Tryz.prog Q a w := by
 obtain ⟨hs', hd⟩ := dstOK_spec hd
 have hq' := seqOK2_spec hq
 have hle : cut ≤ l.length := by simpa using hq'.le
 have h1 := ss_of_xs2 (N := N) hs' hd (l.take cut) 0 env a w.drew (fun j o ho => by
  rw [Nat.zero_add]
  have hj : j < cut := by
   have := (List.getElem?_eq_some_iff.1 ho).1
   rw [List.length_take] at this; omega
  rw [List.getElem?_take_of_lt hj] at ho
  simpa using ho) hw ha h
 rw [List.length_take, Nat.min_eq_left hle] at h1
 have h2 : ss2 Tryz.prog isI isS hs H l.toArray (fun a' w' => ∃ env', Fits N env' a' ∧ K env' w') (List.range' 0 cut) (List.range' cut (l.length - cut)) a w.drew := by
  refine ss_app _ _ a _ hw (fun a' w' _ ⟨env', hf, hx⟩ => ?_) h1
  have := ss_of_xs2 (N := N) hs' hd (l.drop cut) cut env' a' w' (fun j o ho => by
   rw [List.getElem?_drop] at ho
   simpa using ho) trivial hf hx
  rwa [List.length_drop] at this
 refine wp_region_any mixed (wpAny_of_ss2 hq' (fun a' w' ⟨env', hf, ht⟩ => hQ a' env' w' hf ht) l.toArray.size _ (List.range' 0 cut) (List.range' cut (l.length - cut)) a _ (fun _ => hw) (by simp) (by simp; omega) ?_ (fun i hi => by rw [List.mem_range'_1] at hi; omega) (fun i hi => by rw [List.mem_range'_1] at hi; omega) (fun i => ?_) (fun i o ho hl => ?_) h2)
 ·have e : List.range' 0 cut ++ List.range' cut (l.length - cut) = List.range l.length := by
   have := List.range'_append_1 (s := 0) (m := cut) (n := l.length - cut)
   rw [Nat.zero_add] at this
   rw [this, List.range_eq_range']
   congr 1; omega
  rw [e]; exact List.pairwise_lt_range
 ·rw [List.mem_append, List.mem_range'_1, List.mem_range'_1]
  simp [Array.getD_eq_getD_getElem?]
  constructor
  ·intro hh
   have : i < l.length := by omega
   exact ⟨this, by simp [this]⟩
  ·intro hh; omega
 ·exfalso
  rw [Array.getD_eq_getD_getElem?, Array.getElem?_replicate] at hl
  split at hl <;> simp at hl
theorem cutR_inv {ops : Array Oper} {k : Nat} : ∀ {l : List Nat}, cutR ops l = .held k → seqOK2 isI isS (ldK ops k) k ops (Region.before ops) = true
 | [], h => by cases h
 | q :: l, h => by
  have h' : cN q (fun k => (match seqOK2 isI isS (ldK ops k) k ops (Region.before ops) with
   | true => Rk.held k
   | false => cutR ops l : Rk)) = Rk.held k := h
  rw [cN_eq] at h'
  split at h'
  ·rename_i hq
   injection h' with h'
   rw [← h']; exact hq
  ·exact cutR_inv h'
theorem cutR_text {ops : Array Oper} : ∀ {l : List Nat}, cutR ops l ≠ .text
 | [], h => by cases h
 | q :: l, h => by
  have h' : cN q (fun k => (match seqOK2 isI isS (ldK ops k) k ops (Region.before ops) with
   | true => Rk.held k
   | false => cutR ops l : Rk)) = Rk.text := h
  rw [cN_eq] at h'
  split at h'
  ·cases h'
  ·exact cutR_text h'
end Rn
end Eng
end Go.Proofs.YtpfelapckcojjaaGreatDoor
namespace Go.Proofs.YtpfelapckcojjaaGreatDoor
open Go.RowKit
namespace Eng
namespace Rn
theorem look_put_ne {env : Env} {d : Option Tmp} {v : Value} {t : Nat} (h : d ≠ some t) : look (Eng.put env d v) t = look env t := by
 cases d with
 | none => rfl
 | some k =>
  show look ((k, v) :: env) t = _
  rw [look_cons, if_neg (fun e => h (by rw [e]))]
theorem xs_keep {hs : List Nat} {H : World → Prop} {full : Array Oper} {K : Env → World → Prop} : ∀ {l : List Oper} {env : Env} {w : World}, xs Tryz.prog isI isS hs H full K l env w → xs Tryz.prog isI isS hs H full (fun env' w' => K env' w' ∧ ∀ t, (∀ o ∈ l, o.dst ≠ some t) → look env' t = look env t) l env w
 | [], _, _, h => ⟨h, fun _ _ => rfl⟩
 | o :: l, env, w, ⟨g, hg, h1, h2⟩ => by
  have step : ∀ v w', xs Tryz.prog isI isS hs H full K l (Eng.put env o.dst v) w' → xs Tryz.prog isI isS hs H full (fun env' w' => K env' w' ∧ ∀ t, (∀ o' ∈ o :: l, o'.dst ≠ some t) → look env' t = look env t) l (Eng.put env o.dst v) w' := fun v w' h =>
   xs_monoH (fun env' w' ⟨hk, hl⟩ => ⟨hk, fun t ht => (hl t fun o' ho' => ht o' (List.mem_cons_of_mem _ ho')).trans (look_put_ne (ht o List.mem_cons_self))⟩) (xs_keep h)
  exact ⟨g, hg, fun hh => ⟨(h1 hh).1, acts_monoH (fun v w' hx => step v w' hx) (h1 hh).2⟩, fun hh => step _ _ (h2 hh)⟩
theorem ops_keep {d : Option Tmp} {op : Op} {ty : TypeId} {pos : String} {af : Array Edge} {env env2 : Env} (hx : ∀ x ∈ op.operands.toList, evo env2 x = evo env x) (h : opsOK env ⟨d, op, ty, pos, af, none⟩ = true) : opsOK env2 ⟨d, op, ty, pos, af, none⟩ = true := by
 unfold opsOK at h ⊢
 rw [List.all_eq_true] at h ⊢
 intro x hm
 rw [hx x hm]
 exact h x hm
def Made (ρ : Pl) (env : Env) (d : Tmp) (op : Op) (ty : TypeId) (pos : String) (af : Array Edge) (σ : Mem) (c : Kt) (res : Rs) : Prop :=
 ∃ (el : TypeId) (l : List SV) (vs : List Value) (cs : Array Value) (n z : Nat) (av : Nat → AV) (mv : Nat → Value), newK σ el l (fun id σ => c (av id) σ) = res ∧ SRs ρ l vs ∧ (∀ (o : Nat) v, vs[o]? = some v → cs[o]? = some v) ∧ n * z = cs.size ∧ (∀ id b (ρ' : Pl), ρ'[id]? = some ⟨b, n, z⟩ → AR ρ' (av id) (mv b)) ∧ (∀ t n' ps, op = .buildSlice t n' ps → elemOf t = some (el, z) ∧ cs = vs.toArray ∧ vs.length = n * z ∧ (av = fun id => .v (.lx id z 0 n n)) ∧ mv = fun b => .slice (some ⟨b, 0, none⟩) n n) ∧
   ∀ (env2 : Env) (w : World), (∀ x ∈ op.operands.toList, evo env2 x = evo env x) → opsOK env2 ⟨some d, op, ty, pos, af, none⟩ = true ∧ (execOp (ev env2) ⟨some d, op, ty, pos, af, none⟩).run Tryz.prog w = .ok (.value (mv w.heap.size)) (w.alloc (.cells cs el))
theorem al_mk {ih : Cl} {e : En} {σ : Mem} {c : Kt} {res : Rs} {ρ : Pl} {env : Env} {d : Tmp} {ty : TypeId} {pos : String} {af : Array Edge} (hr : res ≠ .no) {t : TypeId} (h : (alW t (zA t)).f ih e σ c = res) : Made ρ env d (.alloc t) ty pos af σ c res := by
 unfold alW at h
 split at h
 ·rename_i z hz
  rw [cVs_eq] at h
  obtain ⟨i, v, hi, hv, hl⟩ := zA_inv (ρ := ρ) hz
  refine ⟨t, z, _, v.cells, v.cells.size, 1, _, fun b => .pointer (some ⟨b, 0, none⟩), h, hl, fun o u hu => by simpa using hu, by simp, fun id b ρ' hp => ⟨_, hp, rfl⟩, (fun _ _ _ hh => by cases hh), fun env2 w _ => ⟨by simp [opsOK, Op.operands], ?_⟩⟩
  simp [execOp, Instr.alloc, zeroValue, typeInfo, hi, hv, newVar, newRow]
 ·exact absurd h.symm hr
theorem rw_mk {m : Nat} {ih : Cl} {e : En} {σ : Mem} {c : Kt} {res : Rs} {ρ : Pl} {env : Env} {d : Tmp} {ty : TypeId} {pos : String} {af : Array Edge} (hr : res ≠ .no) (hE : ER m ρ e env) {t : TypeId} {n : Nat} {ps : List (Nat × Operand)} (hm : 1 ≤ n) (h : (rwW m n ps (elemOf t)).f ih e σ c = res) : Made ρ env d (.buildSlice t n ps.toArray) ty pos af σ c res := by
 unfold rwW at h
 split at h
 ·omega
 split at h
 ·rename_i el z hel
  obtain ⟨hu, hsz⟩ := elemOf_inv hel
  obtain ⟨⟨ie, hie, hz⟩, _⟩ := size_spec hsz
  split at h
  ·rename_i zs hzs
   split at h
   ·exact absurd h.symm hr
   ·rename_i hchk
    rw [cN_eq, cN_eq, cVs_eq] at h
    obtain ⟨k1, hchk⟩ := an_inv hchk
    obtain ⟨k2, hchk⟩ := an_inv hchk
    obtain ⟨k3, k4⟩ := an_inv hchk
    have k1 := Nat.eq_of_beq_eq_true k1
    have k2 := Nat.le_of_ble_eq_true k2
    have k3 := Nat.le_of_ble_eq_true k3
    have k4 : n * z ≤ 16777216 := Nat.le_of_ble_eq_true k4
    obtain ⟨i, v, hi, hv, hl⟩ := zA_inv (ρ := ρ) hzs
    rw [hie] at hi; obtain rfl := Option.some.inj hi
    have hrep := rep_rel hl n
    rw [k1] at hrep
    obtain ⟨pvs, l', vs', h1, h2, h3, hlen', g1⟩ := ptW_inv hr hE h hrep
    obtain ⟨he, ho⟩ := evq_spec h1
    have hpos : 0 < n * z := Nat.mul_pos (by omega) (by omega)
    have hlen' : vs'.length = n * z := by rw [hlen', Array.length_toList, size_madeCells]
    refine ⟨el, l', vs', vs'.toArray, n, z, fun id => .v (.lx id z 0 n n), fun b => .slice (some ⟨b, 0, none⟩) n n, g1, h3, fun o u hu => by simpa using hu, by simp [hlen'], fun id b ρ' hp => ⟨_, hp, Nat.le_refl _, by have := Nat.le_mul_of_pos_right n k3; unfold maxLen; omega, by simp⟩, (fun t' n' ps' hh => by injection hh with h1 _ _; subst h1; exact ⟨hel, rfl, hlen', rfl, rfl⟩), fun env2 w hx => ?_⟩
    have hx' : ∀ p ∈ ps, evo env2 p.2 = evo env p.2 := fun p hp => hx p.2 (by simp only [Op.operands]; simp; exact ⟨p.1, by simpa using hp⟩)
    have hev : (ps.map fun p => (p.1, ev env2 p.2)) = ps.map fun p => (p.1, ev env p.2) := List.map_congr_left fun p hp => by unfold ev; rw [hx' p hp]
    have hrun := run_buildSlice (P := Tryz.prog) w t el n ((ps.map fun p => (p.1, ev env2 p.2)).toArray) vs'.toArray ie v hu hie hv (by rw [hz]; omega) (by rw [hz]; omega) (by
     show Instr.fill _ _ (ps.map fun p => (p.1, ev env2 p.2)) = _
     rw [hev, he, hz]
     exact h2)
    refine ⟨ops_keep hx (by simp only [opsOK, Op.operands]; rw [List.all_eq_true]; intro x hx; simp at hx; obtain ⟨j, hj⟩ := hx; exact ho _ (by simpa using hj)), ?_⟩
    have e2 : (ps.toArray.map fun x => match x with | (i, x) => (i, ev env2 x)) = (ps.map fun p => (p.1, ev env2 p.2)).toArray := by simp
    simp only [execOp]
    rw [e2]
    simp [hrun]
  ·exact absurd h.symm hr
 ·exact absurd h.symm hr
theorem mk_inv {m : Nat} {ih : Cl} {e : En} {σ : Mem} {c : Kt} {res : Rs} {ρ : Pl} {env : Env} {d : Tmp} {ty : TypeId} {pos : String} {af : Array Edge} (hr : res ≠ .no) {op : Op} (hm : isMk op = true) (hE : ER m ρ e env) (h : (opW m op).f ih e σ c = res) : Made ρ env d op ty pos af σ c res := by
 cases op with
 | alloc t => exact al_mk hr h
 | buildSlice t n ps => exact rw_mk (ps := ps.toList) hr hE (Nat.le_of_ble_eq_true hm) h
 | _ => cases hm
theorem dryH {w0 : Fm} {m : Nat} {ih : Cl} {res : Rs} {k : Kr} (hr : res ≠ .no) (hih : CallS w0 ih) {hs : List Nat} {full : List Oper} : ∀ {l : List Oper} {e : En} {σ : Mem} {ρ : Pl} {env : Env} {w : World}, ER m ρ e env → MR w0 ρ σ w → (regH m hs full l).f ih e σ k = res → ∃ env' w' e1 σ1 ρ', k e1 σ1 = res ∧ Up ρ ρ' ∧ ER m ρ' e1 env' ∧ MR w0 ρ' σ1 w' ∧ ∀ t, (∀ o ∈ l, o.dst ≠ some t) → look env' t = look env t
 | [], e, σ, ρ, env, w, hE, hM, h => ⟨env, w, e, σ, ρ, h, Up.refl ρ, hE, hM, fun _ _ => rfl⟩
 | o :: l, e, σ, ρ, env, w, hE, hM, h => by
  have h' : (orH m hs full o).f ih e σ (fun e σ => (regH m hs full l).f ih e σ k) = res := h
  obtain ⟨env1, w1, ⟨e1, σ1, ρ1, h1, h2, h3, h4, _⟩, h5⟩ := xs_some (xs_keep (s_orH hr hih hE hM h'))
  obtain ⟨env2, w2, e2, σ2, ρ2, g1, g2, g3, g4, g5⟩ := dryH hr hih h3 h4 h1
  exact ⟨env2, w2, e2, σ2, ρ2, g1, h2.trans g2, g3, g4, fun t ht => (g5 t fun o' ho' => ht o' (List.mem_cons_of_mem _ ho')).trans (h5 t fun o' ho' => by rw [List.mem_singleton] at ho'; subst ho'; exact ht _ List.mem_cons_self)⟩
theorem alook_delL {d t : Nat} : ∀ {l : AEnv}, alook t (delL d l) = if d = t then none else alook t l
 | [] => by
  have e : alook t (delL d []) = none := rfl
  rw [e]; split <;> rfl
 | (k, x) :: l => by
  have e1 : delL d ((k, x) :: l) = Bool.rec (motive := fun _ => AEnv) ((k, x) :: delL d l) (delL d l) (Nat.beq k d) := rfl
  have ih := alook_delL (d := d) (t := t) (l := l)
  rw [e1]
  cases hk : Nat.beq k d with
  | true =>
   have hk := Nat.eq_of_beq_eq_true hk
   subst hk
   show alook t (delL k l) = _
   rw [ih]
   by_cases ht : k = t
   ·rw [if_pos ht, if_pos ht]
   ·rw [if_neg ht, if_neg ht]; simp [alook, ht]
  | false =>
   have hk : k ≠ d := fun e => by subst e; rw [Nat.beq_refl] at hk; cases hk
   show alook t ((k, x) :: delL d l) = _
   by_cases ht : k = t
   ·subst ht
    rw [if_neg (fun e => hk e.symm)]; simp [alook]
   ·simp only [alook, if_neg ht]; exact ih
theorem delL_idem {d : Nat} : ∀ {l : AEnv}, delL d (delL d l) = delL d l
 | [] => rfl
 | (k, x) :: l => by
  have e1 : delL d ((k, x) :: l) = Bool.rec (motive := fun _ => AEnv) ((k, x) :: delL d l) (delL d l) (Nat.beq k d) := rfl
  rw [e1]
  cases hk : Nat.beq k d with
  | true => exact delL_idem
  | false =>
   show Bool.rec (motive := fun _ => AEnv) ((k, x) :: delL d (delL d l)) (delL d (delL d l)) (Nat.beq k d) = _
   rw [hk, delL_idem]
theorem delL_comm {d d2 : Nat} : ∀ {l : AEnv}, delL d (delL d2 l) = delL d2 (delL d l)
 | [] => rfl
 | (k, x) :: l => by
  have e1 : ∀ (q : Nat) (r : AEnv), delL q ((k, x) :: r) = Bool.rec (motive := fun _ => AEnv) ((k, x) :: delL q r) (delL q r) (Nat.beq k q) := fun _ _ => rfl
  have ih := delL_comm (d := d) (d2 := d2) (l := l)
  rw [e1, e1]
  cases hk : Nat.beq k d2 with
  | true =>
   cases hk' : Nat.beq k d with
   | true => exact ih
   | false =>
    show delL d (delL d2 l) = delL d2 ((k, x) :: delL d l)
    rw [e1, hk]; exact ih
  | false =>
   show delL d ((k, x) :: delL d2 l) = _
   rw [e1]
   cases hk' : Nat.beq k d with
   | true => exact ih
   | false =>
    show (k, x) :: delL d (delL d2 l) = delL d2 ((k, x) :: delL d l)
    rw [e1, hk, ih]
theorem delE_two {d d2 : Nat} {e : En} : delE d (delE d2 (delE d (delE d2 e))) = delE d (delE d2 e) := by
 have h : ∀ l : AEnv, delL d (delL d2 (delL d (delL d2 l))) = delL d (delL d2 l) := fun l => by
  rw [delL_comm (d := d2) (d2 := d), delL_idem, delL_idem]
 unfold delE
 simp only [h]
theorem elk_del {m d t : Nat} {e : En} : elk m (delE d e) t = if d = t then none else elk m e t := by
 unfold elk delE
 cases kept m t <;> exact alook_delL
theorem ER.del {m : Nat} {ρ : Pl} {e : En} {env : Env} {d : Nat} (h : ER m ρ e env) : ER m ρ (delE d e) env := fun t a ha => by
 rw [elk_del] at ha
 split at ha
 ·cases ha
 ·exact h t a ha
theorem dryF {w0 : Fm} {m : Nat} {ih : Cl} {res : Rs} {k : Kr} (hr : res ≠ .no) (hih : CallS w0 ih) {hs : List Nat} {full : List Oper} {d d2 : Nat} : ∀ {l : List (Oper × Bool)} {e : En} {σ : Mem} {ρ : Pl} {env : Env} {w : World}, ER m ρ e env → MR w0 ρ σ w → (regF m hs full d d2 l).f ih e σ k = res → ∃ env' w' e1 σ1 ρ', k e1 σ1 = res ∧ Up ρ ρ' ∧ ER m ρ' e1 env' ∧ MR w0 ρ' σ1 w' ∧ ∀ t, (∀ o ∈ l.map Prod.fst, o.dst ≠ some t) → look env' t = look env t
 | [], e, σ, ρ, env, w, hE, hM, h => ⟨env, w, e, σ, ρ, h, Up.refl ρ, hE, hM, fun _ _ => rfl⟩
 | (o, b) :: l, e, σ, ρ, env, w, hE, hM, h => by
  have h' : (orH m hs full o).f ih (delE d (delE d2 e)) σ (fun e σ => (regF m hs full d d2 l).f ih e σ k) = res := h
  obtain ⟨env1, w1, ⟨e1, σ1, ρ1, h1, h2, h3, h4, _⟩, h5⟩ := xs_some (xs_keep (s_orH hr hih hE.del.del hM h'))
  obtain ⟨env2, w2, e2, σ2, ρ2, g1, g2, g3, g4, g5⟩ := dryF hr hih h3 h4 h1
  exact ⟨env2, w2, e2, σ2, ρ2, g1, h2.trans g2, g3, g4, fun t ht => (g5 t fun o' ho' => ht o' (by rw [List.map_cons]; exact List.mem_cons_of_mem _ ho')).trans (h5 t fun o' ho' => by rw [List.mem_singleton] at ho'; subst ho'; exact ht _ (by rw [List.map_cons]; exact List.mem_cons_self))⟩
theorem Mono.regF {w0 : Fm} {m : Nat} {ih : Cl} {res : Rs} {nh : List Nt} {nm : List Mem} {k : Kr} (hr : res ≠ .no) (hih : CallS w0 ih) {hs : List Nat} {full : List Oper} {d d2 : Nat} (hk : Mono w0 m res nh nm k) : ∀ l : List (Oper × Bool), Mono w0 m res nh nm (fun e σ => (regF m hs full d d2 l).f ih e σ k)
 | [] => hk
 | (o, _) :: l => fun e σ ρ env w hE hM h => Mono.op (o := o) hr hih (Mono.regF hr hih hk l) (delE d (delE d2 e)) σ ρ env w hE.del.del hM h
theorem s_regF {w0 w00 : Fm} {m : Nat} {ih : Cl} {res : Rs} {σ0 : Mem} {ρ0 : Pl} {ws : World} {nh : List Nt} {nm : List Mem} {k : Kr} (hr : res ≠ .no) (hih : CallS w0 ih) (hk : Mono w0 m res nh nm k) (hho : ∀ n ∈ nh, Hold σ0 nm n) (hM0 : MR w00 ρ0 σ0 ws) {hs0 : List Nat} {full : List Oper} {d d2 : Nat} : ∀ {l : List (Oper × Bool)} {e : En} {σ : Mem} {ρ : Pl} {env : Env} {w : World}, Up ρ0 ρ → ER m ρ e env → MR w0 ρ σ w → (regF m hs0 full d d2 l).f ih e σ k = res → xs Tryz.prog isI isS hs0 (HH ρ0 nh) full.toArray (fun env' w' => ∃ e1 σ1 ρ', k e1 σ1 = res ∧ Up ρ ρ' ∧ ER m ρ' e1 env' ∧ MR w0 ρ' σ1 w') (l.map Prod.fst) env w
 | [], e, σ, ρ, env, w, hu, hE, hM, h => ⟨e, σ, ρ, h, Up.refl ρ, hE, hM⟩
 | (o, b) :: l, e, σ, ρ, env, w, hu, hE, hM, h => by
  have h1 := s_regK hr hih (Mono.regF hr hih hk l) hho hM0 (hs0 := hs0) (full := full) (l := [o]) hu ((hE.del (d := d2)).del (d := d)) hM h
  rw [List.map_cons]
  refine xs_cons (xs_monoH (fun env' w' hh => ?_) h1)
  obtain ⟨e1, σ1, ρ1, k1, k2, k3, k4⟩ := hh
  exact xs_monoH (fun env'' w'' ⟨e2, σ2, ρ2, q1, q2, q3, q4⟩ => ⟨e2, σ2, ρ2, q1, k2.trans q2, q3, q4⟩) (s_regF hr hih hk hho hM0 (hu.trans k2) k3 k4 k1)
theorem HH.ext {ρ0 : Pl} {nh : List Nt} {w w' : World} (h : HH ρ0 nh w) (hE : Ext w w') : HH ρ0 nh w' := fun n hn p vs hp hv j u hj => hE.cell (h n hn p vs hp hv j u hj)
abbrev Fm.out {w0 : Fm} {ρ : Pl} {σ : Mem} {w w1 : World} (h : MR w0 ρ σ w) (hE : Ext w w1) : Fm := ⟨fun b => b ≠ w.heap.size ∧ w0.may b, w1, w0.ok.of (h.old.te hE) fun _ hb => hb.2⟩
theorem MR.keep {w0 : Fm} {ρ : Pl} {σ : Mem} {w w1 : World} (h : MR w0 ρ σ w) (hE : Ext w w1) : MR (Fm.out h hE) ρ σ w1 where
 len := h.len
 blk := (h.ext hE).blk
 old := Fr.refl _ _
 far := fun id o p hs hp => .inr ⟨Nat.ne_of_lt (h.below id o p hs hp), h.far id o p hs hp⟩
 pre := h.pre
 apart := h.apart
 mps := h.mps.to (Up.refl ρ) (fun _ _ hb => hb.ext hE) fun _ _ hb hm => .inr ⟨Nat.ne_of_lt hb.lt, hm⟩
theorem MR.back {w0 : Fm} {ρ ρ1 : Pl} {σ σ1 : Mem} {w w1 w' : World} (h : MR w0 ρ σ w) (hE : Ext w w1) (hlt : w.heap.size < w1.heap.size) (h1 : MR (Fm.out h hE) ρ1 σ1 w') : MR w0 ρ1 σ1 w' ∧ (∀ id o p, (cget σ1 id o).isSome = true → ρ1[id]? = some p → p.b ≠ w.heap.size) ∧ ∀ t cs, Bk w1 w.heap.size t cs → Bk w' w.heap.size t cs := by
 have hs := h.old.size
 refine ⟨⟨h1.len, h1.blk, (h.old.te hE).trans h1.old fun j hj hS => hS.2.resolve_left (by omega), fun id o p a b => ?_, h1.pre, h1.apart, h1.mps.to (Up.refl ρ1) (fun _ _ hb => hb) fun b l _ hm => ?_⟩, fun id o p a b => ?_, fun t cs hb => hb.fr h1.old fun hS => hS.1 rfl⟩
 ·rcases h1.far id o p a b with hh | hh
  ·have hh : w1.heap.size ≤ p.b := hh
   exact .inl (by omega)
  ·exact hh.2
 ·rcases hm with hh | hh
  ·have hh : w1.heap.size ≤ b := hh
   exact .inl (by omega)
  ·exact hh.2
 ·rcases h1.far id o p a b with hh | hh
  ·have hh : w1.heap.size ≤ p.b := hh
   omega
  ·exact hh.1
theorem mkH_inv {m : Nat} {ih : Cl} {res : Rs} (hr : res ≠ .no) {hs : List Nat} {full : List Oper} {c : Kr} {e : En} {σ : Mem} {d : Tmp} {op : Op} {ty : TypeId} {pos : String} {af : Array Edge} (hm : isMk op = true) (h : (orH m hs full ⟨some d, op, ty, pos, af, none⟩).f ih e σ c = res) : (opW m op).f ih e σ (fun v σ => (puW m (some d)).f e v fun e => c ⟨e.vs, e.ts, e.hs, σ :: e.ms⟩ σ) = res := by
 unfold orH at h
 split at h
 ·exact absurd h.symm hr
 ·cases op with
  | alloc t => exact h
  | buildSlice t n ps => exact h
  | _ => cases hm
theorem xs_app2 {hs : List Nat} {H : World → Prop} {full : Array Oper} {K : Env → World → Prop} : ∀ {l1 l2 : List Oper} {env : Env} {w : World}, xs Tryz.prog isI isS hs H full (fun env' w' => xs Tryz.prog isI isS hs H full K l2 env' w') l1 env w → xs Tryz.prog isI isS hs H full K (l1 ++ l2) env w
 | [], _, _, _, h => h
 | _ :: _, _, _, _, ⟨g, hg, h1, h2⟩ => ⟨g, hg, fun hh => ⟨(h1 hh).1, acts_monoH (fun _ _ hx => xs_app2 hx) (h1 hh).2⟩, fun hh => xs_app2 (h2 hh)⟩
theorem early {w0 w00 : Fm} {m : Nat} {ih : Cl} {res : Rs} {σ0 : Mem} {ρ0 : Pl} {ws : World} {nh : List Nt} {nm : List Mem} {k : Kr} (hr : res ≠ .no) (hih : ∀ F, CallS F ih) (hk : ∀ F, Mono F m res nh nm k) (hho : ∀ n ∈ nh, Hold σ0 nm n) (hM0 : MR w00 ρ0 σ0 ws) {hs0 : List Nat} {full post : List Oper} {preB : List (Oper × Bool)} {d d2 : Tmp} {op : Op} {ty : TypeId} {pos : String} {af : Array Edge} (hm : isMk op = true) (hcl : cls isI isS op = .w)
  (hd : ∀ o ∈ preB.map Prod.fst, o.dst ≠ some d) (hx : ∀ o ∈ preB.map Prod.fst, ∀ t, Operand.tmp t ∈ op.operands.toList → o.dst ≠ some t) (hself : Operand.tmp d ∉ op.operands.toList) {e : En} {σ : Mem} {ρ : Pl} {env : Env} {w : World} (hu : Up ρ0 ρ) (hE : ER m ρ e env) (hM : MR w0 ρ σ w) (hnd : elk m e d = none) (hH : HH ρ0 nh w)
  (h : (regF m hs0 full d d2 preB).f ih e σ (fun e σ => (orH m hs0 full ⟨some d, op, ty, pos, af, none⟩).f ih e σ fun e σ => (regH m hs0 full post).f ih e σ k) = res) :
  xs Tryz.prog isI isS hs0 (HH ρ0 nh) full.toArray (fun env' w' => ∃ e1 σ1 ρ', k e1 σ1 = res ∧ Up ρ ρ' ∧ ER m ρ' e1 env' ∧ MR w0 ρ' σ1 w') (⟨some d, op, ty, pos, af, none⟩ :: (preB.map Prod.fst ++ post)) env w := by
 have opnd : ∀ {env' : Env}, (∀ t, (∀ o ∈ preB.map Prod.fst, o.dst ≠ some t) → look env' t = look env t) → ∀ x ∈ op.operands.toList, evo env x = evo env' x := fun {env'} hl x hxm => by
  cases x with
  | tmp t => exact (hl t fun o ho => hx o ho t hxm).symm
  | _ => rfl
 obtain ⟨envd, wd, ed, σd, ρd, d1, _, d3, _, d5⟩ := dryF hr (hih w0) hE hM h
 obtain ⟨el, l, vs, cs, n, z, av, mv, _, _, _, _, _, _, b6⟩ := mk_inv (d := d) (ty := ty) (pos := pos) (af := af) hr hm d3 (mkH_inv hr hm d1)
 obtain ⟨r1, r2⟩ := b6 env w (opnd d5)
 have hE1 : Ext w (w.alloc (.cells cs el)) := Fr.alloc _ _ _
 have hH1 := HH.ext hH hE1
 refine xw r1 hcl r2 ?_ hH1
 have hM1 := hM.keep hE1
 have hE2 : ER m ρ e (Eng.put env (some d) (mv w.heap.size)) := fun t a ha => by
  obtain ⟨v, q1, q2⟩ := hE t a ha
  refine ⟨v, ?_, q2⟩
  rw [look_put_ne (fun hh => ?_)]
  ·exact q1
  ·injection hh with hh
   subst hh
   rw [hnd] at ha; cases ha
 refine xs_app2 ?_
 refine xs_monoH (fun env' w' hh => ?_) (xs_keep (s_regF hr (hih _) (Mono.op hr (hih _) (Mono.reg hr (hih _) (hk _) post)) hho hM0 hu hE2 hM1 h))
 obtain ⟨⟨e1, σ1, ρ1, c1, c2, c3, c4⟩, c5⟩ := hh
 obtain ⟨g1, g2, g3⟩ := hM.back hE1 (by simp) c4
 have hl : ∀ t, t ≠ d → (∀ o ∈ preB.map Prod.fst, o.dst ≠ some t) → look env' t = look env t := fun t hne ht => (c5 t ht).trans (look_put_ne fun hh => hne (by injection hh with hh; exact hh.symm))
 have hld : look env' d = some (mv w.heap.size) := (c5 d hd).trans (by simp [Eng.put, look_cons])
 obtain ⟨el', l', vs', cs', n', z', av', mv', a1, a2, a3, a4, a5, _, a6⟩ := mk_inv (d := d) (ty := ty) (pos := pos) (af := af) hr hm c3 (mkH_inv hr hm c1)
 obtain ⟨_, r3⟩ := a6 env w fun x hxm => by
  cases x with
  | tmp t => exact (hl t (fun hh => hself (by rw [← hh]; exact hxm)) fun o ho => hx o ho t hxm).symm
  | _ => rfl
 rw [r2] at r3
 injection r3 with hv hw
 injection hv with hv
 have hB : Bk w' w.heap.size el' cs' := g3 _ _ (by rw [hw]; exact Blk.bk (Blk.new _ _ _))
 obtain ⟨ob, σ2, q1, q2, q3, q4, q5, q6, q7⟩ := newK_inv hr a1
 have hM2 := g1.more (S := noneB) n' z' a4 q1 q2 (fun o ho => by rw [q4 o]; exact List.getElem?_eq_none (by omega)) (fun o x hx => by
  rw [q4 o] at hx
  obtain ⟨v, h3, h4⟩ := a2.get o x hx
  exact ⟨v, a3 o v h3, h4⟩) q5 q6 hB (Fr.refl _ _) (fun id o p s1 s2 => ⟨g2 id o p s1 s2, fun hh => hh⟩) (fun b hh => hh.elim) (.inl hM.old.size)
 obtain ⟨e2, t1, _, _, t4⟩ := puW_inv q7
 have hlast : (ρ1 ++ [(⟨w.heap.size, n', z'⟩ : At)])[σ1.n]? = some ⟨w.heap.size, n', z'⟩ := by rw [← g1.len]; simp
 have hE3 : ER m (ρ1 ++ [(⟨w.heap.size, n', z'⟩ : At)]) ⟨e2.vs, e2.ts, e2.hs, σ2 :: e2.ms⟩ env' := fun t a ha => by
  rcases t4 t a ha with ⟨hh, rfl⟩ | ⟨hh, ha⟩
  ·injection hh with hh
   subst hh
   exact ⟨_, hld, by rw [hv]; exact a5 _ _ _ hlast⟩
  ·obtain ⟨v, s1, s2⟩ := c3 t a ha
   exact ⟨v, s1, s2.up (Up.snoc _ _)⟩
 refine xs_monoH (fun env'' w'' hh => ?_) (s_regK hr (hih _) (hk _) hho hM0 ((hu.trans c2).trans (Up.snoc _ _)) hE3 hM2 t1)
 obtain ⟨e3, σ3, ρ3, v1, v2, v3, v4⟩ := hh
 exact ⟨e3, σ3, ρ3, v1, (c2.trans (Up.snoc _ _)).trans v2, v3, v4⟩
theorem opsAt_map {l : List Oper} : ∀ {is : List Nat} {os : List Oper}, opsAt l is = some os → is.map (l.toArray[·]?) = os.map some
 | [], os, h => by
  have h : some [] = some os := h
  obtain rfl := Option.some.inj h
  rfl
 | i :: is, os, h => by
  have h : (match l[i]?, opsAt l is with
   | some o, some r => some (o :: r)
   | _, _ => none) = some os := h
  split at h
  ·rename_i o r h1 h2
   obtain rfl := Option.some.inj h
   rw [List.map_cons, List.map_cons, opsAt_map h2, List.getElem?_toArray, h1]
  ·cases h
def xf (hs : List Nat) (H : World → Prop) (full : Array Oper) (K : Env → World → Prop) (f : Oper) (post : List Oper) : List (Oper × Bool) → Env → World → Prop
 | [], env, w => xs Tryz.prog isI isS hs H full K (f :: post) env w
 | (o, b) :: pre, env, w => (b = true → H w → xs Tryz.prog isI isS hs H full K (f :: (o :: pre.map Prod.fst ++ post)) env w) ∧ xs Tryz.prog isI isS hs H full (xf hs H full K f post pre) [o] env w
theorem xg_k {hs : List Nat} {H : World → Prop} {full : Array Oper} {N : Nat} {A : Array Nat} {K : Env → World → Prop} (hR : RegOK full N A) {is l : List Nat} {ops : List Oper} {env : Env} {w : World} (h1 : soloL isI isS hs full A l is [] = true) (h2 : is.map (full[·]?) = ops.map some) (h : xs Tryz.prog isI isS hs H full K ops env w) : xg Tryz.prog isI isS hs H full N K l env w :=
 xg_run hR h1 h2 (xs_monoH (fun _ _ hk => xg_end hk) h)
theorem xs_split {hs : List Nat} {H : World → Prop} {full : Array Oper} {K : Env → World → Prop} : ∀ {l1 l2 : List Oper} {env : Env} {w : World}, xs Tryz.prog isI isS hs H full K (l1 ++ l2) env w → xs Tryz.prog isI isS hs H full (fun env' w' => xs Tryz.prog isI isS hs H full K l2 env' w') l1 env w
 | [], _, _, _, h => h
 | _ :: _, _, _, _, ⟨g, hg, h1, h2⟩ => ⟨g, hg, fun hh => ⟨(h1 hh).1, acts_monoH (fun _ _ hx => xs_split hx) (h1 hh).2⟩, fun hh => xs_split (h2 hh)⟩
theorem free_run {hs : List Nat} {H : World → Prop} {full : Array Oper} {N : Nat} {A : Array Nat} {K : Env → World → Prop} (hR : RegOK full N A) {f : Nat} {fo : Oper} (hof : full[f]? = some fo) {post : List Nat} {opost : List Oper} (hp : post.map (full[·]?) = opost.map some) : ∀ {pre : List (Nat × Bool)} {opre : List (Oper × Bool)} {l : List Nat} {env : Env} {w : World}, freeB hs full A f post l pre = true → pre.map Prod.snd = opre.map Prod.snd → (pre.map Prod.fst).map (full[·]?) = (opre.map Prod.fst).map some → xf hs H full K fo opost opre env w → xg Tryz.prog isI isS hs H full N K l env w
 | [], [], l, env, w, h, _, _, hx => xg_k hR (show soloL isI isS hs full A l (f :: post) [] = true from h) (by rw [List.map_cons, List.map_cons, hof, hp]) hx
 | [], _ :: _, _, _, _, _, h, _, _ => by cases h
 | _ :: _, [], _, _, _, _, h, _, _ => by cases h
 | (i, b) :: pre, (o, b') :: opre, l, env, w, h, hb, hm, hx => by
  rw [List.map_cons, List.map_cons, List.cons.injEq] at hb
  obtain ⟨hb, hbs⟩ := hb
  have hb : b = b' := hb
  subst hb
  rw [List.map_cons, List.map_cons, List.map_cons, List.map_cons, List.cons.injEq] at hm
  obtain ⟨ho, hms⟩ := hm
  have ho : full[i]? = some o := ho
  obtain ⟨hx1, hx2⟩ := hx
  have one : freeB hs full A f post (l.erase i) pre = true → xs Tryz.prog isI isS hs H full (xg Tryz.prog isI isS hs H full N K (l.erase i)) [o] env w := fun hq => xs_monoH (fun _ _ hk => free_run hR hof hp hq hbs hms hk) hx2
  cases b with
  | false =>
   have h : ((soloB isI isS hs full A l i || l.filter (rdyB full l) == [i]) && freeB hs full A f post (l.erase i) pre) = true := h
   rw [Bool.and_eq_true, Bool.or_eq_true] at h
   rcases h.1 with h1 | h1
   ·exact xg_solo hR h1 ho (one h.2)
   ·have h1 : l.filter (rdyB full l) = [i] := by simpa using h1
    refine xg_all hR (List.length_pos_of_mem (List.mem_filter.1 (show i ∈ l.filter (rdyB full l) by rw [h1]; simp)).1) fun i' o' hi' ho' => ?_
    rw [h1, List.mem_singleton] at hi'
    subst hi'
    rw [ho] at ho'; obtain rfl := Option.some.inj ho'
    exact one h.2
  | true =>
   have h : ((l.filter (rdyB full l) == [i, f] || l.filter (rdyB full l) == [f, i]) && (soloL isI isS hs full A (l.erase f) (i :: pre.map Prod.fst ++ post) [] && freeB hs full A f post (l.erase i) pre)) = true := h
   rw [Bool.and_eq_true, Bool.and_eq_true, Bool.or_eq_true] at h
   obtain ⟨h1, h2, h3⟩ := h
   have hmem : ∀ i', i' ∈ l.filter (rdyB full l) → i' = i ∨ i' = f := fun i' hi' => by
    rcases h1 with h1 | h1
    ·have h1 : l.filter (rdyB full l) = [i, f] := by simpa using h1
     rw [h1] at hi'; simpa using hi'
    ·have h1 : l.filter (rdyB full l) = [f, i] := by simpa using h1
     rw [h1] at hi'
     have : i' = f ∨ i' = i := by simpa using hi'
     exact this.symm
   have hin : i ∈ l.filter (rdyB full l) := by
    rcases h1 with h1 | h1
    ·have h1 : l.filter (rdyB full l) = [i, f] := by simpa using h1
     rw [h1]; simp
    ·have h1 : l.filter (rdyB full l) = [f, i] := by simpa using h1
     rw [h1]; simp
   intro hn hc hw a ha
   refine xg_all hR (List.length_pos_of_mem (List.mem_filter.1 hin).1) (fun i' o' hi' ho' => ?_) hn hc hw a ha
   rcases hmem i' hi' with rfl | rfl
   ·rw [ho] at ho'; obtain rfl := Option.some.inj ho'
    exact one h3
   ·rw [hof] at ho'; obtain rfl := Option.some.inj ho'
    have hx3 := hx1 rfl hw
    refine xs_cons (K := xg Tryz.prog isI isS hs H full N K (l.erase i')) (rest := []) ?_
    refine xs_monoH (fun env' w' hk => ?_) (xs_split (l1 := [fo]) hx3)
    refine xg_k hR h2 (ops := (o :: opre.map Prod.fst) ++ opost) ?_ hk
    rw [List.map_append, List.map_append, hp, List.map_cons, List.map_cons, ho, hms]
theorem mk_cls {op : Op} (h : isMk op = true) : cls isI isS op = .w := by
 cases op <;> first | rfl | cases h
theorem readsT_no {op : Op} {t : Nat} (h : readsT op t = false) : Operand.tmp t ∉ op.operands.toList := fun hm => by
 unfold readsT at h
 rw [List.any_eq_false] at h
 exact h _ hm (Nat.beq_refl t)
theorem offF_spec {d : Nat} {op : Op} {o : Oper} (h : offF d op o = true) : o.dst ≠ some d ∧ ∀ t, Operand.tmp t ∈ op.operands.toList → o.dst ≠ some t := by
 unfold offF at h
 split at h
 ·rename_i t ht
  rw [Bool.not_eq_true', Bool.or_eq_false_iff] at h
  refine ⟨fun e => ?_, fun t' hm e => ?_⟩
  ·rw [ht] at e
   obtain rfl := Option.some.inj e
   rw [Nat.beq_refl] at h
   cases h.1
  ·rw [ht] at e
   obtain rfl := Option.some.inj e
   exact readsT_no h.2 hm
 ·rename_i ht
  exact ⟨fun e => (by rw [ht] at e; cases e), fun t _ e => (by rw [ht] at e; cases e)⟩
theorem run_xf {w0 w00 : Fm} {m : Nat} {ih : Cl} {res : Rs} {σ0 : Mem} {ρ0 : Pl} {ws : World} {nh : List Nt} {nm : List Mem} {k : Kr} (hr : res ≠ .no) (hih : ∀ F, CallS F ih) (hk : ∀ F, Mono F m res nh nm k) (hho : ∀ n ∈ nh, Hold σ0 nm n) (hM0 : MR w00 ρ0 σ0 ws) {hs0 : List Nat} {full post : List Oper} {d d2 : Tmp} {op : Op} {ty : TypeId} {pos : String} {af : Array Edge} (hm : isMk op = true) (hself : readsT op d = false) {K : Env → World → Prop}
  (hK : ∀ env' w' e1 σ1 ρ', k e1 σ1 = res → Up ρ0 ρ' → ER m ρ' e1 env' → MR w0 ρ' σ1 w' → K env' w') : ∀ {preB : List (Oper × Bool)} {e : En} {σ : Mem} {ρ : Pl} {env : Env} {w : World}, farF d op preB = true → Up ρ0 ρ → ER m ρ e env → MR w0 ρ σ w →
  (regF m hs0 full d d2 preB).f ih e σ (fun e σ => (orH m hs0 full ⟨some d, op, ty, pos, af, none⟩).f ih e σ fun e σ => (regH m hs0 full post).f ih e σ k) = res → xf hs0 (HH ρ0 nh) full.toArray K ⟨some d, op, ty, pos, af, none⟩ post preB env w
 | [], e, σ, ρ, env, w, hf, hu, hE, hM, h => by
  refine xs_monoH (fun env' w' hh => ?_) (s_regK hr (hih w0) (hk w0) hho hM0 (l := ⟨some d, op, ty, pos, af, none⟩ :: post) hu hE hM h)
  obtain ⟨e1, σ1, ρ1, k1, k2, k3, k4⟩ := hh
  exact hK _ _ e1 σ1 ρ1 k1 (hu.trans k2) k3 k4
 | (o, b) :: preB, e, σ, ρ, env, w, hf, hu, hE, hM, h => by
  have hfar : farF d op preB = true := by
   cases b with
   | true =>
    have hf : (offF d op o && preB.all (fun x => offF d op x.1) && farF d op preB) = true := hf
    rw [Bool.and_eq_true] at hf
    exact hf.2
   | false => exact hf
  refine ⟨fun hb hH => ?_, ?_⟩
  ·subst hb
   have hf : (offF d op o && preB.all (fun x => offF d op x.1) && farF d op preB) = true := hf
   rw [Bool.and_eq_true, Bool.and_eq_true] at hf
   have hoff : ∀ o' ∈ ((o, true) :: preB).map Prod.fst, offF d op o' = true := fun o' ho' => by
    rw [List.map_cons] at ho'
    rcases List.mem_cons.1 ho' with rfl | ho'
    ·exact hf.1.1
    ·obtain ⟨x, hx, rfl⟩ := List.mem_map.1 ho'
     exact List.all_eq_true.1 hf.1.2 x hx
   have h2 : (regF m hs0 full d d2 ((o, true) :: preB)).f ih (delE d (delE d2 e)) σ (fun e σ => (orH m hs0 full ⟨some d, op, ty, pos, af, none⟩).f ih e σ fun e σ => (regH m hs0 full post).f ih e σ k) = res := by
    show (orH m hs0 full o).f ih (delE d (delE d2 (delE d (delE d2 e)))) σ _ = res
    rw [delE_two]; exact h
   refine xs_monoH (fun env' w' hh => ?_) (early (preB := (o, true) :: preB) hr hih hk hho hM0 hm (mk_cls hm) (fun o' ho' => (offF_spec (hoff o' ho')).1) (fun o' ho' => (offF_spec (hoff o' ho')).2) (readsT_no hself) hu hE.del.del hM (by rw [elk_del, if_pos rfl]) hH h2)
   obtain ⟨e1, σ1, ρ1, k1, k2, k3, k4⟩ := hh
   exact hK _ _ e1 σ1 ρ1 k1 (hu.trans k2) k3 k4
  ·refine xs_monoH (fun env' w' hh => ?_) (s_regK hr (hih w0) (Mono.regF hr (hih w0) (Mono.op hr (hih w0) (Mono.reg hr (hih w0) (hk w0) post)) preB) hho hM0 (l := [o]) hu ((hE.del (d := d2)).del (d := d)) hM h)
   obtain ⟨e1, σ1, ρ1, k1, k2, k3, k4⟩ := hh
   exact run_xf hr hih hk hho hM0 hm hself hK hfar (hu.trans k2) k3 k4 k1
theorem wp_free {N : Nat} {id : Nat} {l : List Oper} {env : Env} {w : World} {a : Act} {K : Env → World → Prop} {Q : Exit → Act → World → Prop} (hs : List Nat) (H : World → Prop) (hd : dstOK N l.toArray = true) (hq : ancOK l.toArray (Region.before l.toArray) = true) (hw : H w.drew) (ha : Fits N env a)
  (hQ : ∀ a' env' w', Fits N env' a' → K env' w' → Q .normal a' w')
  (h : RegOK l.toArray N (Region.before l.toArray) → xg Tryz.prog isI isS hs H l.toArray N K (List.range l.toArray.size) env w.drew) : (Code.region id l.toArray true).wp Tryz.prog Q a w := by
 have hR := Eng.regOK hd hq
 have h' := h hR List.nodup_range (fun i o ho hi => absurd (List.mem_range.2 (Array.getElem?_eq_some_iff.1 ho).1) hi) hw a ha
 rw [List.length_range] at h'
 refine wp_region_any mixed ?_
 refine wpAny_of_sch (P := Tryz.prog) (isI := isI) (isS := isS) (hs := hs) (H := H) hR.a (K := fun a' w' => ∃ env', Fits N env' a' ∧ K env' w') (fun a' w' ⟨env', hf, ht⟩ => hQ a' env' w' hf ht) l.toArray.size _ (List.range l.toArray.size) a _ hw (by simp) (by simp) List.nodup_range (fun i => ?_) h'
 rw [List.mem_range]
 simp [Array.getD_eq_getD_getElem?, Array.getElem?_replicate]
 intro hi
 simp [hi]
end Rn
end Eng
end Go.Proofs.YtpfelapckcojjaaGreatDoor
namespace Go.Proofs.YtpfelapckcojjaaGreatDoor
open Go.RowKit
namespace Eng
namespace Rn
theorem bsT_inv {op : Op} {t : TypeId} (h : bsT op = some t) : ∃ n ps, op = .buildSlice t n ps ∧ isMk op = true := by
 unfold bsT at h
 split at h
 ·rename_i t' n ps
  split at h
  ·rename_i hn
   obtain rfl := Option.some.inj h
   exact ⟨n, ps, rfl, hn⟩
  ·cases h
 ·cases h
theorem isCv_inv {d : Nat} {t : TypeId} {op : Op} (h : isCv d t op = true) : ∃ u el, op = .convert t u (.tmp d) ∧ isS u = true ∧ isS t = false ∧ elemOf t = some (el, 1) ∧ kindOf el = some .u8 := by
 unfold isCv at h
 split at h
 ·rename_i s u x
  rw [Bool.and_eq_true, Bool.and_eq_true, Bool.and_eq_true, Bool.and_eq_true, Bool.not_eq_true'] at h
  obtain ⟨h1, h2, h3, h4, h5⟩ := h
  have h1 := Nat.eq_of_beq_eq_true h1
  have h2 := Nat.eq_of_beq_eq_true h2
  subst h1; subst h2
  split at h5
  ·rename_i el hel
   split at h5
   ·rename_i hk
    exact ⟨u, el, rfl, h3, h4, hel, hk⟩
   ·cases h5
  ·cases h5
 ·cases h
theorem farG_spec {d2 : Nat} : ∀ {l : List (Oper × Bool)}, farG d2 l = true → ∀ o ∈ l.map Prod.fst, o.dst ≠ some d2
 | [], _, o, ho => by cases ho
 | x :: l, h, o, ho => by
  have h : ((match x.1.dst with
   | some t => !Nat.beq t d2
   | none => true) && farG d2 l) = true := h
  rw [Bool.and_eq_true] at h
  rw [List.map_cons] at ho
  rcases List.mem_cons.1 ho with rfl | ho
  ·intro e
   have h1 := h.1
   rw [e] at h1
   simp at h1
  ·exact farG_spec h.2 o ho
def xf2 (hs : List Nat) (H : World → Prop) (full : Array Oper) (K : Env → World → Prop) (f g : Oper) (post : List Oper) : List (Oper × Bool) → Env → World → Prop
 | [], env, w => xs Tryz.prog isI isS hs H full K (f :: g :: post) env w
 | (o, b) :: pre, env, w => (b = true → H w → xs Tryz.prog isI isS hs H full (xf hs H full K g post ((o, b) :: pre)) [f] env w) ∧ xs Tryz.prog isI isS hs H full (xf2 hs H full K f g post pre) [o] env w
theorem freg_run {hs : List Nat} {H : World → Prop} {full : Array Oper} {N : Nat} {A : Array Nat} {K : Env → World → Prop} (hR : RegOK full N A) {f g : Nat} {fo go : Oper} (hof : full[f]? = some fo) (hog : full[g]? = some go) {post : List Nat} {opost : List Oper} (hp : post.map (full[·]?) = opost.map some) : ∀ {pre : List (Nat × Bool)} {opre : List (Oper × Bool)} {l : List Nat} {env : Env} {w : World}, freeG hs full A f g post l pre = true → pre.map Prod.snd = opre.map Prod.snd → (pre.map Prod.fst).map (full[·]?) = (opre.map Prod.fst).map some → xf2 hs H full K fo go opost opre env w → xg Tryz.prog isI isS hs H full N K l env w
 | [], [], l, env, w, h, _, _, hx => xg_k hR (show soloL isI isS hs full A l (f :: g :: post) [] = true from h) (by rw [List.map_cons, List.map_cons, List.map_cons, List.map_cons, hof, hog, hp]) hx
 | [], _ :: _, _, _, _, _, h, _, _ => by cases h
 | _ :: _, [], _, _, _, _, h, _, _ => by cases h
 | (i, b) :: pre, (o, b') :: opre, l, env, w, h, hb, hm, hx => by
  have hb0 := hb
  have hm0 := hm
  rw [List.map_cons, List.map_cons, List.cons.injEq] at hb
  obtain ⟨hb, hbs⟩ := hb
  have hb : b = b' := hb
  subst hb
  rw [List.map_cons, List.map_cons, List.map_cons, List.map_cons, List.cons.injEq] at hm
  obtain ⟨ho, hms⟩ := hm
  have ho : full[i]? = some o := ho
  obtain ⟨hx1, hx2⟩ := hx
  have one : freeG hs full A f g post (l.erase i) pre = true → xs Tryz.prog isI isS hs H full (xg Tryz.prog isI isS hs H full N K (l.erase i)) [o] env w := fun hq => xs_monoH (fun _ _ hk => freg_run hR hof hog hp hq hbs hms hk) hx2
  cases b with
  | false =>
   have h : ((soloB isI isS hs full A l i || l.filter (rdyB full l) == [i]) && freeG hs full A f g post (l.erase i) pre) = true := h
   rw [Bool.and_eq_true, Bool.or_eq_true] at h
   rcases h.1 with h1 | h1
   ·exact xg_solo hR h1 ho (one h.2)
   ·have h1 : l.filter (rdyB full l) = [i] := by simpa using h1
    refine xg_all hR (List.length_pos_of_mem (List.mem_filter.1 (show i ∈ l.filter (rdyB full l) by rw [h1]; simp)).1) fun i' o' hi' ho' => ?_
    rw [h1, List.mem_singleton] at hi'
    subst hi'
    rw [ho] at ho'; obtain rfl := Option.some.inj ho'
    exact one h.2
  | true =>
   have h : ((l.filter (rdyB full l) == [i, f] || l.filter (rdyB full l) == [f, i]) && (freeB hs full A g post (l.erase f) ((i, true) :: pre) && freeG hs full A f g post (l.erase i) pre)) = true := h
   rw [Bool.and_eq_true, Bool.and_eq_true, Bool.or_eq_true] at h
   obtain ⟨h1, h2, h3⟩ := h
   have hmem : ∀ i', i' ∈ l.filter (rdyB full l) → i' = i ∨ i' = f := fun i' hi' => by
    rcases h1 with h1 | h1
    ·have h1 : l.filter (rdyB full l) = [i, f] := by simpa using h1
     rw [h1] at hi'; simpa using hi'
    ·have h1 : l.filter (rdyB full l) = [f, i] := by simpa using h1
     rw [h1] at hi'
     have : i' = f ∨ i' = i := by simpa using hi'
     exact this.symm
   have hin : i ∈ l.filter (rdyB full l) := by
    rcases h1 with h1 | h1
    ·have h1 : l.filter (rdyB full l) = [i, f] := by simpa using h1
     rw [h1]; simp
    ·have h1 : l.filter (rdyB full l) = [f, i] := by simpa using h1
     rw [h1]; simp
   intro hn hc hw a ha
   refine xg_all hR (List.length_pos_of_mem (List.mem_filter.1 hin).1) (fun i' o' hi' ho' => ?_) hn hc hw a ha
   rcases hmem i' hi' with rfl | rfl
   ·rw [ho] at ho'; obtain rfl := Option.some.inj ho'
    exact one h3
   ·rw [hof] at ho'; obtain rfl := Option.some.inj ho'
    exact xs_monoH (fun _ _ hk => free_run hR hog hp h2 hb0 hm0 hk) (hx1 rfl hw)
def GV (t u el : TypeId) (cs : Array Value) (n : Nat) (r : List Nat) : Prop := (∀ c ∈ r, c < 256) ∧ r.length ≤ maxLen ∧ ∀ (b : Nat) (w : World), Bk w b el cs → (convert t u (.slice (some ⟨b, 0, none⟩) n n)).run Tryz.prog w = .ok (.string (su (uOf r))) w
theorem GV.one {t u el : TypeId} {cs : Array Value} {n : Nat} {r r' : List Nat} (h : GV t u el cs n r) (h' : GV t u el cs n r') {b : Nat} {w : World} (hB : Bk w b el cs) : su (uOf r) = su (uOf r') := by
 have h1 := h.2.2 b w hB
 rw [h'.2.2 b w hB] at h1
 injection h1 with h1
 injection h1 with h1
 exact h1.symm
theorem Bk.cellAt {w : World} {b : Nat} {el : TypeId} {cs : Array Value} (h : Bk w b el cs) {j : Nat} {v : Value} (hv : cs[j]? = some v) : w.cell? ⟨b, j, none⟩ = some v := (h.cell j).trans hv
theorem srK_lx {σ : Mem} {z id z' j n q : Nat} {k : Nat → List SV → Rs} : srK σ z (.v (.lx id z' j n q)) k = rdK σ id (Nat.mul j z') (Nat.mul n z) fun l => k n l := rfl
theorem g_inv {m : Nat} {ih : Cl} {res : Rs} (hr : res ≠ .no) {hs0 : List Nat} {full : List Oper} {c : Kr} {e : En} {σ : Mem} {ρ : Pl} {d d2 : Tmp} {t u el : TypeId} {ty : TypeId} {pos : String} {af : Array Edge} {id n : Nat} {ob : Ob} {l : List SV} {vs : List Value} (hS : isS u = true) (hSt : isS t = false) (hel : elemOf t = some (el, 1)) (hk8 : kindOf el = some .u8) (hmem : memb hs0 (some d2) = false)
  (hd : ∀ a, elk m e d = some a → a = .v (.lx id 1 0 n n)) (hob : oget σ id = some ob) (hl : ∀ o, tget ob.d o ob.m = l[o]?) (hv : SRs ρ l vs) (hlen : vs.length = n)
  (h : (orH m hs0 full ⟨some d2, .convert t u (.tmp d), ty, pos, af, none⟩).f ih e σ c = res) : ∃ r e', GV t u el vs.toArray n r ∧ c e' σ = res ∧ e'.hs = e.hs ∧ e'.ms = e.ms ∧ ∀ x a, elk m e' x = some a → (some d2 = some x ∧ a = .v (.s r)) ∨ (some d2 ≠ some x ∧ elk m e x = some a) := by
 have hcl : cls isI isS (.convert t u (.tmp d)) = .r := by simp [cls, isI_str hS, hS]
 have hku : kindOf u = none := by
  cases hk : kindOf u with
  | none => rfl
  | some k =>
   have h1 := isI_str hS
   unfold isI at h1
   rw [hk] at h1
   cases h1
 unfold orH at h
 split at h
 ·exact absurd h.symm hr
 ·dsimp only at h
  rw [hcl] at h
  dsimp only at h
  rw [hmem] at h
  have h : (cvW m t u (.tmp d)).f ih e σ (fun v σ' => (puW m (some d2)).f e v fun e => c e σ') = res := h
  clear hmem
  have hcv : cvW m t u (.tmp d) = ⟨fun _ e σ c => (gtW m (.tmp d)).f e fun v => srK σ 1 v fun _ l => byK l fun l => okK (Nat.ble l.length maxLen) (c (.v (.s l)) σ)⟩ := by
   unfold cvW
   simp only [hku, hS, hSt, hel, hk8]
  rw [hcv] at h
  obtain ⟨a, h1, h2⟩ := gtT_inv hr (show (gtT m d).f e _ = res from h)
  have ha := hd a h1
  subst ha
  rw [srK_lx] at h2
  obtain ⟨ob', l', g3, g4, g5, g6⟩ := rdK_inv hr h2
  have e1 : Nat.mul 0 1 = 0 := rfl
  have e2 : Nat.mul n 1 = n := Nat.mul_one n
  rw [e1, e2] at g5
  rw [e2] at g4
  have hll : l.length = n := by rw [← hlen, hv.len]
  have hl' : l' = l := by
   apply List.ext_getElem?
   intro i
   by_cases hi : i < n
   ·rw [← g5 i hi, Nat.zero_add]
    unfold cget
    rw [hob]
    exact hl i
   ·rw [List.getElem?_eq_none (by omega), List.getElem?_eq_none (by omega)]
  subst hl'
  obtain ⟨r, f1, f2, f3, f4⟩ := byK_inv hr g6 hv
  obtain ⟨hb, f5⟩ := okK_inv f4 hr
  obtain ⟨e', k1, k3, k4, k2⟩ := puW_inv f5
  refine ⟨r, e', ⟨f2, Nat.le_of_ble_eq_true hb, fun b w hB => ?_⟩, k1, k3, k4, k2⟩
  obtain ⟨hus, _⟩ := elemOf_inv hel
  have hrl : (uOf r).length = n := by
   have h0 : (uOf r).length = r.length := List.length_map _
   omega
  have := run_convert_bytes_back (P := Tryz.prog) w t u el ⟨b, 0, none⟩ n (uOf r) hus (kind_spec hk8) (str_spec hS) (fun i hi => by
   rw [Addr.add_lit, Nat.zero_add]
   refine hB.cellAt ?_
   rw [f3]
   simp [List.getElem?_eq_getElem hi])
  rw [hrl] at this
  exact this
theorem ER.delput {m : Nat} {ρ : Pl} {e : En} {env : Env} {d : Nat} {v : Value} (h : ER m ρ e env) : ER m ρ (delE d e) (Eng.put env (some d) v) := fun t a ha => by
 rw [elk_del] at ha
 split at ha
 ·cases ha
 ·rename_i hne
  obtain ⟨u, h1, h2⟩ := h t a ha
  exact ⟨u, by rw [look_put_ne (fun hh => hne (Option.some.inj hh))]; exact h1, h2⟩
theorem look_put_eq {env : Env} {d : Nat} {v : Value} : look (Eng.put env (some d) v) d = some v := by simp [Eng.put, look_cons]
theorem alloc_inj {w : World} {cs cs' : Array Value} {el el' : TypeId} (h : w.alloc (.cells cs el) = w.alloc (.cells cs' el')) : cs = cs' ∧ el = el' := by
 have h1 : Blk (w.alloc (.cells cs el)) w.heap.size el cs := Blk.new _ _ _
 have h2 : Blk (w.alloc (.cells cs' el')) w.heap.size el' cs' := Blk.new _ _ _
 rw [← h] at h2
 have h3 := Eq.trans h1.symm h2
 injection h3 with h3
 injection h3 with h4 h5
 exact ⟨h4, h5⟩
section
variable {w0 : Fm} {m : Nat} {ih : Cl} {res : Rs} (hr : res ≠ .no) {hs0 : List Nat} {full : List Oper} {d : Tmp} {t : TypeId} {nn : Nat} {ps : Array (Nat × Operand)} {ty : TypeId} {pos : String} {af : Array Edge} (hm : isMk (.buildSlice t nn ps) = true) {el0 : TypeId} (hel : elemOf t = some (el0, 1)) {ρ : Pl} {σ : Mem} {w : World} (hM : MR w0 ρ σ w) {el : TypeId} {cs : Array Value} {n : Nat} (hE1 : Ext w (w.alloc (.cells cs el))) {env0 : Env} (hrun : (execOp (ev env0) ⟨some d, .buildSlice t nn ps, ty, pos, af, none⟩).run Tryz.prog w = .ok (.value (.slice (some ⟨w.heap.size, 0, none⟩) n n)) (w.alloc (.cells cs el)))
include hr hm hel hM hE1 hrun
theorem lateF {ρ1 : Pl} {σ1 : Mem} {w' : World} {e1 : En} {env' : Env} (c3 : ER m ρ1 e1 env') (c4 : MR (Fm.out hM hE1) ρ1 σ1 w') (hld : look env' d = some (.slice (some ⟨w.heap.size, 0, none⟩) n n)) (hops : ∀ x ∈ (Op.buildSlice t nn ps).operands.toList, evo env0 x = evo env' x) {c : Kr} (c1 : (orH m hs0 full ⟨some d, .buildSlice t nn ps, ty, pos, af, none⟩).f ih e1 σ1 c = res) :
  ∃ l vs e3 σ2 ob, c e3 σ2 = res ∧ ER m (ρ1 ++ [(⟨w.heap.size, n, 1⟩ : At)]) e3 env' ∧ MR w0 (ρ1 ++ [(⟨w.heap.size, n, 1⟩ : At)]) σ2 w' ∧ (∀ a, elk m e3 d = some a → a = .v (.lx σ1.n 1 0 n n)) ∧ oget σ2 σ1.n = some ob ∧ (∀ o, tget ob.d o ob.m = l[o]?) ∧ SRs ρ1 l vs ∧ cs = vs.toArray ∧ vs.length = n ∧ el = el0 ∧ Bk w' w.heap.size el cs := by
 obtain ⟨g1, g2, g3⟩ := hM.back hE1 (by simp) c4
 obtain ⟨el', l', vs', cs', n', z', av', mv', a1, a2, a3, a4, a5, a7, a6⟩ := mk_inv (d := d) (ty := ty) (pos := pos) (af := af) hr hm c3 (mkH_inv hr hm c1)
 obtain ⟨k1, k2, k3, k4, k5⟩ := a7 t nn ps rfl
 rw [hel] at k1
 injection k1 with k1
 injection k1 with k1 k6
 subst k1; subst k6; subst k4; subst k5
 obtain ⟨_, r3⟩ := a6 env0 w hops
 rw [hrun] at r3
 injection r3 with hv hw
 injection hv with hv
 injection hv with _ hn _
 subst hn
 obtain ⟨hcs, hee⟩ := alloc_inj hw
 subst hcs; subst hee
 have hB : Bk w' w.heap.size el cs := g3 _ _ (Blk.bk (Blk.new _ _ _))
 obtain ⟨ob, σ2, q1, q2, q3, q4, q5, q6, q7⟩ := newK_inv hr a1
 have hM2 := g1.more (S := noneB) n 1 a4 q1 q2 (fun o ho => by rw [q4 o]; exact List.getElem?_eq_none (by omega)) (fun o x hx => by
  rw [q4 o] at hx
  obtain ⟨v, h3, h4⟩ := a2.get o x hx
  exact ⟨v, a3 o v h3, h4⟩) q5 q6 hB (Fr.refl _ _) (fun id o p s1 s2 => ⟨g2 id o p s1 s2, fun hh => hh⟩) (fun b hh => hh.elim) (.inl hM.old.size)
 obtain ⟨e2, t1, _, _, t4⟩ := puW_inv q7
 have hlast : (ρ1 ++ [(⟨w.heap.size, n, 1⟩ : At)])[σ1.n]? = some ⟨w.heap.size, n, 1⟩ := by rw [← g1.len]; simp
 refine ⟨l', vs', ⟨e2.vs, e2.ts, e2.hs, σ2 :: e2.ms⟩, σ2, ob, t1, fun x a ha => ?_, hM2, fun a ha => ?_, q5, q4, a2, k2, by rw [k3, Nat.mul_one], rfl, hB⟩
 ·rcases t4 x a ha with ⟨hh, rfl⟩ | ⟨hh, ha⟩
  ·injection hh with hh
   subst hh
   exact ⟨_, hld, a5 _ _ _ hlast⟩
  ·obtain ⟨v, s1, s2⟩ := c3 x a ha
   exact ⟨v, s1, s2.up (Up.snoc _ _)⟩
 ·rcases t4 d a ha with ⟨_, rfl⟩ | ⟨hh, _⟩
  ·rfl
  ·exact absurd rfl hh
variable (hih : ∀ F, CallS F ih) {w00 : Fm} {ρ0 : Pl} {σ0 : Mem} {ws : World} {nh : List Nt} {nm : List Mem} {k : Kr} (hk : ∀ F, Mono F m res nh nm k) (hho : ∀ n ∈ nh, Hold σ0 nm n) (hM0 : MR w00 ρ0 σ0 ws) {post : List Oper} {d2 : Tmp} {u : TypeId} {ty2 : TypeId} {pos2 : String} {af2 : Array Edge} (hS : isS u = true) (hSt : isS t = false) (hk8 : kindOf el0 = some .u8) (hmem : memb hs0 (some d2) = false) {K : Env → World → Prop}
 (hK : ∀ env' w' e1 σ1 ρ', k e1 σ1 = res → Up ρ0 ρ' → ER m ρ' e1 env' → MR w0 ρ' σ1 w' → K env' w')
include hih hk hho hM0 hS hSt hk8 hmem hK
theorem stC {preB : List (Oper × Bool)} (hoff : ∀ o ∈ preB.map Prod.fst, offF d (.buildSlice t nn ps) o = true) (hoff2 : ∀ o ∈ preB.map Prod.fst, o.dst ≠ some d2) {e : En} {σ1 : Mem} {ρ1 : Pl} {env : Env} {w' : World} {r : List Nat} (hu : Up ρ0 ρ1) (hE : ER m ρ1 e env) (c4 : MR (Fm.out hM hE1) ρ1 σ1 w') (hld : look env d = some (.slice (some ⟨w.heap.size, 0, none⟩) n n)) (hld2 : look env d2 = some (.string (su (uOf r)))) (hops : ∀ x ∈ (Op.buildSlice t nn ps).operands.toList, evo env0 x = evo env x) (hG : GV t u el cs n r)
  (h : (regF m hs0 full d d2 preB).f ih e σ1 (fun e σ => (orH m hs0 full ⟨some d, .buildSlice t nn ps, ty, pos, af, none⟩).f ih e σ fun e σ => (orH m hs0 full ⟨some d2, .convert t u (.tmp d), ty2, pos2, af2, none⟩).f ih e σ fun e σ => (regH m hs0 full post).f ih e σ k) = res) :
  xs Tryz.prog isI isS hs0 (HH ρ0 nh) full.toArray K (preB.map Prod.fst ++ post) env w' := by
 refine xs_app2 ?_
 refine xs_monoH (fun env' w'' hh => ?_) (xs_keep (s_regF hr (hih _) (Mono.op hr (hih _) (Mono.op hr (hih _) (Mono.reg hr (hih _) (hk _) post))) hho hM0 hu hE c4 h))
 obtain ⟨⟨e2, σ2, ρ2, b1, b2, b3, b4⟩, b5⟩ := hh
 have hl : ∀ x, (∀ o ∈ preB.map Prod.fst, o.dst ≠ some x) → look env' x = look env x := b5
 have hld' := (hl d fun o ho => (offF_spec (hoff o ho)).1).trans hld
 have hld2' := (hl d2 hoff2).trans hld2
 have hops' : ∀ x ∈ (Op.buildSlice t nn ps).operands.toList, evo env0 x = evo env' x := fun x hx => (hops x hx).trans (by
  cases x with
  | tmp q => exact (hl q fun o ho => (offF_spec (hoff o ho)).2 q hx).symm
  | _ => rfl)
 obtain ⟨l, vs, e3, σ3, ob, c1, c2, c3, c5, c6, c7, c8, c9, c10, c11, c12⟩ := lateF hr hm hel hM hE1 hrun b3 b4 hld' hops' b1
 obtain ⟨r', e4, q1, q2, q3, q4, q5⟩ := g_inv hr hS hSt hel hk8 hmem c5 c6 c7 c8 c10 c1
 subst c11; subst c9
 have hrr := q1.one hG c12
 have hE4 : ER m (ρ2 ++ [(⟨w.heap.size, n, 1⟩ : At)]) e4 env' := fun x a ha => by
  rcases q5 x a ha with ⟨hh, rfl⟩ | ⟨_, ha⟩
  ·injection hh with hh
   subst hh
   exact ⟨_, hld2', by rw [← hrr]; exact ⟨rfl, q1.1, q1.2.1⟩⟩
  ·exact c2 x a ha
 have hu2 : Up ρ0 (ρ2 ++ [(⟨w.heap.size, n, 1⟩ : At)]) := (hu.trans b2).trans (Up.snoc _ _)
 refine xs_monoH (fun env'' w3 hh => ?_) (s_regK hr (hih _) (hk _) hho hM0 hu2 hE4 c3 q2)
 obtain ⟨e5, σ5, ρ5, v1, v2, v3, v4⟩ := hh
 exact hK _ _ e5 σ5 ρ5 v1 (hu2.trans v2) v3 v4
theorem stB (hself2 : readsT (.buildSlice t nn ps) d2 = false) (hne : d ≠ d2) : ∀ {preB : List (Oper × Bool)} (_ : ∀ o ∈ preB.map Prod.fst, offF d (.buildSlice t nn ps) o = true) (_ : ∀ o ∈ preB.map Prod.fst, o.dst ≠ some d2) {e : En} {σ1 : Mem} {ρ1 : Pl} {env : Env} {w' : World} (_ : Up ρ0 ρ1) (_ : ER m ρ1 e env) (_ : MR (Fm.out hM hE1) ρ1 σ1 w') (_ : look env d = some (.slice (some ⟨w.heap.size, 0, none⟩) n n)) (_ : ∀ x ∈ (Op.buildSlice t nn ps).operands.toList, evo env0 x = evo env x)
  (_ : (regF m hs0 full d d2 preB).f ih e σ1 (fun e σ => (orH m hs0 full ⟨some d, .buildSlice t nn ps, ty, pos, af, none⟩).f ih e σ fun e σ => (orH m hs0 full ⟨some d2, .convert t u (.tmp d), ty2, pos2, af2, none⟩).f ih e σ fun e σ => (regH m hs0 full post).f ih e σ k) = res),
  xf hs0 (HH ρ0 nh) full.toArray K ⟨some d2, .convert t u (.tmp d), ty2, pos2, af2, none⟩ post preB env w'
 | [], hoff, hoff2, e, σ1, ρ1, env, w', hu, hE, c4, hld, hops, h => by
  obtain ⟨l, vs, e3, σ3, ob, c1, c2, c3, _⟩ := lateF hr hm hel hM hE1 hrun hE c4 hld hops (show (orH m hs0 full ⟨some d, .buildSlice t nn ps, ty, pos, af, none⟩).f ih e σ1 (fun e σ => (orH m hs0 full ⟨some d2, .convert t u (.tmp d), ty2, pos2, af2, none⟩).f ih e σ fun e σ => (regH m hs0 full post).f ih e σ k) = res from h)
  have hu2 : Up ρ0 (ρ1 ++ [(⟨w.heap.size, n, 1⟩ : At)]) := hu.trans (Up.snoc _ _)
  refine xs_monoH (fun env'' w3 hh => ?_) (s_regK hr (hih _) (hk _) hho hM0 (l := ⟨some d2, .convert t u (.tmp d), ty2, pos2, af2, none⟩ :: post) hu2 c2 c3 c1)
  obtain ⟨e5, σ5, ρ5, v1, v2, v3, v4⟩ := hh
  exact hK _ _ e5 σ5 ρ5 v1 (hu2.trans v2) v3 v4
 | (o, b) :: preB, hoff, hoff2, e, σ1, ρ1, env, w', hu, hE, c4, hld, hops, h => by
  refine ⟨fun _ _ => ?_, ?_⟩
  ·
   obtain ⟨envd, wd, ed, σd, ρd, d1, _, d3, d4, d5⟩ := dryF hr (hih _) hE c4 h
   have hops' : ∀ x ∈ (Op.buildSlice t nn ps).operands.toList, evo env0 x = evo envd x := fun x hx => (hops x hx).trans (by
    cases x with
    | tmp q => exact (d5 q fun o ho => (offF_spec (hoff o ho)).2 q hx).symm
    | _ => rfl)
   obtain ⟨l, vs, e3, σ3, ob, a1, _, _, a5, a6, a7, a8, a9, a10, a11, _⟩ := lateF hr hm hel hM hE1 hrun d3 d4 ((d5 d fun o ho => (offF_spec (hoff o ho)).1).trans hld) hops' d1
   obtain ⟨r, _, hG, _⟩ := g_inv hr hS hSt hel hk8 hmem a5 a6 a7 a8 a10 a1
   rw [← a11, ← a9] at hG
   obtain ⟨_, _, g3⟩ := hM.back hE1 (by simp) c4
   have hB : Bk w' w.heap.size el cs := g3 _ _ (Blk.bk (Blk.new _ _ _))
   have hcl : clsO isI isS hs0 ⟨some d2, .convert t u (.tmp d), ty2, pos2, af2, none⟩ = .r := by
    have : cls isI isS (.convert t u (.tmp d)) = .r := by simp [cls, isI_str hS, hS]
    simp [clsO, this, hmem]
   have hev : evo env (.tmp d) = some (.slice (some ⟨w.heap.size, 0, none⟩) n n) := hld
   refine x_gen rfl (by simp [opsOK, Op.operands, hev]) ?_
   rw [hcl]
   refine ⟨.string (su (uOf r)), by simp [execOp, ev_of hev, hG.2.2 _ _ hB], ?_⟩
   have h2 : (regF m hs0 full d d2 ((o, b) :: preB)).f ih (delE d (delE d2 e)) σ1 (fun e σ => (orH m hs0 full ⟨some d, .buildSlice t nn ps, ty, pos, af, none⟩).f ih e σ fun e σ => (orH m hs0 full ⟨some d2, .convert t u (.tmp d), ty2, pos2, af2, none⟩).f ih e σ fun e σ => (regH m hs0 full post).f ih e σ k) = res := by
    show (orH m hs0 full o).f ih (delE d (delE d2 (delE d (delE d2 e)))) σ1 _ = res
    rw [delE_two]; exact h
   refine stC hr hm hel hM hE1 hrun hih hk hho hM0 hS hSt hk8 hmem hK (preB := (o, b) :: preB) hoff hoff2 (e := delE d (delE d2 e)) hu hE.delput.del c4 ?_ look_put_eq (fun x hx => (hops x hx).trans ?_) hG h2
   ·exact (look_put_ne (fun hh => hne (Option.some.inj hh).symm)).trans hld
   ·cases x with
    | tmp q => exact (look_put_ne (fun hh => readsT_no hself2 (by rw [Option.some.inj hh]; exact hx))).symm
    | _ => rfl
  ·refine xs_monoH (fun env' w'' hh => ?_) (xs_keep (s_regK hr (hih _) (Mono.regF hr (hih _) (Mono.op hr (hih _) (Mono.op hr (hih _) (Mono.reg hr (hih _) (hk _) post))) preB) hho hM0 (l := [o]) hu ((hE.del (d := d2)).del (d := d)) c4 h))
   obtain ⟨⟨e2, σ2, ρ2, k1, k2, k3, k4⟩, k5⟩ := hh
   have ho : o ∈ ((o, b) :: preB).map Prod.fst := by rw [List.map_cons]; exact List.mem_cons_self
   have hl : ∀ x, o.dst ≠ some x → look env' x = look env x := fun x hx => k5 x fun o' ho' => by rw [List.mem_singleton] at ho'; subst ho'; exact hx
   exact stB hself2 hne (preB := preB) (fun o' ho' => hoff o' (by rw [List.map_cons]; exact List.mem_cons_of_mem _ ho')) (fun o' ho' => hoff2 o' (by rw [List.map_cons]; exact List.mem_cons_of_mem _ ho')) (hu.trans k2) k3 k4 ((hl d (offF_spec (hoff o ho)).1).trans hld) (fun x hx => (hops x hx).trans (by
    cases x with
    | tmp q => exact (hl q ((offF_spec (hoff o ho)).2 q hx)).symm
    | _ => rfl)) k1
end
theorem run_xf2 {w0 w00 : Fm} {m : Nat} {ih : Cl} {res : Rs} {σ0 : Mem} {ρ0 : Pl} {ws : World} {nh : List Nt} {nm : List Mem} {k : Kr} (hr : res ≠ .no) (hih : ∀ F, CallS F ih) (hk : ∀ F, Mono F m res nh nm k) (hho : ∀ n ∈ nh, Hold σ0 nm n) (hM0 : MR w00 ρ0 σ0 ws) {hs0 : List Nat} {full post : List Oper} {d d2 : Tmp} {t u el0 : TypeId} {nn : Nat} {ps : Array (Nat × Operand)} {ty ty2 : TypeId} {pos pos2 : String} {af af2 : Array Edge} (hm : isMk (.buildSlice t nn ps) = true) (hel : elemOf t = some (el0, 1)) (hS : isS u = true) (hSt : isS t = false) (hk8 : kindOf el0 = some .u8) (hmem : memb hs0 (some d2) = false) (hself : readsT (.buildSlice t nn ps) d = false) (hself2 : readsT (.buildSlice t nn ps) d2 = false) (hne : d ≠ d2) {K : Env → World → Prop}
  (hK : ∀ env' w' e1 σ1 ρ', k e1 σ1 = res → Up ρ0 ρ' → ER m ρ' e1 env' → MR w0 ρ' σ1 w' → K env' w') : ∀ {preB : List (Oper × Bool)} {e : En} {σ : Mem} {ρ : Pl} {env : Env} {w : World}, farF d (.buildSlice t nn ps) preB = true → (∀ o ∈ preB.map Prod.fst, o.dst ≠ some d2) → Up ρ0 ρ → ER m ρ e env → MR w0 ρ σ w →
  (regF m hs0 full d d2 preB).f ih e σ (fun e σ => (orH m hs0 full ⟨some d, .buildSlice t nn ps, ty, pos, af, none⟩).f ih e σ fun e σ => (orH m hs0 full ⟨some d2, .convert t u (.tmp d), ty2, pos2, af2, none⟩).f ih e σ fun e σ => (regH m hs0 full post).f ih e σ k) = res → xf2 hs0 (HH ρ0 nh) full.toArray K ⟨some d, .buildSlice t nn ps, ty, pos, af, none⟩ ⟨some d2, .convert t u (.tmp d), ty2, pos2, af2, none⟩ post preB env w
 | [], e, σ, ρ, env, w, hf, hf2, hu, hE, hM, h => by
  refine xs_monoH (fun env' w' hh => ?_) (s_regK hr (hih w0) (hk w0) hho hM0 (l := ⟨some d, .buildSlice t nn ps, ty, pos, af, none⟩ :: ⟨some d2, .convert t u (.tmp d), ty2, pos2, af2, none⟩ :: post) hu hE hM h)
  obtain ⟨e1, σ1, ρ1, k1, k2, k3, k4⟩ := hh
  exact hK _ _ e1 σ1 ρ1 k1 (hu.trans k2) k3 k4
 | (o, b) :: preB, e, σ, ρ, env, w, hf, hf2, hu, hE, hM, h => by
  have hfar : farF d (.buildSlice t nn ps) preB = true := by
   cases b with
   | true =>
    have hf : (offF d (.buildSlice t nn ps) o && preB.all (fun x => offF d (.buildSlice t nn ps) x.1) && farF d (.buildSlice t nn ps) preB) = true := hf
    rw [Bool.and_eq_true] at hf
    exact hf.2
   | false => exact hf
  refine ⟨fun hb hH => ?_, ?_⟩
  ·subst hb
   have hf : (offF d (.buildSlice t nn ps) o && preB.all (fun x => offF d (.buildSlice t nn ps) x.1) && farF d (.buildSlice t nn ps) preB) = true := hf
   rw [Bool.and_eq_true, Bool.and_eq_true] at hf
   have hoff : ∀ o' ∈ ((o, true) :: preB).map Prod.fst, offF d (.buildSlice t nn ps) o' = true := fun o' ho' => by
    rw [List.map_cons] at ho'
    rcases List.mem_cons.1 ho' with rfl | ho'
    ·exact hf.1.1
    ·obtain ⟨x, hx, rfl⟩ := List.mem_map.1 ho'
     exact List.all_eq_true.1 hf.1.2 x hx
   have h2 : (regF m hs0 full d d2 ((o, true) :: preB)).f ih (delE d (delE d2 e)) σ (fun e σ => (orH m hs0 full ⟨some d, .buildSlice t nn ps, ty, pos, af, none⟩).f ih e σ fun e σ => (orH m hs0 full ⟨some d2, .convert t u (.tmp d), ty2, pos2, af2, none⟩).f ih e σ fun e σ => (regH m hs0 full post).f ih e σ k) = res := by
    show (orH m hs0 full o).f ih (delE d (delE d2 (delE d (delE d2 e)))) σ _ = res
    rw [delE_two]; exact h
   obtain ⟨envd, wd, ed, σd, ρd, d1, _, d3, _, d5⟩ := dryF hr (hih w0) hE.del.del hM h2
   obtain ⟨el, l, vs, cs, n, z, av, mv, _, _, _, _, _, b7, b6⟩ := mk_inv (d := d) (ty := ty) (pos := pos) (af := af) hr hm d3 (mkH_inv hr hm d1)
   obtain ⟨_, _, _, _, k5⟩ := b7 t nn ps rfl
   subst k5
   obtain ⟨r1, r2⟩ := b6 env w (fun x hxm => by
    cases x with
    | tmp q => exact (d5 q fun o' ho' => (offF_spec (hoff o' ho')).2 q hxm).symm
    | _ => rfl)
   have hE1 : Ext w (w.alloc (.cells cs el)) := Fr.alloc _ _ _
   refine xw r1 rfl r2 ?_ (HH.ext hH hE1)
   exact stB hr hm hel hM hE1 r2 hih hk hho hM0 hS hSt hk8 hmem hK hself2 hne (preB := (o, true) :: preB) hoff hf2 hu ((hE.del (d := d2)).delput (d := d)) (hM.keep hE1) look_put_eq (fun x hx => by
    cases x with
    | tmp q => exact (look_put_ne (fun hh => readsT_no hself (by rw [Option.some.inj hh]; exact hx))).symm
    | _ => rfl) h2
  ·refine xs_monoH (fun env' w' hh => ?_) (s_regK hr (hih w0) (Mono.regF hr (hih w0) (Mono.op hr (hih w0) (Mono.op hr (hih w0) (Mono.reg hr (hih w0) (hk w0) post))) preB) hho hM0 (l := [o]) hu ((hE.del (d := d2)).del (d := d)) hM h)
   obtain ⟨e1, σ1, ρ1, k1, k2, k3, k4⟩ := hh
   exact run_xf2 hr hih hk hho hM0 hm hel hS hSt hk8 hmem hself hself2 hne hK hfar (fun o' ho' => hf2 o' (by rw [List.map_cons]; exact List.mem_cons_of_mem _ ho')) (hu.trans k2) k3 k4 k1
end Rn
end Eng
end Go.Proofs.YtpfelapckcojjaaGreatDoor
namespace Go.Proofs.YtpfelapckcojjaaGreatDoor
open Go.RowKit
namespace Eng
namespace Rn
def St (w0 : Fm) (N m : Nat) (ρ : Pl) (e : En) (σ : Mem) (a : Act) (w : World) : Prop := ∃ ρ' env, Up ρ ρ' ∧ ER m ρ' e env ∧ MR w0 ρ' σ w ∧ Fits N env a
theorem St.up {N m : Nat} {ρ ρ' : Pl} {e : En} {σ : Mem} {a : Act} {w0 : Fm} {w : World} (h : St w0 N m ρ' e σ a w) (hu : Up ρ ρ') : St w0 N m ρ e σ a w := by
 obtain ⟨r, env, h1, h2⟩ := h
 exact ⟨r, env, hu.trans h1, h2⟩
def exM : Ex → Exit → Prop
 | .nrm, .normal => True
 | .ext n, .exit k => n = k
 | .gto n, .goto k => n = k
 | .ret, .ret => True
 | _, _ => False
def Post (w0 : Fm) (N m : Nat) (ρ : Pl) (res : Rs) : Exit → Act → World → Prop := fun ex a w => ∃ x e σ, res = .mk x e σ ∧ exM x ex ∧ St w0 N m ρ e σ a w
theorem frOK_inv {hs : List Nat} {ops : Array Oper} {A : Array Nat} {f : Nat} {x : Fr0} (h : frOK hs ops A f = some x) : ∃ d op ty pos af pre post opre opost, ops[f]? = some ⟨some d, op, ty, pos, af, none⟩ ∧ isMk op = true ∧ readsT op d = false ∧ freeB hs ops A f post (List.range ops.size) pre = true ∧ opsAt ops.toList (pre.map Prod.fst) = some opre ∧ opsAt ops.toList post = some opost ∧ farF d op (opre.zip (pre.map Prod.snd)) = true ∧ x = ⟨hs, opre.zip (pre.map Prod.snd), d, d, ⟨some d, op, ty, pos, af, none⟩, opost⟩ := by
 unfold frOK at h
 split at h
 ·rename_i d op ty pos af hof
  split at h
  ·rename_i pre post hm hp
   rw [Bool.and_eq_true, Bool.not_eq_true'] at hm
   split at h
   ·rename_i opre opost h1 h2 h3
    split at h
    ·rename_i h4
     exact ⟨d, op, ty, pos, af, pre, post, opre, opost, hof, hm.1, hm.2, h1, h2, h3, h4, (Option.some.inj h).symm⟩
    ·cases h
   ·cases h
  ·cases h
 ·cases h
theorem frOG_inv {hs : List Nat} {ops : Array Oper} {A : Array Nat} {f : Nat} {x : Fr0} (h : frOG hs ops A f = some x) : ∃ d d2 op op2 t ty pos af ty2 pos2 af2 g pre post opre opost, ops[f]? = some ⟨some d, op, ty, pos, af, none⟩ ∧ bsT op = some t ∧ readsT op d = false ∧ ops[g]? = some ⟨some d2, op2, ty2, pos2, af2, none⟩ ∧ isCv d t op2 = true ∧ d ≠ d2 ∧ readsT op d2 = false ∧ memb x.hs (some d2) = false ∧ freeG x.hs ops A f g post (List.range ops.size) pre = true ∧ opsAt ops.toList (pre.map Prod.fst) = some opre ∧ opsAt ops.toList post = some opost ∧ farF d op (opre.zip (pre.map Prod.snd)) = true ∧ farG d2 (opre.zip (pre.map Prod.snd)) = true ∧ x = ⟨x.hs, opre.zip (pre.map Prod.snd), d, d2, ⟨some d, op, ty, pos, af, none⟩, ⟨some d2, op2, ty2, pos2, af2, none⟩ :: opost⟩ := by
 unfold frOG at h
 split at h
 ·rename_i d op ty pos af hof
  split at h
  ·rename_i t hbt hrd
   split at h
   ·rename_i g hg
    split at h
    ·rename_i d2 op2 ty2 pos2 af2 hog
     split at h
     ·rename_i pre g' post hm hp
      rw [Bool.and_eq_true, Bool.and_eq_true, Bool.not_eq_true', Bool.not_eq_true'] at hm
      split at h
      ·rename_i opre opost h1 h2 h3
       rw [Bool.and_eq_true, Bool.and_eq_true, Bool.not_eq_true'] at h1
       split at h
       ·rename_i h4
        rw [Bool.and_eq_true] at h4
        have h5 := (Option.some.inj h).symm
        subst h5
        exact ⟨d, d2, op, op2, t, ty, pos, af, ty2, pos2, af2, g, pre, post, opre, opost, hof, hbt, hrd, hog, hm.1.1, (fun e => by subst e; rw [Nat.beq_refl] at hm; cases hm.1.2), hm.2, h1.1.2, h1.2, h2, h3, h4.1, h4.2, rfl⟩
       ·cases h
      ·cases h
     ·cases h
    ·cases h
   ·cases h
  ·cases h
 ·cases h
theorem cutR_freg {ops : Array Oper} {x : Fr0} : ∀ {l : List Nat}, cutR ops l ≠ .freg x
 | [], h => by cases h
 | q :: l, h => by
  have h' : cN q (fun k => (match seqOK2 isI isS (ldK ops k) k ops (Region.before ops) with
   | true => Rk.held k
   | false => cutR ops l : Rk)) = Rk.freg x := h
  rw [cN_eq] at h'
  split at h'
  ·cases h'
  ·exact cutR_freg h'
theorem cutR_free {ops : Array Oper} {x : Fr0} : ∀ {l : List Nat}, cutR ops l ≠ .free x
 | [], h => by cases h
 | q :: l, h => by
  have h' : cN q (fun k => (match seqOK2 isI isS (ldK ops k) k ops (Region.before ops) with
   | true => Rk.held k
   | false => cutR ops l : Rk)) = Rk.free x := h
  rw [cN_eq] at h'
  split at h'
  ·cases h'
  ·exact cutR_free h'
theorem findSome_mem {α β : Type} {f : α → Option β} {b : β} : ∀ {l : List α}, l.findSome? f = some b → ∃ a, f a = some b
 | [], h => by cases h
 | a :: l, h => by
  rw [List.findSome?_cons] at h
  split at h
  ·rename_i b' hb
   exact ⟨a, by rw [hb]; exact h⟩
  ·exact findSome_mem h
theorem zip_fst {α β : Type} : ∀ {l : List α} {m : List β}, l.length = m.length → (l.zip m).map Prod.fst = l
 | [], _, _ => rfl
 | _ :: _, [], h => by cases h
 | a :: l, b :: m, h => by rw [List.zip_cons_cons, List.map_cons, zip_fst (by simpa using h)]
theorem zip_snd {α β : Type} : ∀ {l : List α} {m : List β}, l.length = m.length → (l.zip m).map Prod.snd = m
 | [], [], _ => rfl
 | [], _ :: _, h => by cases h
 | _ :: _, [], h => by cases h
 | a :: l, b :: m, h => by rw [List.zip_cons_cons, List.map_cons, zip_snd (by simpa using h)]
theorem pick_cut {z y : Rk} {q : Bool} {g f : Option Fr0} (hy : (match z with
 | .bad => match q with
  | true => match g with
   | some x => Rk.freg x
   | none => match f with
    | some x => Rk.free x
    | none => .bad
  | false => .bad
 | x => x) = y) (h1 : ∀ x, y ≠ .free x) (h2 : y ≠ .bad) (h3 : ∀ x, y ≠ .freg x) : z = y := by
 cases z with
 | bad =>
  cases q with
  | true =>
   cases g with
   | some x => exact absurd hy.symm (h3 x)
   | none =>
    cases f with
    | some x => exact absurd hy.symm (h1 x)
    | none => exact absurd hy.symm h2
  | false => exact absurd hy.symm h2
 | text => exact hy
 | held k => exact hy
 | free x => exact hy
 | freg x => exact hy
section
variable {w0 : Fm} {N m : Nat} {ih : Cl} {res : Rs} (hr : res ≠ .no)
include hr
theorem sqK_inv {g : En → Mem → Rs} {r : Rs} (h : sqK g r = res) : ∃ x e σ, r = .mk x e σ ∧ ((x = .nrm ∧ g e σ = res) ∨ (x ≠ .nrm ∧ res = .mk x e σ)) := by
 cases r with
 | no => exact absurd h.symm hr
 | mk x e σ =>
  refine ⟨x, e, σ, rfl, ?_⟩
  cases x with
  | nrm => exact .inl ⟨rfl, h⟩
  | ext n => exact .inr ⟨fun hh => (by cases hh), h.symm⟩
  | gto n => exact .inr ⟨fun hh => (by cases hh), h.symm⟩
  | ret => exact .inr ⟨fun hh => (by cases hh), h.symm⟩
  | val v => exact absurd h.symm hr
omit hr in
theorem en_nil {ρ : Pl} {e : En} {env : Env} (hE : ER m ρ e env) : ER m ρ ⟨e.vs, [], [], []⟩ env := fun t x hx => by
 refine hE t x ?_
 unfold elk at hx ⊢
 cases hk : kept m t with
 | true => rw [hk] at hx; exact hx
 | false =>
  rw [hk] at hx
  have hx : alook t [] = some x := hx
  cases hx
theorem reg_run (hih : CallS w0 ih) {id : Nat} {ops : Array Oper} {drawn : Bool} {ρ : Pl} {e : En} {σ : Mem} {a : Act} {w : World} (hok : regOK N drawn ops = .text) (h : (regW m ops.toList ops.toList).f ih ⟨e.vs, [], [], []⟩ σ (fun e σ => .mk .nrm e σ) = res) (hS : St w0 N m ρ e σ a w) : (Code.region id ops drawn).wp Tryz.prog (Post w0 N m ρ res) a w := by
 obtain ⟨ρ1, env, hu, hE, hM, hf⟩ := hS
 have hE' := en_nil hE
 have hQ : ∀ a' w', (∃ env', Fits N env' a' ∧ Then w0 m ρ1 [] [] (fun e σ => .mk .nrm e σ) res env' w') → Post w0 N m ρ res .normal a' w' := fun a' w' hh => by
  obtain ⟨env', h1, e', σ', ρ', h2, _, _, h3, h4, h5⟩ := hh
  exact ⟨.nrm, e', σ', h2.symm, trivial, ρ', env', hu.trans h3, h4, h5, h1⟩
 unfold regOK at hok
 split at hok
 ·cases hok
 ·rename_i hd
  obtain ⟨hs, hd⟩ := dstOK_spec hd
  split at hok
  ·refine wp_region_ss' (isI := isI) (isS := isS) (hs := []) (H := Eng.noH) trivial hQ ?_
   have hx := s_reg hr hih (full := ops.toList) hE' hM h
   have := ss_of_xs (N := N) (full := ops) hs hd ops.toList 0 env a w (by simp) trivial hf (by simpa using hx)
   simpa [List.range_eq_range'] using this
  ·split at hok
   ·rename_i hsq
    refine wp_region_ss (isI := isI) (isS := isS) (hs := []) (H := Eng.noH) mixed trivial hsq hQ ?_
    have hx := s_reg hr hih (full := ops.toList) hE' (hM.ext (Fr.drew _ w)) h
    have := ss_of_xs (N := N) (full := ops) hs hd ops.toList 0 env a w.drew (by simp) trivial hf (by simpa using hx)
    simpa [List.range_eq_range'] using this
   ·exact absurd (pick_cut hok (fun _ hh => by cases hh) (fun hh => by cases hh) (fun _ hh => by cases hh)) cutR_text
theorem reg_runH (hih : CallS w0 ih) {id : Nat} {l : List Oper} {drawn : Bool} {ρ : Pl} {e : En} {σ : Mem} {a : Act} {w : World} {k : Nat} (hok : regOK N drawn l.toArray = .held k) (h : (regH m (ldK l.toArray k) l (l.take k)).f ih ⟨e.vs, [], [], []⟩ σ (finH m ih l (l.drop k) σ) = res) (hS : St w0 N m ρ e σ a w) : (Code.region id l.toArray drawn).wp Tryz.prog (Post w0 N m ρ res) a w := by
 obtain ⟨ρ1, env, hu, hE, hM, hf⟩ := hS
 have hE' := en_nil hE
 have hM' := hM.ext (Fr.drew _ w)
 obtain ⟨ef, σf, hres, _, _, hho⟩ := mono_H hr hih hE' hM' h
 unfold regOK at hok
 split at hok
 ·cases hok
 ·rename_i hd
  split at hok
  ·cases hok
  ·split at hok
   ·cases hok
   ·have hsq := cutR_inv (pick_cut hok (fun _ hh => by cases hh) (fun hh => by cases hh) (fun _ hh => by cases hh))
    refine wp_cut (K := Then w0 m ρ1 ef.hs ef.ms fin0 res) k (ldK l.toArray k) (HH ρ1 ef.hs) hd hsq (hold_at hM' (Up.refl ρ1) List.mem_cons_self hho) hf (fun a' env' w' h1 hh => ?_) ?_
    ·obtain ⟨e', σ', ρ', h2, _, _, h3, h4, h5⟩ := hh
     exact ⟨.nrm, e', σ', h2.symm, trivial, ρ', env', hu.trans h3, h4, h5, h1⟩
    ·refine xs_monoH (fun env' w' hh => ?_) (s_regH hr hih hres hho hM' (full := l) (l2 := l.drop k) (l := l.take k) (Up.refl ρ1) hE' hM' h)
     obtain ⟨e1, σ1, ρ', k1, k2, k3, k4⟩ := hh
     have hx := s_reg hr hih (full := l) k3 k4 k1
     obtain ⟨_, _, e2, σ2, _, q1, q2, q3, _⟩ := xs_someL hx
     have q1 : Rs.mk .nrm e2 σ2 = res := q1
     rw [hres] at q1
     injection q1 with _ q4 _
     refine xs_mono (fun env'' w'' hh => ?_) hx
     obtain ⟨e3, σ3, ρ3, r1, r2, r3, r4, r5, r6⟩ := hh
     exact ⟨e3, σ3, ρ3, r1, by rw [r2, ← q2, q4], by rw [r3, ← q3, q4], k2.trans r4, r5, r6⟩
theorem reg_runF (hih : ∀ F, CallS F ih) {id : Nat} {l : List Oper} {drawn : Bool} {ρ : Pl} {e : En} {σ : Mem} {a : Act} {w : World} {x : Fr0} (hok : regOK N drawn l.toArray = .free x) (h : (regF m x.hs l x.d x.d2 x.pre).f ih ⟨e.vs, [], [], []⟩ σ (fun e' σ' => (orH m x.hs l x.f).f ih e' σ' fun e' σ' => (regH m x.hs l x.post).f ih e' σ' (finH m ih l [] σ)) = res) (hS : St w0 N m ρ e σ a w) : (Code.region id l.toArray drawn).wp Tryz.prog (Post w0 N m ρ res) a w := by
 obtain ⟨ρ1, env, hu, hE, hM, hf⟩ := hS
 have hE' := en_nil hE
 have hM' := hM.ext (Fr.drew _ w)
 obtain ⟨_, _, ea, σa, ρa, a1, _, a3, a4, _⟩ := dryF hr (hih w0) hE' hM' h
 obtain ⟨_, _, eb, σb, ρb, b1, _, b3, b4, _⟩ := dryH (l := [x.f]) hr (hih w0) a3 a4 a1
 obtain ⟨_, _, ef, σf, ρf, c1, _, c3, c4, _⟩ := dryH hr (hih w0) b3 b4 b1
 obtain ⟨c5, hho⟩ := ckA_inv hr (show ckA σ ef.ms ef.hs ((regW m l []).f ih ef σf fin0) = res from c1)
 have hres : res = .mk .nrm ef σf := c5.symm
 unfold regOK at hok
 split at hok
 ·cases hok
 ·rename_i hd
  split at hok
  ·cases hok
  ·split at hok
   ·cases hok
   ·split at hok
    ·split at hok
     ·rename_i hanc
      split at hok
      ·cases hok
      split at hok
      ·rename_i x' hfs
       injection hok with hok
       subst hok
       obtain ⟨f, hfr⟩ := findSome_mem hfs
       obtain ⟨d, op, ty, pos, af, pre, post, opre, opost, h1, h2, h3, h4, h5, h6, h7, h8⟩ := frOK_inv hfr
       subst h8
       have hlen : opre.length = (pre.map Prod.snd).length := by
        have := congrArg List.length (opsAt_map h5)
        simpa using this.symm
       refine wp_free (K := fun env' w' => ∃ e' σ' ρ', res = .mk .nrm e' σ' ∧ Up ρ1 ρ' ∧ ER m ρ' e' env' ∧ MR w0 ρ' σ' w') (ldK l.toArray l.toArray.size) (HH ρ1 ef.hs) hd hanc (hold_at hM' (Up.refl ρ1) List.mem_cons_self hho) hf (fun a' env' w' q1 hh => ?_) (fun hR => ?_)
       ·obtain ⟨e', σ', ρ', g1, g2, g3, g4⟩ := hh
        exact ⟨.nrm, e', σ', g1, trivial, ρ', env', hu.trans g2, g3, g4, q1⟩
       ·refine free_run hR h1 (opsAt_map h6) h4 (opre := opre.zip (pre.map Prod.snd)) (zip_snd hlen).symm (by rw [zip_fst hlen]; exact opsAt_map h5) ?_
        refine run_xf hr hih (fun F => Mono.fin hr (hih F) hres) hho hM' h2 h3 (fun env' w' e1 σ1 ρ' g1 g2 g3 g4 => ?_) h7 (Up.refl ρ1) hE' hM' h
        obtain ⟨g5, _⟩ := ckA_inv hr (show ckA σ e1.ms e1.hs ((regW m l []).f ih e1 σ1 fin0) = res from g1)
        exact ⟨e1, σ1, ρ', g5.symm, g2, g3, g4⟩
      ·cases hok
     ·cases hok
    ·exact absurd hok cutR_free
theorem reg_runG (hih : ∀ F, CallS F ih) {id : Nat} {l : List Oper} {drawn : Bool} {ρ : Pl} {e : En} {σ : Mem} {a : Act} {w : World} {x : Fr0} (hok : regOK N drawn l.toArray = .freg x) (h : (regF m x.hs l x.d x.d2 x.pre).f ih ⟨e.vs, [], [], []⟩ σ (fun e' σ' => (orH m x.hs l x.f).f ih e' σ' fun e' σ' => (regH m x.hs l x.post).f ih e' σ' (finH m ih l [] σ)) = res) (hS : St w0 N m ρ e σ a w) : (Code.region id l.toArray drawn).wp Tryz.prog (Post w0 N m ρ res) a w := by
 obtain ⟨ρ1, env, hu, hE, hM, hf⟩ := hS
 have hE' := en_nil hE
 have hM' := hM.ext (Fr.drew _ w)
 obtain ⟨_, _, ea, σa, ρa, a1, _, a3, a4, _⟩ := dryF hr (hih w0) hE' hM' h
 obtain ⟨_, _, eb, σb, ρb, b1, _, b3, b4, _⟩ := dryH (l := [x.f]) hr (hih w0) a3 a4 a1
 obtain ⟨_, _, ef, σf, ρf, c1, _, c3, c4, _⟩ := dryH hr (hih w0) b3 b4 b1
 obtain ⟨c5, hho⟩ := ckA_inv hr (show ckA σ ef.ms ef.hs ((regW m l []).f ih ef σf fin0) = res from c1)
 have hres : res = .mk .nrm ef σf := c5.symm
 unfold regOK at hok
 split at hok
 ·cases hok
 ·rename_i hd
  split at hok
  ·cases hok
  ·split at hok
   ·cases hok
   ·split at hok
    ·split at hok
     ·rename_i hanc
      split at hok
      ·rename_i x' hfs
       injection hok with hok
       subst hok
       obtain ⟨f, hfr⟩ := findSome_mem hfs
       obtain ⟨d, d2, op, op2, t, ty, pos, af, ty2, pos2, af2, g, pre, post, opre, opost, h1, h2, h3, y1, y2, y3, y4, y5, h4, h5, h6, h7, h8, h9⟩ := frOG_inv hfr
       obtain ⟨nn, ps, rfl, hm⟩ := bsT_inv h2
       obtain ⟨u, el, rfl, z1, z2, z3, z4⟩ := isCv_inv y2
       obtain ⟨xhs, xpre, xd, xd2, xf, xpost⟩ := x'
       injection h9 with _ h10 h11 h12 h13 h14
       subst h10; subst h11; subst h12; subst h13; subst h14
       have hlen : opre.length = (pre.map Prod.snd).length := by
        have := congrArg List.length (opsAt_map h5)
        simpa using this.symm
       refine wp_free (K := fun env' w' => ∃ e' σ' ρ', res = .mk .nrm e' σ' ∧ Up ρ1 ρ' ∧ ER m ρ' e' env' ∧ MR w0 ρ' σ' w') xhs (HH ρ1 ef.hs) hd hanc (hold_at hM' (Up.refl ρ1) List.mem_cons_self hho) hf (fun a' env' w' q1 hh => ?_) (fun hR => ?_)
       ·obtain ⟨e', σ', ρ', g1, g2, g3, g4⟩ := hh
        exact ⟨.nrm, e', σ', g1, trivial, ρ', env', hu.trans g2, g3, g4, q1⟩
       ·refine freg_run hR h1 y1 (opsAt_map h6) h4 (opre := opre.zip (pre.map Prod.snd)) (zip_snd hlen).symm (by rw [zip_fst hlen]; exact opsAt_map h5) ?_
        refine run_xf2 hr hih (fun F => Mono.fin hr (hih F) hres) hho hM' hm z3 z1 z2 z4 y5 h3 y4 y3 (fun env' w' e1 σ1 ρ' g1 g2 g3 g4 => ?_) h7 (farG_spec h8) (Up.refl ρ1) hE' hM' h
        obtain ⟨g5, _⟩ := ckA_inv hr (show ckA σ e1.ms e1.hs ((regW m l []).f ih e1 σ1 fin0) = res from g1)
        exact ⟨e1, σ1, ρ', g5.symm, g2, g3, g4⟩
      ·split at hok
       ·cases hok
       ·cases hok
     ·cases hok
    ·exact absurd hok cutR_freg
end
theorem exM_other {x : Ex} {ex : Exit} (h : exM x ex) (hx : x ≠ .nrm) (Q : Exit → Act → World → Prop) (K : Act → World → Prop) (a : Act) (w : World) (hq : Q ex a w) : Exit.then K Q ex a w := by
 cases ex with
 | normal => cases x <;> first | exact absurd rfl hx | cases h
 | _ => exact hq
theorem cod_run {w0 : Fm} {N m : Nat} {ih : Cl} (hih : ∀ F, CallS F ih) : ∀ (d : Nat) (c : Code) (n : Nat) (e : En) (σ : Mem) (res : Rs) (ρ : Pl) (a : Act) (w : World), res ≠ .no → (codW N m d c).f ih n e σ = res → St w0 N m ρ e σ a w → c.wp Tryz.prog (Post w0 N m ρ res) a w
 | 0, c, n, e, σ, res, ρ, a, w, hr, h, hS => absurd h.symm hr
 | d + 1, c, n, e, σ, res, ρ, a, w, hr, h, hS => by
  have IH := cod_run (w0 := w0) (N := N) (m := m) hih d
  cases c with
  | skip => exact wp_skip ⟨.nrm, e, σ, h.symm, trivial, hS⟩
  | label l => exact wp_label ⟨.nrm, e, σ, h.symm, trivial, hS⟩
  | exit id => exact wp_exit ⟨.ext id, e, σ, h.symm, rfl, hS⟩
  | goto l => exact wp_goto ⟨.gto l, e, σ, h.symm, rfl, hS⟩
  | ret => exact wp_ret ⟨.ret, e, σ, h.symm, trivial, hS⟩
  | region id ops drawn =>
   have h' : (match regOK N drawn ops with
    | .text => (⟨fun ih _ e σ => (regW m ops.toList ops.toList).f ih ⟨e.vs, [], [], []⟩ σ fun e σ => .mk .nrm e σ⟩ : Wc)
    | .held k => ⟨fun ih _ e σ => (regH m (ldK ops k) ops.toList (ops.toList.take k)).f ih ⟨e.vs, [], [], []⟩ σ fun e' σ' => ckA σ e'.ms e'.hs ((regW m ops.toList (ops.toList.drop k)).f ih e' σ' fun e σ => .mk .nrm e σ)⟩
    | .free x => ⟨fun ih _ e σ => (regF m x.hs ops.toList x.d x.d2 x.pre).f ih ⟨e.vs, [], [], []⟩ σ fun e' σ' => (orH m x.hs ops.toList x.f).f ih e' σ' fun e' σ' => (regH m x.hs ops.toList x.post).f ih e' σ' fun e' σ' => ckA σ e'.ms e'.hs (.mk .nrm e' σ')⟩
    | .freg x => ⟨fun ih _ e σ => (regF m x.hs ops.toList x.d x.d2 x.pre).f ih ⟨e.vs, [], [], []⟩ σ fun e' σ' => (orH m x.hs ops.toList x.f).f ih e' σ' fun e' σ' => (regH m x.hs ops.toList x.post).f ih e' σ' fun e' σ' => ckA σ e'.ms e'.hs (.mk .nrm e' σ')⟩
    | .bad => noC).f ih n e σ = res := h
   split at h'
   ·rename_i hok
    exact reg_run hr (hih w0) hok h' hS
   ·rename_i hok
    exact reg_runH (l := ops.toList) hr (hih w0) hok h' hS
   ·rename_i hok
    exact reg_runF (l := ops.toList) hr hih hok h' hS
   ·rename_i hok
    exact reg_runG (l := ops.toList) hr hih hok h' hS
   ·exact absurd h'.symm hr
  | seq x y =>
   have h' : sqK ((codW N m d y).f ih n) ((codW N m d x).f ih n e σ) = res := h
   obtain ⟨x1, e1, σ1, h1, h2⟩ := sqK_inv hr h'
   refine wp_seq (wp_mono (IH x n e σ _ ρ a w (by rw [h1]; exact fun hh => by cases hh) rfl hS) ?_)
   rintro ex a' w' ⟨x2, e2, σ2, k1, k2, k3⟩
   rw [h1] at k1
   injection k1 with q1 q2 q3
   subst q1; subst q2; subst q3
   rcases h2 with ⟨rfl, h2⟩ | ⟨hx, h2⟩
   ·cases ex with
    | normal => exact IH y n e1 σ1 res ρ a' w' hr h2 k3
    | _ => cases k2
   ·exact exM_other k2 hx _ _ _ _ ⟨x1, e1, σ1, h2, k2, k3⟩
  | cond q x y =>
   have h' : (gtW m q).f e (fun q => onB q ((codW N m d x).f ih n e σ) ((codW N m d y).f ih n e σ)) = res := h
   have hS' := hS
   obtain ⟨ρ1, env, hu, hE, hM, hf⟩ := hS'
   obtain ⟨b, v, h1, h2, h3⟩ := gtW_inv hr hE h'
   rcases onB_inv hr h3 with ⟨rfl, h4⟩ | ⟨rfl, h4⟩
   ·have h2 : v = .bool true := h2
    subst h2
    exact wp_cond_true (hf.eval h1) (IH x n e σ res ρ a w hr h4 hS)
   ·have h2 : v = .bool false := h2
    subst h2
    exact wp_cond_false (hf.eval h1) (IH y n e σ res ρ a w hr h4 hS)
  | block id b =>
   have h' : blK id ((codW N m d b).f ih n e σ) = res := h
   generalize hr0 : (codW N m d b).f ih n e σ = r0 at h'
   have hr0n : r0 ≠ .no := fun hh => by rw [hh] at h'; exact hr h'.symm
   refine wp_block (wp_mono (IH b n e σ r0 ρ a w hr0n hr0 hS) ?_)
   rintro ex a' w' ⟨x2, e2, σ2, k1, k2, k3⟩
   subst k1
   cases x2 with
   | nrm =>
    cases ex with
    | normal => exact ⟨.nrm, e2, σ2, h'.symm, trivial, k3⟩
    | _ => cases k2
   | ext j =>
    cases ex with
    | exit k =>
     have k2 : j = k := k2
     subst k2
     have h'' : ifK (Nat.beq j id) (.mk .nrm e2 σ2) (.mk (.ext j) e2 σ2) = res := h'
     rw [ifK_eq] at h''
     show (if j = id then _ else _)
     split at h''
     ·rename_i hj
      rw [if_pos (Nat.eq_of_beq_eq_true hj)]
      exact ⟨.nrm, e2, σ2, h''.symm, trivial, k3⟩
     ·rename_i hj
      rw [if_neg (fun hh => hj (by rw [hh]; exact Nat.beq_refl id))]
      exact ⟨.ext j, e2, σ2, h''.symm, rfl, k3⟩
    | _ => cases k2
   | gto j =>
    cases ex with
    | goto k => exact ⟨.gto j, e2, σ2, h'.symm, k2, k3⟩
    | _ => cases k2
   | ret =>
    cases ex with
    | ret => exact ⟨.ret, e2, σ2, h'.symm, trivial, k3⟩
    | _ => cases k2
   | val v => cases k2
  | loop b =>
   have h' : lpK ((codW N m d b).f ih n) n e σ = res := h
   refine wp_loop_ghost (fun k a w => ∃ e σ, lpK ((codW N m d b).f ih n) k e σ = res ∧ St w0 N m ρ e σ a w) n ⟨e, σ, h', hS⟩ ?_
   rintro k a1 w1 ⟨e1, σ1, h1, hS1⟩
   cases k with
   | zero => exact absurd h1.symm hr
   | succ k =>
    have h1' : sqK (lpK ((codW N m d b).f ih n) k) ((codW N m d b).f ih n e1 σ1) = res := h1
    obtain ⟨x2, e2, σ2, h2, h3⟩ := sqK_inv hr h1'
    refine wp_mono (IH b n e1 σ1 _ ρ a1 w1 (by rw [h2]; exact fun hh => by cases hh) rfl hS1) ?_
    rintro ex a' w' ⟨x3, e3, σ3, k1, k2, k3⟩
    rw [h2] at k1
    injection k1 with q1 q2 q3
    subst q1; subst q2; subst q3
    rcases h3 with ⟨rfl, h3⟩ | ⟨hx, h3⟩
    ·cases ex with
     | normal => exact ⟨k, Nat.lt_succ_self k, e2, σ2, h3, k3⟩
     | _ => cases k2
    ·exact exM_other k2 hx _ _ _ _ ⟨x2, e2, σ2, h3, k2, k3⟩
  | scope b =>
   have h' : scpK (fun l => (lbW (codW N m d) b l).f ih n) n ((codW N m d b).f ih n e σ) = res := h
   have fin : ∀ (k : Nat) (x2 : Ex) (e2 : En) (σ2 : Mem), scpK (fun l => (lbW (codW N m d) b l).f ih n) k (.mk x2 e2 σ2) = res → (∃ l k', x2 = .gto l ∧ k = k' + 1 ∧ scpK (fun l => (lbW (codW N m d) b l).f ih n) k' ((lbW (codW N m d) b l).f ih n e2 σ2) = res) ∨ (res = .mk x2 e2 σ2 ∧ ∀ l, x2 ≠ .gto l) := fun k x2 e2 σ2 hh => by
    cases k with
    | zero => exact absurd hh.symm hr
    | succ k =>
     cases x2 with
     | gto l => exact .inl ⟨l, k, rfl, rfl, hh⟩
     | nrm => exact .inr ⟨hh.symm, fun l hl => by cases hl⟩
     | ext j => exact .inr ⟨hh.symm, fun l hl => by cases hl⟩
     | ret => exact .inr ⟨hh.symm, fun l hl => by cases hl⟩
     | val v => exact absurd hh.symm hr
   have hno : ∀ k, scpK (fun l => (lbW (codW N m d) b l).f ih n) k .no ≠ res := fun k hh => by
    cases k <;> exact hr hh.symm
   have hlb : ∀ l k e2 σ2, scpK (fun l => (lbW (codW N m d) b l).f ih n) k ((lbW (codW N m d) b l).f ih n e2 σ2) = res → ∃ rest, findLabel b l = some rest ∧ (lbW (codW N m d) b l).f ih n e2 σ2 = (codW N m d rest).f ih n e2 σ2 ∧ (codW N m d rest).f ih n e2 σ2 ≠ .no := fun l k e2 σ2 hh => by
    cases hf : findLabel b l with
    | none =>
     have : (lbW (codW N m d) b l).f ih n e2 σ2 = .no := by
      unfold lbW
      rw [hf]
     rw [this] at hh
     exact absurd hh (hno k)
    | some rest =>
     have he : (lbW (codW N m d) b l).f ih n e2 σ2 = (codW N m d rest).f ih n e2 σ2 := by
      unfold lbW
      rw [hf]
     refine ⟨rest, rfl, he, fun h0 => ?_⟩
     rw [he, h0] at hh
     exact hno k hh
   refine wp_scope_labels (fun l k a w => ∃ e2 σ2, scpK (fun l => (lbW (codW N m d) b l).f ih n) k ((lbW (codW N m d) b l).f ih n e2 σ2) = res ∧ St w0 N m ρ e2 σ2 a w) ?_ ?_ ?_
   ·rintro l k a1 w1 ⟨e2, σ2, h1, _⟩
    obtain ⟨rest, hf, _⟩ := hlb l k e2 σ2 h1
    exact ⟨rest, hf⟩
   ·have hr0n : (codW N m d b).f ih n e σ ≠ .no := fun hh => by rw [hh] at h'; exact hno n h'
    refine wp_mono (IH b n e σ _ ρ a w hr0n rfl hS) ?_
    rintro ex a' w' ⟨x2, e2, σ2, k1, k2, k3⟩
    rw [k1] at h'
    rcases fin n x2 e2 σ2 h' with ⟨l, k', rfl, _, h2⟩ | ⟨h2, h3⟩
    ·cases ex with
     | goto j =>
      have k2 : l = j := k2
      subst k2
      exact ⟨k', e2, σ2, h2, k3⟩
     | _ => cases k2
    ·cases ex with
     | goto j => cases x2 <;> first | exact absurd rfl (h3 _) | cases k2
     | _ => exact ⟨x2, e2, σ2, h2, k2, k3⟩
   ·rintro k l rest a1 w1 hf ⟨e1, σ1, h1, hS1⟩
    obtain ⟨rest', hf', he, hn0⟩ := hlb l k e1 σ1 h1
    rw [hf] at hf'
    obtain rfl := Option.some.inj hf'
    rw [he] at h1
    refine wp_mono (IH rest n e1 σ1 _ ρ a1 w1 hn0 rfl hS1) ?_
    rintro ex a' w' ⟨x2, e2, σ2, k1, k2, k3⟩
    rw [k1] at h1
    rcases fin k x2 e2 σ2 h1 with ⟨l', k', rfl, hk, h2⟩ | ⟨h2, h3⟩
    ·cases ex with
     | goto j =>
      have k2 : l' = j := k2
      subst k2
      exact ⟨k', by omega, e2, σ2, h2, k3⟩
     | _ => cases k2
    ·cases ex with
     | goto j => cases x2 <;> first | exact absurd rfl (h3 _) | cases k2
     | _ => exact ⟨x2, e2, σ2, h2, k2, k3⟩
  | _ => exact absurd h.symm hr
end Rn
end Eng
end Go.Proofs.YtpfelapckcojjaaGreatDoor
