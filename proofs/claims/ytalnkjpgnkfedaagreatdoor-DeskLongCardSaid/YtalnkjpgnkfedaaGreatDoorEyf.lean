/-
  Conversions; calls.
-/
import Derived.Test.YtalnkjpgnkfedaaGreatDoorEye
import Derived.Lib.Mul64
import Derived.Laws.Externs
import Derived.Laws.Cover2
import Derived.Laws.Cover3
import Derived.Laws.FloatArith
namespace Go.Proofs.YtalnkjpgnkfedaaGreatDoor
open Go.RowKit
namespace Eng
namespace Rn
theorem freeze_bk {w : World} {b : Nat} {eb : TypeId} {n : Nat} (hs : w.shape? b = some (eb, n)) {g : Nat} {t : TypeId} {cs : Array Value} (h : Bk w g t cs) : Bk (w.freeze ⟨b, n, none⟩ 1) g t cs := by
  obtain ⟨f, h, hf⟩ := h
  unfold World.freeze
  rw [if_neg (by decide)]
  by_cases hb : b = g
  · subst hb
    have hn : n = cs.size := by
      unfold World.shape? at hs
      rw [h] at hs
      have := Option.some.inj hs
      exact (Prod.mk.inj this).2.symm
    refine ⟨if f.1 == f.2 then (n, n + 1) else (min f.1 n, max f.2 (n + 1)), ?_, .inl ?_⟩
    · simp [Array.getElem?_modify, h]
    · subst hn
      split
      · exact Nat.le_refl _
      · rename_i hne
        rcases hf with hf | hf
        · show cs.size ≤ min f.1 cs.size
          omega
        · rw [hf] at hne
          simp at hne
  · refine ⟨f, ?_, hf⟩
    simp [Array.getElem?_modify, hb, h]
theorem mark_run (P : Program) (a : Addr) (w : World) : ∃ w', (markStringish a).run P w = .ok () w' ∧ Fr (fun k => k = a.block) w w' ∧ (∀ g t cs, Bk w g t cs → Bk w' g t cs) ∧ ∀ g l, MpB w g l → MpB w' g l := by
  cases hs : w.shape? a.block with
  | none => exact ⟨w, by simp [markStringish, hs], Fr.refl _ _, fun _ _ _ h => h, fun _ _ h => h⟩
  | some p =>
    obtain ⟨eb, n⟩ := p
    have hF : Fr (fun k => k = a.block) w (w.freeze ⟨a.block, n, none⟩ 1) := ⟨rfl, rfl, rfl, by simp [World.freeze], fun k hk hn => by unfold World.freeze; rw [if_neg (by decide)]; simp only [Array.getElem?_modify]; rw [if_neg (fun e => hn e.symm)]⟩
    refine ⟨w.freeze ⟨a.block, n, none⟩ 1, by simp [markStringish, hs], hF, fun g t cs h => freeze_bk hs h, fun g l h => h.fr hF fun e => ?_⟩
    have e : g = a.block := e
    subst e
    obtain ⟨es, clock, h1, _⟩ := h
    simp [World.shape?, h1] at hs
section
variable {m : Nat} {ih : Cl} {e : En} {σ : Mem} {c : Kt} {res : Rs} {ρ : Pl} {env : Env} {w0 : Fm} {w : World} {full : Array Oper} {d : Tmp} {dst : Option Tmp} {ty : TypeId} {pos : String} {af : Array Edge} (hr : res ≠ .no)
include hr
theorem byK_inv {ρ : Pl} : ∀ {l : List SV} {vs : List Value} {k : List Nat → Rs}, byK l k = res → SRs ρ l vs → ∃ r, r.length = l.length ∧ (∀ c ∈ r, c < 256) ∧ vs = (uOf r).map (fun b => Value.int .u8 (b.toNat : Int)) ∧ k r = res
  | [], vs, k, h, hl => by
    cases hl
    exact ⟨[], rfl, (by intro c hc; cases hc), rfl, h⟩
  | x :: l, vs, k, h, hl => by
    cases hl with
    | cons h1 h2 =>
      obtain ⟨q, a, e0, g1⟩ := onN_inv hr (show onN (.v x) (fun q a => kkK q .u8 (byK l fun r => k (a :: r))) = res from h)
      obtain ⟨e1, g2⟩ := kkK_inv hr g1
      obtain ⟨r, g3, g4, g5, g6⟩ := byK_inv g2 h2
      have e2 : x = .n q a := by injection e0
      subst e2
      subst e1
      obtain ⟨_, h3, h4⟩ := h1
      have ha : a < 256 := by have h4 : a ≤ 255 := h4; omega
      refine ⟨a :: r, by simp [g3], fun c hc => ?_, ?_, g6⟩
      · rcases List.mem_cons.1 hc with rfl | hc
        · exact ha
        · exact g4 c hc
      · rw [h3, g5]
        simp only [uOf, List.map_cons, UInt8.toNat_ofNat', Nat.mod_eq_of_lt ha]
        rfl
theorem rvK_inv {r : Rs} (h : rvK c r = res) : ∃ v e' σ', r = .mk (.val v) e' σ' ∧ c v σ' = res := by
  cases r with
  | no => exact absurd h.symm hr
  | mk x e' σ' =>
    cases x with
    | val v => exact ⟨v, e', σ', rfl, h⟩
    | _ => exact absurd h.symm hr
variable (hE : ER m ρ e env) (hM : MR w0 ρ σ w)
include hE hM
theorem s_cv {s t : TypeId} {x : Operand} (h : (cvW m s t x).f ih e σ c = res) : xs Tryz.prog isI isS [] Eng.noH full (Good w0 ρ c res env (some d)) [⟨some d, .convert s t x, ty, pos, af, none⟩] env w := by
  unfold cvW at h
  split at h
  · rename_i k hk
    split at h
    · rename_i k0 hk0
      obtain ⟨a, v, h1, h2, g1⟩ := gtW_inv hr hE (show (gtW m x).f e _ = res from h)
      rcases onI_inv hr g1 with ⟨k1, b, e0, g2⟩ | ⟨k1, b, e0, g2⟩ <;> subst e0
      · obtain ⟨rfl, _⟩ := h2
        obtain ⟨y, g3, hy⟩ := wrI_inv (ρ := ρ) hr g2
        exact x_cvi h1 hk0 hk ⟨_, σ, ρ, _, g3, Up.refl ρ, hy, hM, rfl⟩
      · obtain ⟨rfl, _⟩ := h2
        obtain ⟨y, g3, hy⟩ := wrI_inv (ρ := ρ) hr g2
        exact x_cvi h1 hk0 hk ⟨_, σ, ρ, _, g3, Up.refl ρ, hy, hM, rfl⟩
    · rename_i hk0
      split at h
      · rename_i hu
        obtain ⟨a, v, h1, h2, g1⟩ := gtW_inv hr hE (show (gtW m x).f e _ = res from h)
        obtain ⟨n, e0, g2⟩ := onE_inv hr g1
        subst e0
        obtain ⟨rfl, hn⟩ := h2
        have hv : floatToIntVal .f64 (fw n) .i64 = some (n : Int) := by
          unfold floatToIntVal
          rw [fw_int (by omega)]
          dsimp only
          rw [if_pos (by simp [IntKind.min, IntKind.max, IntKind.signed, IntKind.bits]; omega)]
        have hI : isI s = false := by unfold isI; rw [hk0]; rfl
        have hS : isS t = false := by
          cases hst : isS t with
          | false => rfl
          | true =>
            have h5 := str_spec hst
            rw [kind_spec hk] at h5
            cases h5
        refine xw (v := .int .i64 (n : Int)) (w' := w) (by simp [opsOK, Op.operands, h1]) (by simp [cls, hI, hS]) ?_ ⟨_, σ, ρ, _, g2, Up.refl ρ, ⟨rfl, by show n ≤ 9223372036854775807; omega⟩, hM, rfl⟩ trivial
        simp [execOp, ev_of h1, run_convert_float_int (P := Tryz.prog) w s t .f64 .i64 (fw n) n (by rw [hu]; rfl) (kind_spec hk) hv]
      · exact absurd h.symm hr
  · rename_i hk
    have hI : isI t = false := by unfold isI; rw [hk]; rfl
    split at h
    · rename_i hS
      have hcl : clsO isI isS [] ⟨some d, .convert s t x, ty, pos, af, none⟩ = .r := by
        simp [clsO, cls, hI, hS, memb]
      split at h
      · rename_i hS'
        obtain ⟨a, v, h1, h2, g1⟩ := gtW_inv hr hE h
        obtain ⟨l, e0, g2⟩ := onS_inv hr g1
        subst e0
        have h2' := h2
        obtain ⟨rfl, _⟩ := h2
        refine x_gen rfl (by simp [opsOK, Op.operands, h1]) ?_
        rw [hcl]
        refine ⟨_, ?_, _, σ, ρ, _, g2, Up.refl ρ, h2', hM, rfl⟩
        simp [execOp, ev_of h1, convert, run_underlying (str_spec hS), run_underlying (str_spec hS')]
      · split at h
        · rename_i el hel
          split at h
          · rename_i hk8
            obtain ⟨hu, hsz⟩ := elemOf_inv hel
            obtain ⟨a, v, h1, h2, g1⟩ := gtW_inv hr hE h
            obtain ⟨q, new, news, g2, hn, hSr⟩ := srK_inv (t := s) hr hM h2 g1
            obtain ⟨r, f1, f2, f3, f4⟩ := byK_inv hr g2 hn
            obtain ⟨hb, f5⟩ := okK_inv f4 hr
            have hb := Nat.le_of_ble_eq_true hb
            have hlen : (uOf r).length = q := by
              have := hSr.len
              rw [hn.len] at this
              simp [uOf]
              omega
            refine x_gen rfl (by simp [opsOK, Op.operands, h1]) ?_
            rw [hcl]
            refine ⟨.string (su (uOf r)), ?_, _, σ, ρ, _, f5, Up.refl ρ, ⟨rfl, f2, hb⟩, hM, rfl⟩
            have hrun : (convert s t v).run Tryz.prog w = .ok (.string (su (uOf r))) w := by
              cases hSr with
              | @sl A _ c' _ hl hcell hnn =>
                cases A with
                | none =>
                  have h0 := hnn rfl
                  have e1 : uOf r = [] := List.eq_nil_of_length_eq_zero (by omega)
                  rw [run_convert_bytes_nil w s el hu (kind_spec hk8) _ _ t (str_spec hS), e1]
                  rfl
                | some a' =>
                  have := run_convert_bytes_back (P := Tryz.prog) w s t el a' c' (uOf r) hu (kind_spec hk8) (str_spec hS) (fun j hj => by
                    refine hcell a' rfl j _ ?_
                    rw [f3, List.getElem?_map, List.getElem?_eq_getElem hj]
                    rfl)
                  rw [hlen] at this
                  exact this
              | st hus _ =>
                have := str_spec hS
                rw [hu] at hus
                cases hus
            simp [execOp, ev_of h1, hrun]
          · exact absurd h.symm hr
        · exact absurd h.symm hr
    · rename_i hS
      split at h
      · rename_i el hel
        obtain ⟨hu, hsz⟩ := elemOf_inv hel
        split at h
        · rename_i hk8
          have hclw : cls isI isS (.convert s t x) = .w := by simp [cls, hI, hS]
          split at h
          · rename_i hS'
            obtain ⟨a, v, h1, h2, g1⟩ := gtW_inv hr hE h
            obtain ⟨l, e0, g2⟩ := onS_inv hr g1
            rw [fN_eq] at g2
            obtain ⟨hl1, g3⟩ := okK_inv g2 hr
            rw [fP_eq] at g3
            subst e0
            obtain ⟨rfl, h3, h4⟩ := h2
            have hrun := run_bytes_of_string (P := Tryz.prog) w s t el (su (uOf l)) (str_spec hS') hu (kind_spec hk8)
            have hsize : (su (uOf l)).size = l.length := by rw [su_size]; simp [uOf]
            have hge := grownCap_ge w (su (uOf l)).size 0 el
            have hle := grownCap_le_maxLen w (su (uOf l)).size 0 el (by rw [hsize]; exact h4)
            generalize grownCap w (su (uOf l)).size 0 el = k at hrun hge hle
            have hcs : (bytesRow (su (uOf l)) k).size = k := by
              simp only [bytesRow, Array.size_append, Array.size_map, Array.size_replicate]
              show (su (uOf l)).size + _ = _
              omega
            refine xw (by simp [opsOK, Op.operands, h1]) hclw (v := .slice (some ⟨w.heap.size, 0, none⟩) (su (uOf l)).size k) (w' := w.drew.alloc (.cells (bytesRow (su (uOf l)) k) el ((bytesRow (su (uOf l)) k).size, (bytesRow (su (uOf l)) k).size + 1))) ?_ ?_ trivial
            · simp [execOp, ev_of h1, hrun]
            · have hB : Bk (w.drew.alloc (.cells (bytesRow (su (uOf l)) k) el ((bytesRow (su (uOf l)) k).size, (bytesRow (su (uOf l)) k).size + 1))) w.heap.size el (bytesRow (su (uOf l)) k) := ⟨_, heap_alloc_new w.drew _, .inl (Nat.le_refl _)⟩
              obtain ⟨σ', q1, q2, q3⟩ := new_step hr hM k 1 g3 (by rw [hcs, Nat.mul_one]; exact Nat.le_refl _) hB (fun o u hu => by
                have hlt := (List.getElem?_eq_some_iff.1 hu).1
                simp only [bytesRow]
                rw [Array.getElem?_append_left (by simp [su]; simpa using hlt)]
                simpa [su] using hu) ((Fr.drew _ w).t (Fr.alloc _ _ _)) (byte_rel ρ h3)
              refine ⟨_, σ', _, _, q1, Up.snoc _ _, ⟨⟨w.heap.size, k, 1⟩, q3, rfl, by rw [hsize] at hge; simpa using hge, hle, by rw [hsize]; simp⟩, q2, rfl⟩
          · split at h
            · rename_i hbq
              have hst := Nat.eq_of_beq_eq_true hbq
              subst hst
              obtain ⟨a, v, h1, h2, g1⟩ := gtW_inv hr hE h
              have go : ∀ (A : Addr) (n k : Nat), v = .slice (some A) n k → w0.may A.block → c a σ = res → xs Tryz.prog isI isS [] Eng.noH full (Good w0 ρ c res env (some d)) [⟨some d, .convert s s x, ty, pos, af, none⟩] env w := fun A n k hv hA hc => by
                obtain ⟨w', hrun, hFk, hbk, hmk⟩ := mark_run Tryz.prog A w
                refine xw (by simp [opsOK, Op.operands, h1]) hclw (v := v) (w' := w') ?_ ⟨_, σ, ρ, _, hc, Up.refl ρ, h2, hM.as hFk hA hbk hmk, rfl⟩ trivial
                subst hv
                simp [execOp, ev_of h1, convert, run_underlying hu, run_underlying (kind_spec hk8), hrun]
              rcases onL_inv hr g1 with ⟨e0, g3⟩ | ⟨id, z', j, n, e0, g3⟩ | ⟨id, z', j, n, k', e0, g3⟩ | ⟨_, _, _, _, e0, g3⟩ | ⟨l, e0, g3⟩ | ⟨id, o, e0, g3⟩ <;> subst e0
              · exact absurd g3.symm hr
              · have h2' := h2
                obtain ⟨p, hp, _, _, _, e1⟩ := h2'
                obtain ⟨ob, k1, k2⟩ := obK_inv hr g3
                obtain ⟨y, k3, k4⟩ := getK_inv hr k2
                exact go _ _ _ e1 (hM.far id 0 p (by rw [cget_iff.2 ⟨ob, k1, k3⟩]; rfl) hp) k4
              · have h2' := h2
                obtain ⟨p, hp, _, _, e1⟩ := h2'
                obtain ⟨ob, k1, k2⟩ := obK_inv hr g3
                obtain ⟨y, k3, k4⟩ := getK_inv hr k2
                exact go _ _ _ e1 (hM.far id 0 p (by rw [cget_iff.2 ⟨ob, k1, k3⟩]; rfl) hp) k4
              · exact absurd g3.symm hr
              · exact absurd g3.symm hr
              · exact absurd g3.symm hr
            · exact absurd h.symm hr
        · exact absurd h.symm hr
      · split at h
        · rename_i k0 hu hk0
          obtain ⟨a, v, h1, h2, g1⟩ := gtW_inv hr hE (show (gtW m x).f e _ = res from h)
          obtain ⟨k1, n, e0, g2⟩ := onN_inv hr g1
          obtain ⟨hn, g3⟩ := okK_inv g2 hr
          have hn := Nat.le_of_ble_eq_true hn
          subst e0
          obtain ⟨rfl, _⟩ := h2
          refine xw (v := .float .f64 (fw n)) (w' := w) (by simp [opsOK, Op.operands, h1]) (by simp [cls, hI, hS]) ?_ ⟨_, σ, ρ, _, g3, Up.refl ρ, ⟨rfl, hn⟩, hM, rfl⟩ trivial
          have h1' : ev env x = .int k1 (n : Int) := ev_of h1
          simp [execOp, h1', run_convert_int_float (P := Tryz.prog) w s t k1 .f64 (n : Int) (by rw [kind_spec hk0]; rfl) hu, floatOfInt, fw]
        · exact absurd h.symm hr
/-- What is asked of calls. -/
def CallS (w0 : Fm) (ih : Cl) : Prop := ∀ f al σ v e' σ' (ρ : Pl) vs w, ih f al σ = .mk (.val v) e' σ' → ARs ρ al vs → MR w0 ρ σ w → Does Tryz.prog f vs.toArray w (fun val w' => ∃ ρ', Up ρ ρ' ∧ AR ρ' v val ∧ MR w0 ρ' σ' w')
omit hr hE hM in
theorem evs_toArray {al : List AV} {vs : List Value} {cl : List SV} {cs : List Value} (ha : ARs ρ al vs) (hc : SRs ρ cl cs) : ARs ρ (al ++ cl.map AV.v) (vs ++ cs) := by
  induction ha with
  | nil =>
    show ARs ρ (cl.map AV.v) cs
    induction hc with
    | nil => exact .nil
    | cons h1 _ ih => exact .cons h1.2 ih
  | cons h1 _ ih => exact .cons h1 ih
omit hE hM in
theorem ad3_inv {al : List AV} {vs : List Value} (ha : ARs ρ al vs) (h : ad3 σ c al = res) : ∃ a b q, vs = [.int .u64 (a : Nat), .int .u64 (b : Nat), .int .u64 (q : Nat)] ∧ a < 18446744073709551616 ∧ b < 18446744073709551616 ∧ q ≤ 1 ∧ c (.t [.v (.n .u64 ((a + b + q) % 18446744073709551616)), .v (.n .u64 ((a + b + q) / 18446744073709551616))]) σ = res := by
  cases ha with
  | nil => exact absurd h.symm hr
  | cons h1 ha =>
    cases ha with
    | nil => exact absurd h.symm hr
    | cons h2 ha =>
      cases ha with
      | nil => exact absurd h.symm hr
      | cons h3 ha =>
        cases ha with
        | cons _ _ => exact absurd h.symm hr
        | nil =>
          obtain ⟨k1, a, e1, q1⟩ := onN_inv hr (show adR σ c _ _ _ = res from h)
          obtain ⟨p1, q2⟩ := kkK_inv hr q1
          obtain ⟨k2, b, e2, q3⟩ := onN_inv hr q2
          obtain ⟨p2, q4⟩ := kkK_inv hr q3
          obtain ⟨k3, q, e3, q5⟩ := onN_inv hr q4
          obtain ⟨p3, q6⟩ := kkK_inv hr q5
          obtain ⟨g2, g1⟩ := okK_inv q6 hr
          clear q1 q2 q3 q4 q5 q6 h
          subst e1; subst e2; subst e3
          rw [fN_eq, fN_eq, fN_eq] at g1
          subst p1; subst p2; subst p3
          obtain ⟨rfl, h1⟩ := h1
          obtain ⟨rfl, h2⟩ := h2
          obtain ⟨rfl, h3⟩ := h3
          have h1 : a ≤ 18446744073709551615 := h1
          have h2 : b ≤ 18446744073709551615 := h2
          exact ⟨a, b, q, rfl, by omega, by omega, Nat.le_of_ble_eq_true g2, g1⟩
def AdOK (f : Nat) : Prop := ∀ (a b q : Nat) (w : World), a < 18446744073709551616 → b < 18446744073709551616 → q ≤ 1 → (callFunc f #[.int .u64 (a : Int), .int .u64 (b : Int), .int .u64 (q : Int)]).run Tryz.prog w = .ok (.value (.tuple #[.int .u64 (((a + b + q) % 18446744073709551616 : Nat) : Int), .int .u64 (((a + b + q) / 18446744073709551616 : Nat) : Int)])) w
omit hr hE hM in
theorem ad_ok {f : Nat} (h : n_ad64 = some f) : AdOK f := by
  have e : 245 = f := Option.some.inj h
  subst e
  intro a b q w ha hb hq
  rw [run_callFunc_extern Tryz.func245 (by kernel_rfl) (by kernel_rfl) (by kernel_rfl) (e := add64Entry) (by kernel_rfl), run_add64 a b q (by omega) (by omega) (by omega) (by omega)]
  simp only [Result.andThen]
  congr 5 <;> omega
theorem s_call (hih : CallS w0 ih) {k : Callee} {a : List Operand} {ts : List TypeId} (h : (caW m k a ts).f ih e σ c = res) (hb : ∀ b, k ≠ .builtin b) : xs Tryz.prog isI isS [] Eng.noH full (Good w0 ρ c res env dst) [⟨dst, .call { callee := k, args := a.toArray, argTypes := ts.toArray }, ty, pos, af, none⟩] env w := by
  unfold caW at h
  split at h
  · rename_i f
    split at h
    · rename_i hf
      obtain ⟨al, vs, h1, h2, g1⟩ := gtsW_inv hr hE (show (gtsW m a).f e _ = res from h)
      obtain ⟨v, e', σ', g2, g3⟩ := rvK_inv hr g1
      refine xcall h1 hf (hih f al σ v e' σ' ρ vs w g2 h2 hM) (fun val w' hS => ?_)
      obtain ⟨ρ', r1, r2, r3⟩ := hS
      exact ⟨v, σ', ρ', val, g3, r1, r2, r3, rfl⟩
    · split at h
      · rename_i q hq
        split at h
        · rename_i hqf
          obtain rfl := Nat.eq_of_beq_eq_true hqf
          obtain ⟨al, vs, h1, h2, g1⟩ := gtsW_inv hr hE (show (gtsW m a).f e _ = res from h)
          obtain ⟨x, y, z, rfl, b1, b2, b3, g2⟩ := ad3_inv hr h2 g1
          obtain ⟨k1, k2⟩ := evs_spec h1
          refine xw (v := .tuple #[.int .u64 (((x + y + z) % 18446744073709551616 : Nat) : Int), .int .u64 (((x + y + z) / 18446744073709551616 : Nat) : Int)]) (by simpa [opsOK, Op.operands, Call.operands, evo] using k2) rfl (w' := w) ?_ ?_ trivial
          · have e1 : ev env (.func q) = .func (.func q) #[] #[] := rfl
            have hr' := ad_ok hq x y z w b1 b2 b3
            simp [execOp, resolve, e1, Deferred.ofValue, invoke, k1, hr']
          · refine ⟨_, σ, ρ, _, g2, Up.refl ρ, ?_, hM, rfl⟩
            exact ⟨_, .cons ⟨rfl, by show _ ≤ 18446744073709551615; omega⟩ (.cons ⟨rfl, by show _ ≤ 18446744073709551615; omega⟩ .nil), rfl⟩
        · exact absurd h.symm hr
      · exact absurd h.symm hr
  · rename_i t
    obtain ⟨q, h1, g1⟩ := gtT_inv hr (show (gtT m t).f e _ = res from h)
    obtain ⟨fv, h2, h3⟩ := hE t q h1
    obtain ⟨al, vs, h4, h5, g2⟩ := gtsW_inv hr hE g1
    obtain ⟨g, cl, e0, g3⟩ := onF_inv hr g2
    obtain ⟨hf, g4⟩ := okK_inv g3 hr
    rw [fP_eq] at g4
    obtain ⟨v, e', σ', g5, g6⟩ := rvK_inv hr g4
    subst e0
    obtain ⟨cs, h6, rfl⟩ := h3
    have hd := hih g _ σ v e' σ' ρ (vs ++ cs) w g5 (evs_toArray h5 h6) hM
    refine xcallv (cap := cs.toArray) h2 h4 hf (by rw [List.append_toArray]; exact hd) (fun val w' hS => ?_)
    obtain ⟨ρ', r1, r2, r3⟩ := hS
    exact ⟨v, σ', ρ', val, g6, r1, r2, r3, rfl⟩
  · rename_i b
    exact absurd rfl (hb b)
  · exact absurd h.symm hr
end
end Rn
end Eng
end Go.Proofs.YtalnkjpgnkfedaaGreatDoor
