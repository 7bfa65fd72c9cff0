/-
  Parts of the proof: Zd, Zp, Zf.
-/
import Derived.Test.YtiebbecknfpdeaaGreatDoorNB0b
import Derived.Test.YtiebbecknfpdeaaGreatDoorNWb
set_option maxRecDepth 100000
set_option maxHeartbeats 64000000
namespace Go.Proofs.YtiebbecknfpdeaaGreatDoor.Eng
open Go.RowKit
section
attribute [local irreducible] xs T
structure FsM where
 quota : Int
 flts : List (Int × Int)
 calls : Int
 down : Bool
def flC (a : Int × Int) : List Value := [.int .i64 a.1, .int .i64 a.2]
theorem flC_len (a : Int × Int) : (flC a).length = 2 := rfl
def fsC (m : FsM) (vf ve vn : Value) : Array Value := #[.int .i64 m.quota, vf, .int .i64 m.calls, .bool m.down, ve, vn]
def begM (m : FsM) : Int × Int × FsM :=
 if m.down then (0, 12, m)
 else match m.flts.find? fun a => decide (a.1 = m.calls) with
  | none => (0, 0, { m with calls := m.calls + 1 })
  | some a => if a.2 = 3 then (3, 12, { m with calls := m.calls + 1, down := true }) else (a.2, 11, { m with calls := m.calls + 1 })
theorem begM_down {m : FsM} (h : m.down = true) : begM m = (0, 12, m) := by unfold begM; rw [if_pos h]
theorem fsnone_does (w : World) (g : Nat) (m : FsM) (vf vn : Value) (A : Option Addr) (n c : Nat) (hB : Blk w g 109 (fsC m vf (.slice A n c) vn)) (h0 : 0 < n) : Does Tryz.prog 62 #[.pointer (some ⟨g, 0, none⟩)] w fun r w' => r = .bool false ∧ w = w' := by
 refine does1 Tryz.func62 rfl (by kernel_rfl) ?_
 have k4 : w.cell? ⟨g, 4, none⟩ = some (.slice A n c) := hB.cell 4
 refine goL ?_
 exact y10
theorem begin_does (w : World) (g : Nat) (m : FsM) (vf vn : Value) (A : Option Addr) (n c : Nat) (hB : Blk w g 109 (fsC m vf (.slice A n c) vn)) (h0 : 0 < n) (hf : Rw flC w vf m.flts) (hc : 0 ≤ m.calls ∧ m.calls ≤ 4000000000000000000) (ha : vf.ownBlock ≠ some g) :
  Does Tryz.prog 64 #[.pointer (some ⟨g, 0, none⟩)] w fun r w' => r = .tuple #[.int .i64 (begM m).1, .int .i64 (begM m).2.1] ∧ Blk w' g 109 (fsC (begM m).2.2 vf (.slice A n c) vn) ∧ Fr (· = g) w w' := by
 refine does1 Tryz.func64 rfl (by kernel_rfl) ?_
 obtain ⟨AF, cF, rfl, hcF1, hcF2, hAF⟩ := hf.op flC_len
 have k2 : w.cell? ⟨g, 2, none⟩ = some (.int .i64 m.calls) := hB.cell 2
 have k3 : w.cell? ⟨g, 3, none⟩ = some (.bool m.down) := hB.cell 3
 have hne : ∀ {b o n c}, (Value.slice (some ⟨b, o, none⟩) n c).ownBlock ≠ some g → b ≠ g := fun h e => h (by rw [e]; rfl)
 have hnone := fsnone_does w g m (.slice AF m.flts.length cF) vn A n c hB h0
 refine goL ?_
 refine tscope1 (α := Nat) 0 rfl (fun i => [(0, .pointer (some ⟨g, 0, none⟩)), (4, .int .i64 m.calls), (5, .int .i64 (i : Int))])
  (fun i w' => Blk w' g 109 (fsC { m with calls := m.calls + 1 } (.slice AF m.flts.length cF) (.slice A n c) vn) ∧ Fr (· = g) w w' ∧ i ≤ m.flts.length ∧ m.down = false ∧ (m.flts.drop i).find? (fun a => decide (a.1 = m.calls)) = m.flts.find? (fun a => decide (a.1 = m.calls)))
  (fun i => m.flts.length - i) ?_ ?_
 ·rintro i w1 ⟨hB1, hF1, hi, hd, hgo⟩
  have k1 : w1.cell? ⟨g, 1, none⟩ = some (.slice AF m.flts.length cF) := hB1.cell 1
  by_cases hlt : i < m.flts.length
  ·obtain ⟨b, o, a, rfl, _, hx, hdr, hcell⟩ := hAF.at_ hlt
   have hbg : b ≠ g := hne ha
   have q0 : w1.cell? ⟨b, o + i * 2 + 0, none⟩ = some (.int .i64 a.1) := hF1.cell (hcell 0 _ rfl) hbg
   have q1 : w1.cell? ⟨b, o + i * 2 + 1, none⟩ = some (.int .i64 a.2) := hF1.cell (hcell 1 _ rfl) hbg
   rw [hdr, List.find?_cons] at hgo
   by_cases h1 : a.1 = m.calls
   ·rw [decide_eq_true h1] at hgo
    dsimp only at hgo
    by_cases h3 : a.2 = 3
    ·have hbm : begM m = (3, 12, { m with calls := m.calls + 1, down := true }) := by
      unfold begM; rw [if_neg (by rw [hd]; decide), ← hgo]; dsimp only; rw [if_pos h3]
     refine gz4 ?_
     refine xstb hB1 rfl rfl (by kernel_rfl) rfl rfl (fun w2 hB2 hF2 => ?_)
     refine goL ?_
     exact tret2 rfl rfl rfl ⟨by rw [hbm, h3], by rw [hbm]; exact hB2, hF1.trans hF2 fun _ _ h => h⟩
    ·have hbm : begM m = (a.2, 11, { m with calls := m.calls + 1 }) := by
      unfold begM; rw [if_neg (by rw [hd]; decide), ← hgo]; dsimp only; rw [if_neg h3]
     refine gz4 ?_
     exact tret2 rfl rfl rfl ⟨by rw [hbm], by rw [hbm]; exact hB1, hF1⟩
   ·rw [decide_eq_false h1] at hgo
    dsimp only at hgo
    refine gz4 ?_
    exact tgoto rfl ⟨_, by dsimp only; omega, rfl, i + 1, sub ⟨rfl, rfl, rfl⟩, ⟨hB1, hF1, hlt, hd, hgo⟩, rfl⟩
  ·obtain rfl : i = m.flts.length := by omega
   rw [List.drop_length] at hgo
   have hbm : begM m = (0, 0, { m with calls := m.calls + 1 }) := by
    unfold begM; rw [if_neg (by rw [hd]; decide), ← hgo]; rfl
   refine goL ?_
   exact tret2 rfl rfl rfl ⟨by rw [hbm], by rw [hbm]; exact hB1, hF1⟩
 ·intro H
  rcases Bool.eq_false_or_eq_true m.down with hd | hd
  ·rw [hd] at k3
   refine goL ?_
   refine xcall rfl rfl hnone ?_
   rintro r w1 ⟨rfl, rfl⟩
   refine goL ?_
   exact tret2 rfl rfl rfl ⟨by rw [begM_down hd], by rw [begM_down hd]; exact hB, Fr.refl _ _⟩
  ·rw [hd] at k3
   refine goL ?_
   refine xcall rfl rfl hnone ?_
   rintro r w1 ⟨rfl, rfl⟩
   refine goL ?_
   refine xstb hB rfl rfl (by kernel_rfl) rfl rfl (fun w2 hB2 hF2 => ?_)
   refine goL ?_
   refine tlabel ?_
   exact tweak (H 0 w2 ⟨hB2, hF2, Nat.zero_le _, hd, rfl⟩) (sub ⟨rfl, rfl, rfl⟩)
end
section
def clK (k : Int) : Int := if k < 1 ∨ 3 < k then 1 else k
def rcalK (fl : List (Int × Int)) (n : Int) : Int := match fl.find? fun a => decide (a.1 = n) with
 | none => 0
 | some a => clK a.2
theorem rcalK_cons (a : Int × Int) (fl : List (Int × Int)) (n : Int) : rcalK (a :: fl) n = if a.1 = n then clK a.2 else rcalK fl n := by
 unfold rcalK
 rw [List.find?_cons]
 by_cases h : a.1 = n
 ·rw [decide_eq_true h, if_pos h]
 ·rw [decide_eq_false h, if_neg h]
def rcal (m : FsM) : Int := if m.down then -1 else if rcalK m.flts m.calls = 3 then -1 else rcalK m.flts m.calls
theorem rcal_down {m : FsM} (h : m.down = true) : rcal m = -1 ∧ (begM m).2.2 = m := by
 unfold rcal; rw [if_pos h, begM_down h]; exact ⟨rfl, rfl⟩
theorem clK_pos (k : Int) : 0 < clK k := by unfold clK; split <;> omega
theorem rcal_up {m : FsM} (h : m.down = false) : (begM m).2.2 = { m with calls := m.calls + 1, down := decide (rcalK m.flts m.calls = 3) } := by
 unfold begM rcalK
 rw [if_neg (by rw [h]; decide)]
 cases m.flts.find? fun a => decide (a.1 = m.calls) with
 | none =>
  exact congrArg (fun d => (⟨m.quota, m.flts, m.calls + 1, d⟩ : FsM)) (h.trans (by decide : false = decide ((0 : Int) = 3)))
 | some a =>
  dsimp only
  by_cases h3 : a.2 = 3
  ·have hk : clK a.2 = 3 := by rw [h3]; rfl
   rw [if_pos h3]
   exact congrArg (fun d => (⟨m.quota, m.flts, m.calls + 1, d⟩ : FsM)) (decide_eq_true hk).symm
  ·rw [if_neg h3]
   have hk : clK a.2 ≠ 3 := by unfold clK; split <;> omega
   exact congrArg (fun d => (⟨m.quota, m.flts, m.calls + 1, d⟩ : FsM)) (h.trans (decide_eq_false hk).symm)
theorem rcal_cases (m : FsM) : (rcal m = -1 ∧ (begM m).2.1 = 12 ∧ (begM m).1 ≠ 2) ∨ (0 < rcal m ∧ (begM m).2.1 = 11 ∧ (rcal m = 2 ↔ (begM m).1 = 2)) ∨ (rcal m = 0 ∧ (begM m).2.1 = 0 ∧ (begM m).1 = 0) := by
 by_cases hd : m.down = true
 ·rw [begM_down hd]
  unfold rcal
  rw [if_pos hd]
  exact .inl ⟨rfl, rfl, by show ¬ (0 : Int) = 2; decide⟩
 ·unfold rcal begM rcalK
  rw [if_neg hd, if_neg hd]
  cases m.flts.find? fun a => decide (a.1 = m.calls) with
  | none => exact .inr (.inr ⟨rfl, rfl, rfl⟩)
  | some a =>
   dsimp only
   by_cases h3 : a.2 = 3
   ·have hk : clK a.2 = 3 := by rw [h3]; rfl
    rw [if_pos h3]
    exact .inl ⟨if_pos hk, rfl, by show ¬ (3 : Int) = 2; decide⟩
   ·have h4 : clK a.2 ≠ 3 := by unfold clK; split <;> omega
    rw [if_neg h3, if_neg h4]
    refine .inr (.inl ⟨clK_pos _, rfl, ?_⟩)
    show clK a.2 = 2 ↔ a.2 = 2
    unfold clK; split <;> omega
def roomM (t : Tre) (p : Str) : Int := if (findT t.es p).isSome then 6 else if 100 ≤ t.es.length then 13 else 0
def atP (p : Str) : List En → Nat
 | [] => 0
 | e :: r => if lessP e.path p then atP p r + 1 else 0
theorem atP_le (p : Str) : ∀ l, atP p l ≤ l.length
 | [] => Nat.le_refl _
 | e :: r => by
  rw [atP, List.length_cons]
  have := atP_le p r
  split <;> omega
def insP (es : List En) (p : Str) (k : Int) : List En := es.take (atP p es) ++ ⟨p, k⟩ :: es.drop (atP p es)
def timeN (n : Nd) (c : Int) : Nd := { n with time := c }
def stampN (t : Tre) (p : Str) (c : Int) : List Nd := match parP p with
 | none => t.ns
 | some q => match findT t.es q with
  | none => t.ns
  | some k => t.ns.set k.toNat (timeN (t.ns.getD k.toNat default) c)
def stampT (t : Tre) (p : Str) (c : Int) : Tre := ⟨t.es, stampN t p c⟩
def enterT (t : Tre) (p : Str) (k : Int) (c : Int) : Tre := stampT ⟨insP t.es p k, t.ns⟩ p c
def madeN (n : Nd) (c : Int) : Nd := ⟨n.kind, n.mode, 0, 0, c, [], [], 0, [], n.target, n.major, n.minor⟩
def makeE (m : FsM) (t : Tre) (p : Str) (n : Nd) : Int :=
 if (begM m).2.1 ≠ 0 then (begM m).2.1 else if wrongM t p ≠ 0 then wrongM t p else if nodeOK n = false then 1 else roomM t p
def makeT (m : FsM) (t : Tre) (p : Str) (n : Nd) : Tre :=
 if makeE m t p n = 0 then enterT ⟨t.es, t.ns ++ [madeN n (begM m).2.2.calls]⟩ p t.ns.length (begM m).2.2.calls else t
end
section
structure FsT (t : Tre) : Prop where
 g : GoodT t
 a : t.es.Pairwise ltE
theorem may_fst {t : Tre} (h : mayT t = true) : FsT t := ⟨may_good h, mayT_asc h⟩
theorem kids_dir {t : Tre} (h : FsT t) {d : En} (hd : d ∈ t.es) {k : Str} (hk : k ∈ kidsT t d.path) : kindAt t.ns d.node = 1 := by
 obtain ⟨e, he, h1, _⟩ := kid_mem hk
 obtain ⟨h2, h3⟩ := par_some h1
 have hne : e.path ≠ [] := fun e0 => by rw [e0, partsP_nil] at h2; exact h2 rfl
 obtain ⟨x, hx, h4, h5⟩ := h.g.par e he hne
 rw [← nodup_path h.g.nd hx hd (h4.trans h3)]
 exact h5
end
end Go.Proofs.YtiebbecknfpdeaaGreatDoor.Eng
