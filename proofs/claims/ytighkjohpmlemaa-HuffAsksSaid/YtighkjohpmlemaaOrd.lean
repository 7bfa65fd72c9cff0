/-
  Plain law: the order of the symbols, the two queues, the depths: what merge computes.
-/
import Derived.Test.YtighkjohpmlemaaSb
namespace Go.Proofs.Ytighkjohpmlemaa
open Go.RowKit
namespace Eng

/-- The symbols that come at all. -/
def posB (cs : List Int) : List Int := ((List.range cs.length).filter fun i => decide (0 < cs.getD i 0)).map fun (i : Nat) => (i : Int)
/-- Their order. -/
def cnt (cs : List Int) (x : Int) : Int := cs.getD x.toNat 0
def insB (c : Int → Int) (x : Int) : List Int → List Int
  | [] => [x]
  | y :: l => if c x < c y ∨ c x = c y ∧ x < y then x :: y :: l else y :: insB c x l
def srtB (c : Int → Int) : List Int → List Int
  | [] => []
  | x :: l => insB c x (srtB c l)

theorem insB_perm (c : Int → Int) (x : Int) : ∀ l, (insB c x l).Perm (x :: l)
  | [] => List.Perm.refl _
  | y :: l => by
    unfold insB
    split
    · exact List.Perm.refl _
    · exact ((insB_perm c x l).cons y).trans (List.Perm.swap x y l)
theorem srtB_perm (c : Int → Int) : ∀ l, (srtB c l).Perm l
  | [] => List.Perm.refl _
  | x :: l => (insB_perm c x _).trans ((srtB_perm c l).cons x)
theorem insB_sorted (c : Int → Int) (x : Int) : ∀ l, l.Pairwise (lt c) → (∀ y ∈ l, x ≠ y) → (insB c x l).Pairwise (lt c)
  | [], _, _ => by simp [insB]
  | y :: l, h, hn => by
    unfold insB
    rw [List.pairwise_cons] at h
    split
    · rename_i hh
      rw [List.pairwise_cons, List.pairwise_cons]
      refine ⟨fun z hz => ?_, h.1, h.2⟩
      rcases List.mem_cons.1 hz with rfl | hz
      · exact hh
      · exact lt_trans hh (h.1 z hz)
    · rename_i hh
      rw [List.pairwise_cons]
      refine ⟨fun z hz => ?_, insB_sorted c x l h.2 fun z hz => hn z (List.mem_cons_of_mem _ hz)⟩
      rcases List.mem_cons.1 ((insB_perm c x l).subset hz) with rfl | hz
      · have := hn y (List.mem_cons_self ..)
        unfold lt; omega
      · exact h.1 z hz
theorem srtB_sorted (c : Int → Int) : ∀ l : List Int, l.Nodup → (srtB c l).Pairwise (lt c)
  | [], _ => List.Pairwise.nil
  | x :: l, h => by
    rw [List.nodup_cons] at h
    exact insB_sorted c x _ (srtB_sorted c l h.2) fun y hy e => h.1 (by rw [e]; exact (srtB_perm c l).subset hy)

theorem lt_asymm {c : Int → Int} {x y : Int} (h : lt c x y) (h' : lt c y x) : False := by unfold lt at h h'; omega
/-- A sorted row is one only. -/
theorem sorted_unique {c : Int → Int} : ∀ {l l' : List Int}, l.Pairwise (lt c) → l'.Pairwise (lt c) → l.Perm l' → l = l'
  | [], l', _, _, hp => (List.nil_perm.1 hp).symm
  | x :: l, [], _, _, hp => absurd hp (by simp)
  | x :: l, y :: l', h, h', hp => by
    rw [List.pairwise_cons] at h h'
    have e : x = y := by
      rcases List.mem_cons.1 (hp.subset (List.mem_cons_self ..)) with e | hx
      · exact e
      · rcases List.mem_cons.1 (hp.symm.subset (List.mem_cons_self ..)) with e | hy
        · exact e.symm
        · exact (lt_asymm (h'.1 x hx) (h.1 y hy)).elim
    subst e
    rw [sorted_unique h.2 h'.2 (List.Perm.cons_inv hp)]

theorem posB_asc (cs : List Int) : (posB cs).Pairwise (· < ·) := by
  unfold posB
  rw [List.pairwise_map]
  exact ((List.pairwise_lt_range).filter _).imp fun h => by omega
theorem posB_stb (cs : List Int) (c : Int → Int) : (posB cs).Pairwise (stb c) := List.Pairwise.imp (R := (· < ·)) (S := stb c) (fun h => fun _ => h) (posB_asc cs)
theorem posB_mem {cs : List Int} {x : Int} (h : x ∈ posB cs) : 0 ≤ x ∧ x < cs.length ∧ 0 < cnt cs x := by
  unfold posB at h
  obtain ⟨i, hi, rfl⟩ := List.mem_map.1 h
  rw [List.mem_filter, List.mem_range] at hi
  exact ⟨by omega, by omega, by simpa [cnt] using hi.2⟩
theorem posB_nodup (cs : List Int) : (posB cs).Nodup := (posB_asc cs).imp fun h e => by omega

def ordB (cs : List Int) : List Int := srtB (cnt cs) (posB cs)
theorem ordB_unique {cs S : List Int} (hp : S.Perm (posB cs)) (hs : S.Pairwise (lt (cnt cs))) : S = ordB cs :=
  sorted_unique hs (srtB_sorted _ _ (posB_nodup cs)) (hp.trans (srtB_perm _ _).symm)
theorem ordB_perm (cs : List Int) : (ordB cs).Perm (posB cs) := srtB_perm _ _
theorem ordB_sorted (cs : List Int) : (ordB cs).Pairwise (lt (cnt cs)) := srtB_sorted _ _ (posB_nodup cs)

end Eng
end Go.Proofs.Ytighkjohpmlemaa
