/-
  Laws of made trees: what all of them need; classes.
-/
import Derived.Test.YtiebbecknfpdeaaGreatDoorQB0b
import Derived.Test.YtiebbecknfpdeaaGreatDoorQB10a
import Derived.Test.YtiebbecknfpdeaaGreatDoorQWp
namespace Go.Proofs.YtiebbecknfpdeaaGreatDoor
open Go.RowKit
namespace Eng
attribute [local irreducible] xs T
/-- What is known of Make. -/
def MkD : Prop := ∀ (w : World) (v : Value) (zs : List Int), IRow w v zs → Does Tryz.prog 15 #[v] w fun r w' => ∃ ve vn nvs, r = .agg #[ve, vn] ∧ TrV w' ve vn nvs (mkT (zs.map uN)) ∧ Ext w w'
theorem may_nodes {t : Tre} (h : mayT t = true) : ∀ n ∈ t.ns, nodeOK n = true := by
  obtain ⟨es, ns⟩ := t
  unfold mayT at h
  simp only [Bool.and_eq_true, decide_eq_true_eq] at h
  have := ((ordB_iff ns es none 0 (Nat.zero_le _)).1 h.1.1.2).2.2.2.1
  intro n hn
  obtain ⟨i, hi, rfl⟩ := List.getElem_of_mem hn
  have h2 := this i (Nat.zero_le _) hi
  rwa [List.getD_eq_getElem?_getD, List.getElem?_eq_getElem hi] at h2
theorem node_rows {n : Nd} (h : nodeOK n = true) : NdL n := by
  have hm : metaOK n = true := by
    unfold nodeOK at h
    rw [Bool.and_eq_true] at h
    exact h.1
  unfold metaOK aclOK at hm
  simp only [Bool.and_eq_true, decide_eq_true_eq] at hm
  refine ⟨by omega, by omega, ?_⟩
  by_cases h2 : n.kind = 2
  · have := (file_pc (node_file h h2)).2.2.2.2; omega
  · have hb := (node_small h).1
    have key : n.data = [] := by
      unfold nodeOK at h
      rw [if_neg h2] at h
      split at h
      · simp [noData, noText] at h
        exact h.2.1.1.2
      · split at h
        · simp [noData] at h
          exact h.2.1.1.1.1.2
        · split at h
          · simp [noData, noText] at h
            exact h.2.1.1.1.1.1.2
          · simp at h
    rw [key]; exact Nat.zero_le _
theorem may_ok {t : Tre} (h : mayT t = true) : NsOK t.ns ∧ (∀ n ∈ t.ns, NdL n) ∧ TsOK t := by
  have hn := may_nodes h
  have h1 : NsOK t.ns := fun n hnn => by have := (node_small (hn n hnn)).1; omega
  exact ⟨h1, fun n hnn => node_rows (hn n hnn), ⟨h1, fun n hnn => by have := (node_small (hn n hnn)).2; omega, fun e he => by have := mayP_len (mayT_path h e he); omega⟩⟩
theorem may_ns {t : Tre} (h : mayT t = true) : t.ns.length ≤ t.es.length := by
  rw [← first_all h]
  have key : ∀ (l : List En) (u : Nat), finU u l ≤ u + l.length := by
    intro l
    induction l with
    | nil => intro u; exact Nat.le_refl _
    | cons e l ih =>
      intro u
      rw [finU]
      have := ih (if e.node < u then u else u + 1)
      rw [List.length_cons]
      split at this <;> rename_i hh
      · rw [if_pos hh]; omega
      · rw [if_neg hh]; omega
  have := key t.es 0
  omega
end Eng
end Go.Proofs.YtiebbecknfpdeaaGreatDoor
