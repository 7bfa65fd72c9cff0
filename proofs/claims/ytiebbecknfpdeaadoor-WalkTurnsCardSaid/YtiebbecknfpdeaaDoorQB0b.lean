/-
  Parts of the proof, joined: Xe, Za, Ze, Zh, Zw.
-/
import Derived.Test.YtiebbecknfpdeaaDoorQB0a
namespace Go.Proofs.YtiebbecknfpdeaaDoor
namespace Eng
theorem renG_app : ∀ (l : List En) (s : List Int), ∃ x, (renG s l).2 = s ++ x
  | [], s => ⟨[], by rw [renG, List.append_nil]⟩
  | e :: r, s => by
    rw [renG]
    split
    · exact renG_app r s
    · obtain ⟨x, hx⟩ := renG_app r (s ++ [e.node])
      exact ⟨e.node :: x, by dsimp only; rw [hx, List.append_assoc]; rfl⟩
theorem renG_nodup : ∀ (l : List En) (s : List Int), s.Nodup → (renG s l).2.Nodup
  | [], s, h => h
  | e :: r, s, h => by
    rw [renG]
    split
    · exact renG_nodup r s h
    · rename_i hn
      refine renG_nodup r (s ++ [e.node]) (List.nodup_append.2 ⟨h, by simp, fun a ha b hb hab => ?_⟩)
      rw [List.mem_singleton.1 hb] at hab
      exact hn (hab ▸ ha)
theorem renG_mem (k : Int) : ∀ (l : List En) (s : List Int), k ∈ (renG s l).2 ↔ k ∈ s ∨ ∃ e ∈ l, e.node = k
  | [], s => by simp [renG]
  | e :: r, s => by
    rw [renG]
    split
    · rename_i hm
      dsimp only
      rw [renG_mem k r s]
      constructor
      · rintro (h | ⟨x, hx, he⟩)
        · exact .inl h
        · exact .inr ⟨x, by simp [hx], he⟩
      · rintro (h | ⟨x, hx, he⟩)
        · exact .inl h
        · rcases List.mem_cons.1 hx with rfl | hx
          · exact .inl (he ▸ hm)
          · exact .inr ⟨x, hx, he⟩
    · dsimp only
      rw [renG_mem k r (s ++ [e.node]), List.mem_append, List.mem_singleton]
      constructor
      · rintro ((h | h) | ⟨x, hx, he⟩)
        · exact .inl h
        · exact .inr ⟨e, by simp, h.symm⟩
        · exact .inr ⟨x, by simp [hx], he⟩
      · rintro (h | ⟨x, hx, he⟩)
        · exact .inl (.inl h)
        · rcases List.mem_cons.1 hx with rfl | hx
          · exact .inl (.inr he.symm)
          · exact .inr ⟨x, hx, he⟩
/-- The entries, renumbered, by the numbers met. -/
def renE (F : List Int) (e : En) : En := ⟨e.path, (F.idxOf e.node : Int)⟩
theorem renG_fst : ∀ (l : List En) (s : List Int), (renG s l).1 = l.map (renE (renG s l).2)
  | [], s => rfl
  | e :: r, s => by
    rw [renG]
    split
    · rename_i hm
      obtain ⟨x, hx⟩ := renG_app r s
      dsimp only
      rw [List.map_cons, ← renG_fst r s]
      congr 1
      unfold renE
      rw [hx, List.idxOf_append, if_pos hm]
    · rename_i hm
      obtain ⟨x, hx⟩ := renG_app r (s ++ [e.node])
      dsimp only
      rw [List.map_cons, ← renG_fst r (s ++ [e.node])]
      congr 1
      unfold renE
      rw [hx, List.idxOf_append, if_pos (by simp), List.idxOf_append, if_neg hm]
      simp
theorem renG_num : ∀ (l : List En) (s : List Int), numOK (renG s l).2.length s.length (renG s l).1 = true ∧ finU s.length (renG s l).1 = (renG s l).2.length
  | [], s => ⟨rfl, rfl⟩
  | e :: r, s => by
    rw [renG]
    split
    · rename_i hm
      obtain ⟨h1, h2⟩ := renG_num r s
      obtain ⟨x, hx⟩ := renG_app r s
      have hi := List.idxOf_lt_length_iff.2 hm
      have hl : s.length ≤ (renG s r).2.length := by rw [hx, List.length_append]; omega
      dsimp only
      rw [numOK, finU]
      dsimp only
      rw [if_pos (by omega), h1, h2]
      refine ⟨?_, rfl⟩
      simp only [Bool.and_eq_true, decide_eq_true_eq, and_true]
      omega
    · rename_i hm
      obtain ⟨h1, h2⟩ := renG_num r (s ++ [e.node])
      obtain ⟨x, hx⟩ := renG_app r (s ++ [e.node])
      have hl : s.length + 1 ≤ (renG (s ++ [e.node]) r).2.length := by rw [hx, List.length_append, List.length_append]; simp only [List.length_cons, List.length_nil]; omega
      have e1 : (s ++ [e.node]).length = s.length + 1 := by simp
      rw [e1] at h1 h2
      dsimp only
      rw [numOK, finU]
      dsimp only
      rw [if_neg (by omega), h1, h2]
      refine ⟨?_, rfl⟩
      simp only [Bool.and_eq_true, decide_eq_true_eq, and_true]
      omega
/-- What a tree must have to have a normal form. -/
structure GoodT (t : Tre) : Prop where
  inr : ∀ e ∈ t.es, 0 ≤ e.node ∧ e.node < t.ns.length
  len : t.es.length ≤ 100
  path : ∀ e ∈ t.es, mayP e.path = true
  nd : (t.es.map (·.path)).Nodup
  root : ∃ e ∈ t.es, e.path = [] ∧ kindAt t.ns e.node = 1
  par : ∀ e ∈ t.es, e.path ≠ [] → ∃ d ∈ t.es, d.path = upP e.path ∧ kindAt t.ns d.node = 1
  node : ∀ e ∈ t.es, nodeOK (t.ns.getD e.node.toNat default) = true
  dir : ∀ e ∈ t.es, kindAt t.ns e.node = 1 → ∀ e' ∈ t.es, e'.node = e.node → e' = e
theorem inR_all {t : Tre} (h : ∀ e ∈ t.es, 0 ≤ e.node ∧ e.node < t.ns.length) : t.es.all (inR t.ns.length) = true := by
  rw [List.all_eq_true]
  intro e he
  unfold inR
  rw [decide_eq_true (h e he).1, decide_eq_true (h e he).2]
  rfl
theorem nodup_path {l : List En} (h : (l.map (·.path)).Nodup) {a b : En} (ha : a ∈ l) (hb : b ∈ l) (hp : a.path = b.path) : a = b := by
  induction l with
  | nil => cases ha
  | cons x r ih =>
    rw [List.map_cons, List.nodup_cons] at h
    rcases List.mem_cons.1 ha with e1 | ha
    · rcases List.mem_cons.1 hb with e2 | hb
      · rw [e1, e2]
      · exact absurd (List.mem_map.2 ⟨b, hb, by rw [← hp, e1]⟩) h.1
    · rcases List.mem_cons.1 hb with e2 | hb
      · exact absurd (List.mem_map.2 ⟨a, ha, by rw [hp, e2]⟩) h.1
      · exact ih h.2 ha hb
theorem findT_nodup : ∀ {l : List En}, (l.map (·.path)).Nodup → ∀ {e : En}, e ∈ l → findT l e.path = some e.node
  | [], _, e, he => by cases he
  | x :: r, h, e, he => by
    rw [findT]
    split
    · rename_i hp
      rw [nodup_path h List.mem_cons_self he hp]
    · rename_i hp
      rw [List.map_cons, List.nodup_cons] at h
      rcases List.mem_cons.1 he with e1 | he
      · exact absurd (by rw [e1]) hp
      · exact findT_nodup h.2 he
theorem nodup_of_paths {l : List En} (h : (l.map (·.path)).Nodup) : l.Nodup := (List.pairwise_map.1 h).imp fun hne e => hne (by rw [e])
theorem asc_nodup {l : List En} (h : l.Pairwise ltE) : (l.map (·.path)).Nodup := by
  refine List.pairwise_map.2 (h.imp fun {a b} hlt e => ?_)
  unfold ltE lessP at hlt
  rw [e, lessL_irr] at hlt
  cases hlt
theorem le_lt {a b : En} (ha : mayP a.path = true) (hb : mayP b.path = true) (hne : a.path ≠ b.path) (h : leE a b) : ltE a b := by
  unfold leE lessP at h
  unfold ltE lessP
  rcases lessL_tri (partsP a.path) (partsP b.path) (fun e => hne (parts_inj ha hb e)) with g | g
  · exact g
  · rw [h] at g; cases g
theorem sort_strict : ∀ {l : List En}, (∀ e ∈ l, mayP e.path = true) → (l.map (·.path)).Nodup → l.Pairwise leE → l.Pairwise ltE
  | [], _, _, _ => List.Pairwise.nil
  | x :: r, hm, hn, hs => by
    rw [List.pairwise_cons] at hs ⊢
    rw [List.map_cons, List.nodup_cons] at hn
    refine ⟨fun y hy => le_lt (hm x (by simp)) (hm y (by simp [hy])) (fun e => hn.1 (List.mem_map.2 ⟨y, hy, e.symm⟩)) (hs.1 y hy), sort_strict (fun e he => hm e (by simp [he])) hn.2 hs.2⟩
theorem pathsOK_some : ∀ {l : List En} {p : Str}, (∀ e ∈ l, mayP e.path = true) → (∀ e ∈ l, lessP p e.path = true) → l.Pairwise ltE → pathsOK (some p) l = true
  | [], _, _, _, _ => rfl
  | x :: r, p, h1, h2, h3 => by
    rw [List.pairwise_cons] at h3
    rw [pathsOK, h1 x (by simp), h2 x (by simp), pathsOK_some (fun e he => h1 e (by simp [he])) h3.1 h3.2]
    rfl
/-- The first of entries in strict order is the root, if it is there. -/
theorem root_first {x : En} {r : List En} (h : (x :: r).Pairwise ltE) {e : En} (he : e ∈ x :: r) (hp : e.path = []) : x = e := by
  rcases List.mem_cons.1 he with e1 | he
  · exact e1.symm
  · have := (List.pairwise_cons.1 h).1 e he
    unfold ltE at this
    rw [hp, less_nil] at this
    cases this
theorem one_of {α : Type} {l : List α} {e : α} (hn : l.Nodup) (he : e ∈ l) (h : ∀ x ∈ l, x = e) : l = [e] := by
  cases l with
  | nil => cases he
  | cons x r =>
    have hx := h x (by simp)
    subst hx
    cases r with
    | nil => rfl
    | cons y r =>
      have := h y (by simp)
      subst this
      rw [List.nodup_cons] at hn
      exact absurd List.mem_cons_self hn.1
theorem idx_get {F : List Int} {k : Int} (h : k ∈ F) : F[F.idxOf k]? = some k := by
  have hl := List.idxOf_lt_length_iff.2 h
  rw [List.getElem?_eq_getElem hl, List.getElem_idxOf hl]
theorem idx_inj {F : List Int} {a b : Int} (ha : a ∈ F) (h : F.idxOf a = F.idxOf b) : a = b := by
  have hb : b ∈ F := List.idxOf_lt_length_iff.1 (h ▸ List.idxOf_lt_length_iff.2 ha)
  have h1 := idx_get ha
  have h2 := idx_get hb
  rw [h, h2] at h1
  exact (Option.some.inj h1).symm
/-- The nodes that are met. -/
theorem renN_get {ns : List Nd} {F : List Int} {k : Int} (h : k ∈ F) : (F.map fun k => ns.getD k.toNat default).getD (F.idxOf k) default = ns.getD k.toNat default := by
  rw [List.getD_eq_getElem?_getD, List.getElem?_map, idx_get h]
  rfl
theorem renN_kind {ns : List Nd} {F : List Int} {k : Int} (h : k ∈ F) : kindAt (F.map fun k => ns.getD k.toNat default) (F.idxOf k : Int) = kindAt ns k := by
  unfold kindAt
  rw [Int.toNat_natCast, renN_get h]
theorem good_norm {t : Tre} (h : GoodT t) : normT t = some (renT t.ns (sortE t.es)) := by
  have hp := sortE_perm t.es
  have hs := sortE_sorted t.es
  unfold normT
  rw [inR_all h.inr, Bool.true_and]
  obtain ⟨s, hse⟩ : ∃ s, s = sortE t.es := ⟨_, rfl⟩
  rw [← hse] at hp hs ⊢
  have hpath : ∀ e ∈ s, mayP e.path = true := fun e he => h.path e (hp.mem_iff.1 he)
  have hnd : (s.map (·.path)).Nodup := (hp.map (·.path)).nodup_iff.2 h.nd
  have hst := sort_strict hpath hnd hs
  obtain ⟨F, hF⟩ : ∃ F, F = (renG [] s).2 := ⟨_, rfl⟩
  have hfst : (renG [] s).1 = s.map (renE F) := by rw [hF]; exact renG_fst s []
  have hFm : ∀ k, k ∈ F ↔ ∃ e ∈ s, e.node = k := fun k => by rw [hF, renG_mem k s []]; simp
  have hFn : F.Nodup := by rw [hF]; exact renG_nodup s [] List.nodup_nil
  have hnum := renG_num s []
  rw [← hF, hfst] at hnum
  have hT : renT t.ns s = ⟨s.map (renE F), F.map fun k => t.ns.getD k.toNat default⟩ := by unfold renT; rw [hfst, ← hF]
  rw [hT]
  have hin : ∀ e ∈ s, e.node ∈ F := fun e he => (hFm _).2 ⟨e, he, rfl⟩
  obtain ⟨ro, hro, hrp, hrk⟩ := h.root
  have hros := hp.mem_iff.2 hro
  cases s with
  | nil => cases hros
  | cons x r =>
    have hx : x = ro := root_first hst hros hrp
    subst hx
    have hmp : ((x :: r).map (renE F)).map (·.path) = (x :: r).map (·.path) := by rw [List.map_map]; rfl
    have hst' : ((x :: r).map (renE F)).Pairwise ltE := ltE_map hmp.symm hst
    have hnd' : (((x :: r).map (renE F)).map (·.path)).Nodup := by rw [hmp]; exact hnd
    have hm : mayT ⟨(x :: r).map (renE F), F.map fun k => t.ns.getD k.toNat default⟩ = true := by
      unfold mayT
      simp only [Bool.and_eq_true, decide_eq_true_eq]
      refine ⟨⟨⟨⟨by rw [List.length_map, List.length_cons]; omega, by rw [List.length_map, hp.length_eq]; exact h.len⟩, ?_⟩, ?_⟩, ?_⟩
      · refine (ordB_iff _ _ none 0 (Nat.zero_le _)).2 ⟨?_, ?_, ?_, ?_, ?_⟩
        · rw [List.map_cons, pathsOK]
          rw [show (renE F x).path = x.path from rfl, hpath x (by simp), decide_eq_true hrp]
          rw [List.map_cons, List.pairwise_cons] at hst'
          rw [show pathsOK (some x.path) (r.map (renE F)) = true from pathsOK_some (fun e he => ?_) (fun e he => hst'.1 e he) hst'.2]
          · rfl
          · obtain ⟨y, hy, rfl⟩ := List.mem_map.1 he
            exact hpath y (by simp [hy])
        · rw [List.length_map]; exact hnum.1
        · rw [List.length_map]; exact hnum.2
        · intro i _ hi
          rw [List.length_map] at hi
          obtain ⟨e, he, hk⟩ := (hFm F[i]).1 (List.getElem_mem hi)
          rw [List.getD_eq_getElem?_getD, List.getElem?_map, List.getElem?_eq_getElem hi]
          show nodeOK (t.ns.getD F[i].toNat default) = true
          rw [← hk]
          exact h.node e (hp.mem_iff.1 he)
        · intro i hi hk
          refine ⟨fun hh => by omega, fun _ => ?_⟩
          rw [List.length_map] at hi
          obtain ⟨e, he, hek⟩ := (hFm F[i]).1 (List.getElem_mem hi)
          have hidx : F.idxOf e.node = i := by rw [hek]; exact List.Nodup.idxOf_getElem hFn i hi
          have hk2 : kindAt t.ns e.node = 1 := by rw [← hk, ← hidx, renN_kind (hin e he)]
          unfold cntN
          rw [List.countP_map, List.countP_eq_length_filter]
          have : (x :: r).filter ((fun e => decide (e.node = (i : Int))) ∘ renE F) = [e] := by
            refine one_of ((nodup_of_paths hnd).filter _) (List.mem_filter.2 ⟨he, ?_⟩) fun y hy => ?_
            · simp only [Function.comp_apply, decide_eq_true_eq]
              show (F.idxOf e.node : Int) = i
              rw [hidx]
            · obtain ⟨hy1, hy2⟩ := List.mem_filter.1 hy
              simp only [Function.comp_apply, decide_eq_true_eq] at hy2
              have hy3 : F.idxOf y.node = F.idxOf e.node := by
                have : (F.idxOf y.node : Int) = i := hy2
                omega
              exact h.dir e (hp.mem_iff.1 he) hk2 y (hp.mem_iff.1 hy1) (idx_inj (hin y hy1) hy3)
          rw [this]; rfl
      · show kindAt _ (F.idxOf x.node : Int) = 1
        rw [renN_kind (hin x (by simp))]
        exact hrk
      · rw [List.all_eq_true]
        intro e' he'
        rw [List.map_cons, List.drop_succ_cons, List.drop_zero] at he'
        obtain ⟨e, he, rfl⟩ := List.mem_map.1 he'
        have hes : e ∈ x :: r := by simp [he]
        have hne : e.path ≠ [] := fun e0 => by
          have := (List.pairwise_cons.1 hst).1 e he
          unfold ltE at this
          rw [e0, less_nil] at this
          cases this
        obtain ⟨d, hd, hdp, hdk⟩ := h.par e (hp.mem_iff.1 hes) hne
        have hds := hp.mem_iff.2 hd
        unfold parOK
        have hf : findT ((x :: r).map (renE F)) (upP (renE F e).path) = some (renE F d).node := by
          have := findT_nodup hnd' (List.mem_map_of_mem (f := renE F) hds)
          rw [← this]
          show findT _ (upP e.path) = findT _ d.path
          rw [hdp]
        simp only [hf, decide_eq_true_eq]
        show kindAt _ (F.idxOf d.node : Int) = 1
        rw [renN_kind (hin d hds)]
        exact hdk
    rw [if_pos hm]
theorem norm_form {t u : Tre} (h : normT t = some u) : t.es.all (inR t.ns.length) = true ∧ mayT (renT t.ns (sortE t.es)) = true ∧ u = renT t.ns (sortE t.es) := by
  unfold normT at h
  split at h
  · rename_i hh
    rw [Bool.and_eq_true] at hh
    exact ⟨hh.1, hh.2, (Option.some.inj h).symm⟩
  · cases h
/-- A valid tree is good. -/
theorem may_good {t : Tre} (h : mayT t = true) : GoodT t := by
  have hasc := mayT_asc h
  have hpath := mayT_path h
  have hnd := asc_nodup hasc
  obtain ⟨es, ns⟩ := t
  dsimp only at hasc hpath hnd
  unfold mayT at h
  simp only [Bool.and_eq_true, decide_eq_true_eq] at h
  obtain ⟨⟨⟨⟨h1, h2⟩, h3⟩, h4⟩, h5⟩ := h
  obtain ⟨g1, g2, g3, g4, g5⟩ := (ordB_iff ns es none 0 (Nat.zero_le _)).1 h3
  have hin := numOK_mem g2
  cases es with
  | nil => simp at h1
  | cons x r =>
    simp only [pathsOK, Bool.and_eq_true, decide_eq_true_eq] at g1
    have hx : x.path = [] := g1.1.2
    refine ⟨hin, h2, hpath, hnd, ⟨x, by simp, hx, h4⟩, fun e he hne => ?_, fun e he => ?_, fun e he hk e' he' hn => ?_⟩
    · rcases List.mem_cons.1 he with e1 | her
      · subst e1; exact absurd hx hne
      · have := List.all_eq_true.1 h5 e (by simpa using her)
        unfold parOK at this
        dsimp only at this
        cases hf : findT (x :: r) (upP e.path) with
        | none => rw [hf] at this; cases this
        | some k =>
          rw [hf] at this
          simp only [decide_eq_true_eq] at this
          obtain ⟨d, hd, hdp, hdk⟩ := findT_mem hf
          exact ⟨d, hd, hdp, by rw [hdk]; exact this⟩
    · have := hin e he
      exact g4 e.node.toNat (Nat.zero_le _) (by omega)
    · have hi := hin e he
      have hc := (g5 e.node.toNat (by omega) (by rw [Int.toNat_of_nonneg hi.1]; exact hk)).2 (Nat.zero_le _)
      unfold cntN at hc
      rw [Int.toNat_of_nonneg hi.1, List.countP_eq_length_filter] at hc
      obtain ⟨z, hz⟩ := List.length_eq_one_iff.1 hc
      have m1 : e ∈ (x :: r).filter fun y => decide (y.node = e.node) := List.mem_filter.2 ⟨he, by simp⟩
      have m2 : e' ∈ (x :: r).filter fun y => decide (y.node = e.node) := List.mem_filter.2 ⟨he', by simp [hn]⟩
      rw [hz] at m1 m2
      rw [List.mem_singleton.1 m1, List.mem_singleton.1 m2]
theorem norm_good {t u : Tre} (h : normT t = some u) : GoodT t := by
  obtain ⟨h1, h2, rfl⟩ := norm_form h
  have hp := sortE_perm t.es
  obtain ⟨s, hse⟩ : ∃ s, s = sortE t.es := ⟨_, rfl⟩
  rw [← hse] at hp h2
  have hg := may_good h2
  obtain ⟨F, hF⟩ : ∃ F, F = (renG [] s).2 := ⟨_, rfl⟩
  have hfst : (renG [] s).1 = s.map (renE F) := by rw [hF]; exact renG_fst s []
  have hFm : ∀ k, k ∈ F ↔ ∃ e ∈ s, e.node = k := fun k => by rw [hF, renG_mem k s []]; simp
  have hT : renT t.ns s = ⟨s.map (renE F), F.map fun k => t.ns.getD k.toNat default⟩ := by unfold renT; rw [hfst, ← hF]
  rw [hT] at hg
  have hin : ∀ e ∈ t.es, e.node ∈ F := fun e he => (hFm _).2 ⟨e, hp.mem_iff.2 he, rfl⟩
  have hme : ∀ e ∈ t.es, renE F e ∈ s.map (renE F) := fun e he => List.mem_map_of_mem (hp.mem_iff.2 he)
  have hki : ∀ e ∈ t.es, kindAt (F.map fun k => t.ns.getD k.toNat default) (renE F e).node = kindAt t.ns e.node := fun e he => renN_kind (hin e he)
  refine ⟨fun e he => ?_, ?_, fun e he => hg.path (renE F e) (hme e he), ?_, ?_, fun e he hne => ?_, fun e he => ?_, fun e he hk e' he' hn => ?_⟩
  · have := List.all_eq_true.1 h1 e he
    unfold inR at this
    simpa using this
  · have := hg.len
    dsimp only at this
    rw [List.length_map, hp.length_eq] at this
    exact this
  · have := hg.nd
    dsimp only at this
    rw [List.map_map] at this
    exact (hp.map (·.path)).nodup_iff.1 this
  · obtain ⟨e', he', h3, h4⟩ := hg.root
    obtain ⟨e, he, rfl⟩ := List.mem_map.1 he'
    have het := hp.mem_iff.1 he
    exact ⟨e, het, h3, by rw [← hki e het]; exact h4⟩
  · obtain ⟨d', hd', h3, h4⟩ := hg.par _ (hme e he) hne
    obtain ⟨d, hd, rfl⟩ := List.mem_map.1 hd'
    have hdt := hp.mem_iff.1 hd
    exact ⟨d, hdt, h3, by rw [← hki d hdt]; exact h4⟩
  · have := hg.node _ (hme e he)
    dsimp only at this
    rw [show (renE F e).node.toNat = F.idxOf e.node from rfl, renN_get (hin e he)] at this
    exact this
  · have := hg.dir _ (hme e he) ((hki e he).trans hk) _ (hme e' he') (by unfold renE; rw [hn])
    have hpp := congrArg En.path this
    have hpp : e'.path = e.path := hpp
    have hnd : (t.es.map (·.path)).Nodup := by
      have := hg.nd
      dsimp only at this
      rw [List.map_map] at this
      exact (hp.map (·.path)).nodup_iff.1 this
    exact nodup_path hnd he' he hpp
/-- A valid tree is its own normal form. -/
theorem renG_same : ∀ (l : List En) (n u : Nat), numOK n u l = true → renG ((List.range u).map Int.ofNat) l = (l, (List.range (finU u l)).map Int.ofNat)
  | [], n, u, _ => rfl
  | e :: r, n, u, h => by
    simp only [numOK, Bool.and_eq_true, decide_eq_true_eq] at h
    obtain ⟨⟨⟨h0, h1⟩, h2⟩, h3⟩ := h
    obtain ⟨k, hk⟩ := Int.eq_ofNat_of_zero_le h0
    obtain ⟨p, z⟩ := e
    dsimp only at hk h1 h2 h3
    subst hk
    have hix : ∀ {m : Nat} {k : Nat}, k < m → ((List.range m).map Int.ofNat).idxOf (k : Int) = k := fun {m k} hlt => by
      have hn : ((List.range m).map Int.ofNat).Nodup := List.pairwise_map.2 (List.nodup_range.imp fun hne e => hne (Int.ofNat.inj e))
      have := List.Nodup.idxOf_getElem hn k (by simpa using hlt)
      simpa using this
    rw [renG, finU]
    dsimp only
    by_cases hlt : (k : Int) < u
    · rw [if_pos hlt] at h3 ⊢
      rw [if_pos (show (k : Int) ∈ (List.range u).map Int.ofNat from List.mem_map.2 ⟨k, List.mem_range.2 (by omega), rfl⟩), hix (show k < u by omega), renG_same r n u h3]
    · rw [if_neg hlt] at h3 ⊢
      have hku : k = u := by omega
      subst hku
      rw [if_neg (fun hm => by
        obtain ⟨j, hj, hje⟩ := List.mem_map.1 hm
        have := List.mem_range.1 hj
        have := Int.ofNat.inj hje
        omega)]
      have e1 : (List.range k).map Int.ofNat ++ [(k : Int)] = (List.range (k + 1)).map Int.ofNat := by rw [List.range_succ, List.map_append]; rfl
      rw [e1, renG_same r n (k + 1) h3, List.length_map, List.length_range]
theorem norm_same {t : Tre} (h : mayT t = true) : normT t = some t := by
  rw [good_norm (may_good h)]
  have hs : sortE t.es = t.es := sort_one t.es (sortE t.es) (mayT_asc h) (sortE_sorted _) (sortE_perm _)
  obtain ⟨es, ns⟩ := t
  dsimp only at hs ⊢
  rw [hs]
  unfold mayT at h
  simp only [Bool.and_eq_true, decide_eq_true_eq] at h
  obtain ⟨_, g2, g3, _, _⟩ := (ordB_iff ns es none 0 (Nat.zero_le _)).1 h.1.1.2
  have := renG_same es ns.length 0 g2
  unfold renT
  rw [show ([] : List Int) = (List.range 0).map Int.ofNat from rfl, this, g3]
  congr 2
  rw [List.map_map]
  apply List.ext_getElem
  · simp
  · intro i h1 h2
    simp [List.getD_eq_getElem?_getD, h2]
end Eng
end Go.Proofs.YtiebbecknfpdeaaDoor
namespace Go.Proofs.YtiebbecknfpdeaaDoor
namespace Eng
end Eng
end Go.Proofs.YtiebbecknfpdeaaDoor
namespace Go.Proofs.YtiebbecknfpdeaaDoor
namespace Eng
/-- A name behind a path. -/
def joinB (a b : Str) : Str := if a = [] then b else a ++ 47 :: b
def joinP (a b : Str) : Option Str := if mayP a && nameU b then (if mayP (joinB a b) then some (joinB a b) else none) else none
theorem joinP_op {a b s : Str} (h : joinP a b = some s) : mayP s = true ∧ partsP s = partsP a ++ [b] ∧ upP s = a ∧ s ≠ [] ∧ lastP s = b := by
  unfold joinP at h
  split at h
  · rename_i hh
    rw [Bool.and_eq_true] at hh
    obtain ⟨ha, hb⟩ := hh
    split at h
    · rename_i hm
      injection h with h
      rw [h] at hm
      have hbn := nameU_ns hb
      have key : s ≠ [] ∧ partsP s = partsP a ++ [b] := by
        unfold joinB at h
        by_cases h0 : a = []
        · rw [if_pos h0] at h
          subst h
          exact ⟨nameU_ne hb, by rw [partsP_ok hm (nameU_ne hb), cut_one b hbn, h0, partsP_nil]; rfl⟩
        · rw [if_neg h0] at h
          have hne : s ≠ [] := by rw [← h]; simp
          refine ⟨hne, ?_⟩
          rw [partsP_ok hm hne, partsP_ok ha h0]
          have e1 : s = joinU (cutU a ++ [b]) := by rw [join_snoc _ _ (cutU_ne a), join_cut, h]
          rw [e1, cut_join _ (by simp)]
          intro x hx
          rcases List.mem_append.1 hx with hx | hx
          · exact cutU_ns a x hx
          · rw [List.mem_singleton.1 hx]; exact hbn
      refine ⟨hm, key.2, ?_, key.1, ?_⟩
      · unfold upP
        rw [key.2, List.dropLast_concat]
        exact join_parts ha
      · unfold lastP
        rw [key.2]
        simp
    · cases h
  · cases h
/-- A digit, a number. -/
def dg (n : Nat) : UInt8 := UInt8.ofNat (48 + n)
def decF : Nat → Nat → Str → Str
  | 0, n, s => dg n :: s
  | k + 1, n, s => if 9 < n then decF k (n / 10) (dg (n % 10) :: s) else dg n :: s
def decU (n : Nat) : Str := decF 20 n []
structure MkS where
  es : List En
  ns : List Nd
  dirs : List Str
  files : List Nat
/-- A node of its own. -/
def MkS.new (m : MkS) (p : Str) (n : Nd) : MkS := { m with es := m.es ++ [⟨p, (m.ns.length : Int)⟩], ns := m.ns ++ [n] }
/-- What is made, at each step. -/
structure MkOK (m : MkS) : Prop where
  inr : ∀ e ∈ m.es, 0 ≤ e.node ∧ e.node < m.ns.length
  path : ∀ e ∈ m.es, mayP e.path = true
  nd : (m.es.map (·.path)).Nodup
  root : ⟨[], 0⟩ ∈ m.es ∧ kindAt m.ns 0 = 1
  par : ∀ e ∈ m.es, e.path ≠ [] → ∃ d ∈ m.es, d.path = upP e.path ∧ kindAt m.ns d.node = 1
  dirs : (∀ d ∈ m.dirs, ∃ e ∈ m.es, e.path = d ∧ kindAt m.ns e.node = 1) ∧ m.dirs ≠ []
  node : ∀ n ∈ m.ns, nodeOK n = true
  dir : ∀ e ∈ m.es, kindAt m.ns e.node = 1 → ∀ e' ∈ m.es, e'.node = e.node → e' = e
  files : ∀ f ∈ m.files, f < m.ns.length ∧ kindAt m.ns (f : Nat) = 2
  used : ∀ i : Nat, i < m.ns.length → ∃ e ∈ m.es, e.node = i
  len : m.ns.length ≤ m.es.length
  dl : m.dirs.length ≤ m.es.length ∧ m.files.length ≤ m.es.length
theorem kind_app {ns : List Nd} {n : Nd} {k : Int} (h0 : 0 ≤ k) (h : k < ns.length) : kindAt (ns ++ [n]) k = kindAt ns k := by
  unfold kindAt
  rw [List.getD_eq_getElem?_getD, List.getD_eq_getElem?_getD, List.getElem?_append_left (by omega)]
theorem kind_new {ns : List Nd} {n : Nd} : kindAt (ns ++ [n]) (ns.length : Int) = n.kind := by
  unfold kindAt
  rw [Int.toNat_natCast, List.getD_eq_getElem?_getD, List.getElem?_append_right (Nat.le_refl _), Nat.sub_self]
  rfl
theorem nodup_snoc {l : List En} (h : (l.map (·.path)).Nodup) {e : En} (hn : ∀ x ∈ l, x.path ≠ e.path) : ((l ++ [e]).map (·.path)).Nodup := by
  rw [List.map_append, List.nodup_append]
  refine ⟨h, by simp, fun a ha b hb hab => ?_⟩
  obtain ⟨x, hx, rfl⟩ := List.mem_map.1 ha
  rw [List.map_cons, List.map_nil, List.mem_singleton] at hb
  exact hn x hx (hab.trans hb)
theorem MkOK.new {m : MkS} (h : MkOK m) {p : Str} {n : Nd} (hp : mayP p = true) (hnew : ∀ e ∈ m.es, e.path ≠ p) (hpar : ∃ d ∈ m.es, d.path = upP p ∧ kindAt m.ns d.node = 1) (hn : nodeOK n = true) : MkOK (m.new p n) ∧ kindAt (m.new p n).ns (m.ns.length : Int) = n.kind := by
  have hk : ∀ e ∈ m.es, kindAt (m.ns ++ [n]) e.node = kindAt m.ns e.node := fun e he => kind_app (h.inr e he).1 (h.inr e he).2
  have hl : (m.ns ++ [n]).length = m.ns.length + 1 := by simp
  refine ⟨⟨fun e he => ?_, fun e he => ?_, nodup_snoc h.nd hnew, ⟨List.mem_append_left _ h.root.1, ?_⟩, fun e he hne => ?_, ⟨fun d hd => ?_, h.dirs.2⟩, fun x hx => ?_, fun e he hk1 e' he' hnn => ?_, fun f hf => ?_, fun i hi => ?_, ?_, ?_⟩, kind_new⟩
  · show 0 ≤ e.node ∧ e.node < ((m.ns ++ [n]).length : Int)
    rw [hl]
    rcases List.mem_append.1 he with he | he
    · have := h.inr e he; omega
    · rw [List.mem_singleton.1 he]; dsimp only; omega
  · rcases List.mem_append.1 he with he | he
    · exact h.path e he
    · rw [List.mem_singleton.1 he]; exact hp
  · exact (hk _ h.root.1).trans h.root.2
  · rcases List.mem_append.1 he with he | he
    · obtain ⟨d, hd, h1, h2⟩ := h.par e he hne
      exact ⟨d, List.mem_append_left _ hd, h1, (hk d hd).trans h2⟩
    · obtain ⟨d, hd, h1, h2⟩ := hpar
      rw [List.mem_singleton.1 he]
      exact ⟨d, List.mem_append_left _ hd, h1, (hk d hd).trans h2⟩
  · obtain ⟨e, he, h1, h2⟩ := h.dirs.1 d hd
    exact ⟨e, List.mem_append_left _ he, h1, (hk e he).trans h2⟩
  · rcases List.mem_append.1 hx with hx | hx
    · exact h.node x hx
    · rw [List.mem_singleton.1 hx]; exact hn
  · have hlt : ∀ x ∈ m.es, x.node ≠ (m.ns.length : Int) := fun x hx => by have := (h.inr x hx).2; omega
    rcases List.mem_append.1 he with he | he
    · rcases List.mem_append.1 he' with he' | he'
      · exact h.dir e he ((hk e he).symm.trans hk1) e' he' hnn
      · rw [List.mem_singleton.1 he'] at hnn
        exact absurd hnn.symm (hlt e he)
    · rcases List.mem_append.1 he' with he' | he'
      · rw [List.mem_singleton.1 he] at hnn
        exact absurd hnn (hlt e' he')
      · rw [List.mem_singleton.1 he, List.mem_singleton.1 he']
  · have := h.files f hf
    exact ⟨by show f < (m.ns ++ [n]).length; omega, (kind_app (by omega) (by omega)).trans this.2⟩
  · have hi : i < (m.ns ++ [n]).length := hi
    by_cases he : i = m.ns.length
    · exact ⟨_, List.mem_append_right _ (List.mem_singleton.2 rfl), by rw [he]⟩
    · obtain ⟨e, h1, h2⟩ := h.used i (by omega)
      exact ⟨e, List.mem_append_left _ h1, h2⟩
  · show (m.ns ++ [n]).length ≤ (m.es ++ [_]).length
    have := h.len
    rw [hl, List.length_append, List.length_singleton]; omega
  · show m.dirs.length ≤ (m.es ++ [_]).length ∧ m.files.length ≤ (m.es ++ [_]).length
    have := h.dl
    rw [List.length_append, List.length_singleton]; omega
theorem MkOK.good {m : MkS} (h : MkOK m) (hl : m.es.length ≤ 100) : GoodT ⟨m.es, m.ns⟩ := by
  refine ⟨h.inr, hl, h.path, h.nd, ⟨_, h.root.1, rfl, h.root.2⟩, h.par, fun e he => ?_, h.dir⟩
  have hi := h.inr e he
  have hlt : e.node.toNat < m.ns.length := by omega
  show nodeOK (m.ns.getD e.node.toNat default) = true
  rw [List.getD_eq_getElem?_getD, List.getElem?_eq_getElem hlt]
  exact h.node _ (List.getElem_mem hlt)
end Eng
end Go.Proofs.YtiebbecknfpdeaaDoor
namespace Go.Proofs.YtiebbecknfpdeaaDoor
namespace Eng
theorem norm_rel {t u : Tre} (h : normT t = some u) : ∃ F : List Int, u.es.Perm (t.es.map (renE F)) ∧ u.ns = F.map (fun k => t.ns.getD k.toNat default) ∧ ∀ e ∈ t.es, e.node ∈ F := by
  obtain ⟨h1, h2, rfl⟩ := norm_form h
  have hp := sortE_perm t.es
  refine ⟨(renG [] (sortE t.es)).2, ?_, rfl, fun e he => (renG_mem _ _ []).2 (.inr ⟨e, hp.mem_iff.2 he, rfl⟩)⟩
  show (renG [] (sortE t.es)).1.Perm _
  rw [renG_fst]
  exact hp.map _
theorem norm_find {t u : Tre} (h : normT t = some u) {e : En} (he : e ∈ t.es) : ∃ k : Nat, findT u.es e.path = some (k : Int) ∧ u.ns[k]? = some (t.ns.getD e.node.toNat default) := by
  obtain ⟨F, h1, h2, h3⟩ := norm_rel h
  have hm : renE F e ∈ u.es := h1.mem_iff.2 (List.mem_map_of_mem he)
  refine ⟨F.idxOf e.node, findT_nodup (asc_nodup (mayT_asc (norm_may h))) hm, ?_⟩
  rw [h2, List.getElem?_map, idx_get (h3 e he)]
  rfl
theorem cutU_app (r : Str) : ∀ a : Str, cutU (a ++ 47 :: r) = cutU a ++ cutU r
  | [] => by rw [List.nil_append]; simp [cutU]
  | c :: a => by
    have ih := cutU_app r a
    rw [List.cons_append, cutU, cutU]
    by_cases hc : c = 47
    · rw [if_pos hc, if_pos hc, ih]; rfl
    · rw [if_neg hc, if_neg hc, ih]
      cases h : cutU a with
      | nil => exact absurd h (cutU_ne a)
      | cons x y => rfl
theorem joinU_app : ∀ (l z : List Str), l ≠ [] → z ≠ [] → joinU (l ++ z) = joinU l ++ 47 :: joinU z
  | [], _, h, _ => absurd rfl h
  | [x], z, _, hz => joinU_cons x hz
  | x :: y :: r, z, _, hz => by
    rw [List.cons_append, List.cons_append, joinU, ← List.cons_append, joinU_app (y :: r) z (by simp) hz, joinU]
    simp
theorem under_iff {s top : Str} (hs : mayP s = true) (ht : mayP top = true) : underP s top = true ↔ partsP top <+: partsP s := by
  unfold underP
  rw [hs, ht]
  simp only [Bool.true_and, Bool.or_eq_true, decide_eq_true_eq]
  constructor
  · rintro ((h | h) | h)
    · rw [h, partsP_nil]; exact List.nil_prefix
    · rw [h]; exact List.prefix_refl _
    · obtain ⟨r, hr⟩ := List.isPrefixOf_iff_prefix.1 h
      by_cases h0 : top = []
      · rw [h0, partsP_nil]; exact List.nil_prefix
      · have e1 : s = top ++ 47 :: r := by rw [← hr]; simp
        have hne : s ≠ [] := by rw [e1]; simp
        rw [partsP_ok hs hne, partsP_ok ht h0, e1, cutU_app]
        exact ⟨_, rfl⟩
  · rintro ⟨z, hz⟩
    by_cases h0 : top = []
    · exact .inl (.inl h0)
    by_cases h1 : z = []
    · subst h1
      rw [List.append_nil] at hz
      exact .inl (.inr (parts_inj hs ht hz.symm))
    · right
      rw [List.isPrefixOf_iff_prefix]
      have hpt : partsP top ≠ [] := by rw [partsP_ok ht h0]; exact cutU_ne _
      have := join_parts hs
      rw [← hz, joinU_app _ _ hpt h1, join_parts ht] at this
      exact ⟨joinU z, by rw [← this]; simp⟩
theorem under_nil {s : Str} (hs : mayP s = true) : underP s [] = true := (under_iff hs rfl).2 (by rw [partsP_nil]; exact List.nil_prefix)
theorem up_parts {s : Str} (hu : mayP (upP s) = true) (_ : mayP s = true) : partsP (upP s) = (partsP s).dropLast := by
  by_cases h0 : (partsP s).dropLast = []
  · have : upP s = [] := by unfold upP; rw [h0]; rfl
    rw [this, h0, partsP_nil]
  · have hdl : ∀ x ∈ (partsP s).dropLast, x ∈ partsP s := fun x hx => (List.dropLast_sublist _).subset hx
    have hns : ∀ x ∈ (partsP s).dropLast, (47 : UInt8) ∉ x := fun x hx => nameU_ns (parts_name (hdl x hx))
    have hne : upP s ≠ [] := by
      unfold upP
      intro e
      cases hd : (partsP s).dropLast with
      | nil => exact h0 hd
      | cons x r =>
        have hx := nameU_ne (parts_name (s := s) (hdl x (by rw [hd]; simp)) : nameU x = true)
        rw [hd] at e
        cases r with
        | nil => exact hx e
        | cons y r => rw [joinU] at e; simp at e
    rw [partsP_ok hu hne]
    unfold upP
    rw [cut_join _ h0 hns]
theorem prefix_drop {α : Type} {a b : List α} (h : a <+: b) (hne : a ≠ b) : a <+: b.dropLast := by
  obtain ⟨z, rfl⟩ := h
  have hz : z ≠ [] := fun e => hne (by rw [e, List.append_nil])
  rw [List.dropLast_append_of_ne_nil hz]
  exact ⟨_, rfl⟩
theorem par_some {p q : Str} (h : parP p = some q) : partsP p ≠ [] ∧ upP p = q := by
  unfold parP at h
  split at h
  · cases h
  · rename_i hne; exact ⟨hne, Option.some.inj h⟩
theorem join_up {p : Str} (hm : mayP p = true) (hu : mayP (upP p) = true) (h0 : partsP p ≠ []) : joinP (upP p) (lastP p) = some p := by
  obtain ⟨l, x, hl⟩ : ∃ l x, partsP p = l ++ [x] := ⟨_, _, (List.dropLast_concat_getLast h0).symm⟩
  have hx : lastP p = x := by unfold lastP; rw [hl]; simp
  have hn : nameU x = true := parts_name (s := p) (by rw [hl]; simp)
  have hd : (partsP p).dropLast = l := by rw [hl, List.dropLast_concat]
  have hj : joinB (upP p) x = p := by
    have hjp := join_parts hm
    have hup := up_parts hu hm
    rw [hd] at hup
    unfold joinB
    by_cases hl0 : l = []
    · have : upP p = [] := by unfold upP; rw [hd, hl0]; rfl
      rw [if_pos this, ← hjp, hl, hl0]; rfl
    · have : upP p ≠ [] := fun e => hl0 (by rw [← hup, e, partsP_nil])
      have e1 : upP p = joinU l := by unfold upP; rw [hd]
      rw [if_neg this, e1, ← join_snoc _ _ hl0, ← hl, hjp]
  unfold joinP
  rw [hx, hu, hn, hj, Bool.and_self, if_pos rfl, if_pos hm]
theorem kid_mem {t : Tre} {p k : Str} (h : k ∈ kidsT t p) : ∃ e ∈ t.es, parP e.path = some p ∧ lastP e.path = k := by
  unfold kidsT at h
  obtain ⟨e, he, rfl⟩ := List.mem_map.1 h
  obtain ⟨h1, h2⟩ := List.mem_filter.1 he
  exact ⟨e, h1, of_decide_eq_true h2, rfl⟩
theorem less_last {a b p : Str} (ha : mayP a = true) (hb : mayP b = true) (hpm : mayP p = true) (hpa : parP a = some p) (hpb : parP b = some p) (h : lessP a b = true) : Op.bytesLess (lastP a) (lastP b) = true := by
  obtain ⟨a0, a1⟩ := par_some hpa
  obtain ⟨b0, b1⟩ := par_some hpb
  have e1 : partsP a = partsP p ++ [lastP a] := (joinP_op (by have := join_up ha (a1 ▸ hpm) a0; rw [a1] at this; exact this)).2.1
  have e2 : partsP b = partsP p ++ [lastP b] := (joinP_op (by have := join_up hb (b1 ▸ hpm) b0; rw [b1] at this; exact this)).2.1
  unfold lessP at h
  rw [e1, e2] at h
  have key : ∀ l : List Str, lessL (l ++ [lastP a]) (l ++ [lastP b]) = true → Op.bytesLess (lastP a) (lastP b) = true := by
    intro l
    induction l with
    | nil =>
      intro h
      rw [List.nil_append, List.nil_append, lessL] at h
      split at h
      · cases h
      · exact h
    | cons x l ih =>
      intro h
      rw [List.cons_append, List.cons_append, lessL, if_pos rfl] at h
      exact ih h
  exact key _ h
end Eng
end Go.Proofs.YtiebbecknfpdeaaDoor
namespace Go.Proofs.YtiebbecknfpdeaaDoor
open Go.RowKit
namespace Eng
/-- An int as a uint, as a number. -/
def uN (z : Int) : Nat := (IntKind.u64.wrap z).toNat
theorem uN_eq (z : Int) : IntKind.u64.wrap z = ((uN z : Nat) : Int) := by
  unfold uN
  have : 0 ≤ IntKind.u64.wrap z := by simp [IntKind.wrap, IntKind.signed, IntKind.bits]; omega
  omega
theorem uN_lt (z : Int) : uN z ≤ 18446744073709551615 := by
  unfold uN
  have : IntKind.u64.wrap z ≤ 18446744073709551615 := by simp [IntKind.wrap, IntKind.signed, IntKind.bits]; omega
  omega
/-- One name after another, by the number's digits. -/
def ordM : Nat → List Str → Nat → List Str
  | 0, _, _ => []
  | f + 1, l, u => match l with
    | [] => []
    | x :: r => (x :: r).getD (u % (r.length + 1)) [] :: ordM f ((x :: r).eraseIdx (u % (r.length + 1))) (u / (r.length + 1))
theorem ordM_step {f u : Nat} {l : List Str} (h : 0 < l.length) : ordM (f + 1) l u = l.getD (u % l.length) [] :: ordM f (l.eraseIdx (u % l.length)) (u / l.length) := by
  cases l with
  | nil => exact absurd h (Nat.lt_irrefl 0)
  | cons x r => rfl
theorem ordM_nil (f u : Nat) : ordM f [] u = [] := by cases f <;> rfl
/-- The number 0 leaves the order as it is. -/
theorem ordM_zero : ∀ (l : List Str), ordM l.length l 0 = l
  | [] => rfl
  | x :: r => by
    show ordM (r.length + 1) (x :: r) 0 = x :: r
    rw [ordM_step (by simp)]
    simp only [Nat.zero_mod, Nat.zero_div, List.eraseIdx_cons_zero]
    rw [ordM_zero r]
    rfl
theorem perm_at : ∀ (l : List Str) (i : Nat) (h : i < l.length), (l[i] :: l.eraseIdx i).Perm l
  | x :: r, 0, _ => List.Perm.refl _
  | x :: r, i + 1, h => by
    have hi : i < r.length := by simpa using h
    show (r[i] :: x :: r.eraseIdx i).Perm (x :: r)
    exact (List.Perm.swap x r[i] (r.eraseIdx i)).trans (List.Perm.cons x (perm_at r i hi))
/-- Each name once. -/
theorem ordM_perm : ∀ (f : Nat) (l : List Str) (u : Nat), l.length = f → (ordM f l u).Perm l
  | 0, l, u, h => by
    rw [List.length_eq_zero_iff] at h
    rw [h]
    exact List.Perm.refl _
  | f + 1, l, u, h => by
    have h0 : 0 < l.length := by omega
    have hm : u % l.length < l.length := Nat.mod_lt _ h0
    rw [ordM_step h0]
    have hl : (l.eraseIdx (u % l.length)).length = f := by rw [List.length_eraseIdx_of_lt hm]; omega
    have hg : l.getD (u % l.length) [] = l[u % l.length] := by rw [List.getD_eq_getElem?_getD, List.getElem?_eq_getElem hm]; rfl
    rw [hg]
    exact (List.Perm.cons _ (ordM_perm f _ _ hl)).trans (perm_at l _ hm)
theorem ordM_len {f : Nat} {l : List Str} {u : Nat} (h : l.length = f) : (ordM f l u).length = l.length := (ordM_perm f l u h).length_eq
end Eng
end Go.Proofs.YtiebbecknfpdeaaDoor
namespace Go.Proofs.YtiebbecknfpdeaaDoor
open Go.RowKit
namespace Eng
/-- From a Parent upward: 9 at the first that is no directory, else 7 if one is missing. -/
def wrongU (t : Tre) : Nat → Option Str → Int → Int
  | 0, _, bad => bad
  | _ + 1, none, bad => bad
  | f + 1, some q, bad => match findT t.es q with
    | some k => if (t.ns.getD k.toNat default).kind = 1 then wrongU t f (parP q) bad else 9
    | none => wrongU t f (parP q) 7
def wrongM (t : Tre) (p : Str) : Int := if mayP p then wrongU t (p.length + 1) (parP p) 0 else 1
/-- The node at a path, or the error. -/
def findM (t : Tre) (p : Str) : Int × Int :=
  if wrongM t p ≠ 0 then (0, wrongM t p) else match findT t.es p with
    | none => (0, 7)
    | some k => (k, 0)
end Eng
end Go.Proofs.YtiebbecknfpdeaaDoor
namespace Go.Proofs.YtiebbecknfpdeaaDoor
open Go.RowKit
namespace Eng
theorem upP_len {q : Str} (h : partsP q ≠ []) : (upP q).length < q.length := by
  have h0 : q ≠ [] := fun e => by rw [e, partsP_nil] at h; exact h rfl
  have : 0 < q.length := List.length_pos_iff.2 h0
  rw [upP_take h, List.length_take]
  omega
theorem parP_len {q r : Str} (h : parP q = some r) : r.length < q.length := by
  unfold parP at h
  split at h
  · cases h
  · rename_i h0; rw [← Option.some.inj h]; exact upP_len h0
end Eng
end Go.Proofs.YtiebbecknfpdeaaDoor
namespace Go.Proofs.YtiebbecknfpdeaaDoor
open Go.RowKit
namespace Eng
/-- A row that is not empty lies in a block. -/
def RwK {α : Type} (v : Value) (l : List α) (b : Nat) : Prop := 0 < l.length ∧ v.ownBlock = some b
theorem Rw.frN {α : Type} {cf : α → List Value} {S : Nat → Prop} {w w' : World} {v : Value} {l : List α} (h : Rw cf w v l) (hF : Fr S w w') (hS : ∀ b, RwK v l b → ¬ S b) : Rw cf w' v l := by
  obtain ⟨A, c, rfl, h1, h2, h3⟩ := h
  refine ⟨A, c, rfl, h1, h2, fun h0 => ?_⟩
  obtain ⟨b, o, rfl, h4, h5⟩ := h3 h0
  exact ⟨b, o, rfl, Nat.lt_of_lt_of_le h4 hF.size, fun j u hu => hF.cell (h5 j u hu) (hS b ⟨h0, rfl⟩)⟩
/-- The blocks of a tree's rows that are not empty. -/
def NdN (x : NdV) (b : Nat) : Prop := RwK x.va x.n.attrs b ∨ RwK x.vc x.n.acl b ∨ RwK x.vd x.n.data b
def TrN (ve vn : Value) (nvs : List NdV) (t : Tre) (b : Nat) : Prop := RwK ve t.es b ∨ RwK vn nvs b ∨ ∃ x ∈ nvs, NdN x b
theorem TrV.frN {S : Nat → Prop} {w w' : World} {ve vn : Value} {nvs : List NdV} {t : Tre} (h : TrV w ve vn nvs t) (hF : Fr S w w') (hS : ∀ b, TrN ve vn nvs t b → ¬ S b) : TrV w' ve vn nvs t :=
  ⟨h.e.frN hF fun b hb => hS b (.inl hb), h.n.frN hF fun b hb => hS b (.inr (.inl hb)), fun x hx => ⟨(h.i x hx).a.frN hF fun b hb => hS b (.inr (.inr ⟨x, hx, .inl hb⟩)), (h.i x hx).c.frN hF fun b hb => hS b (.inr (.inr ⟨x, hx, .inr (.inl hb)⟩)), (h.i x hx).d.frN hF fun b hb => hS b (.inr (.inr ⟨x, hx, .inr (.inr hb)⟩))⟩, h.m⟩
theorem NdIn.frN {S : Nat → Prop} {w w' : World} {x : NdV} (h : NdIn w x) (hF : Fr S w w') (hS : ∀ b, NdN x b → ¬ S b) : NdIn w' x :=
  ⟨h.a.frN hF fun b hb => hS b (.inl hb), h.c.frN hF fun b hb => hS b (.inr (.inl hb)), h.d.frN hF fun b hb => hS b (.inr (.inr hb))⟩
end Eng
end Go.Proofs.YtiebbecknfpdeaaDoor
