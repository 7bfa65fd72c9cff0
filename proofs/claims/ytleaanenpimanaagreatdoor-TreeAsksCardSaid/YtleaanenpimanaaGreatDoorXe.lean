/-
  Plain law: which trees have a normal form; what it is made of. Plain law: bytes written into a file's pieces, and a file cut, as the reference has them: what may be stays so. Plain law: the made trees. Plain law: what the laws of trees say, of any valid tree.
-/
import Derived.Test.YtleaanenpimanaaGreatDoorXc
/-! Plain law: which trees have a normal form; what it is made of. -/
namespace Go.Proofs.YtleaanenpimanaaGreatDoor
namespace Eng

theorem renG_app : ∀ (l : List En) (s : List Int), ∃ x, (renG s l).2 = s ++ x
  | [], s => ⟨[], by rw [renG, List.append_nil]⟩
  | e :: r, s => by
    rw [renG]
    split
    · exact renG_app r s
    · obtain ⟨x, hx⟩ := renG_app r (s ++ [e.node])
      exact ⟨e.node :: x, by dsimp only; rw [hx, List.append_assoc]; rfl⟩
theorem renG_nodup : ∀ (l : List En) (s : List Int), s.Nodup → (renG s l).2.Nodup
  | [], s, h => h
  | e :: r, s, h => by
    rw [renG]
    split
    · exact renG_nodup r s h
    · rename_i hn
      refine renG_nodup r (s ++ [e.node]) (List.nodup_append.2 ⟨h, by simp, fun a ha b hb hab => ?_⟩)
      rw [List.mem_singleton.1 hb] at hab
      exact hn (hab ▸ ha)
theorem renG_mem (k : Int) : ∀ (l : List En) (s : List Int), k ∈ (renG s l).2 ↔ k ∈ s ∨ ∃ e ∈ l, e.node = k
  | [], s => by simp [renG]
  | e :: r, s => by
    rw [renG]
    split
    · rename_i hm
      dsimp only
      rw [renG_mem k r s]
      constructor
      · rintro (h | ⟨x, hx, he⟩)
        · exact .inl h
        · exact .inr ⟨x, by simp [hx], he⟩
      · rintro (h | ⟨x, hx, he⟩)
        · exact .inl h
        · rcases List.mem_cons.1 hx with rfl | hx
          · exact .inl (he ▸ hm)
          · exact .inr ⟨x, hx, he⟩
    · dsimp only
      rw [renG_mem k r (s ++ [e.node]), List.mem_append, List.mem_singleton]
      constructor
      · rintro ((h | h) | ⟨x, hx, he⟩)
        · exact .inl h
        · exact .inr ⟨e, by simp, h.symm⟩
        · exact .inr ⟨x, by simp [hx], he⟩
      · rintro (h | ⟨x, hx, he⟩)
        · exact .inl (.inl h)
        · rcases List.mem_cons.1 hx with rfl | hx
          · exact .inl (.inr he.symm)
          · exact .inr ⟨x, hx, he⟩
/-- The entries, renumbered, by the numbers met. -/
def renE (F : List Int) (e : En) : En := ⟨e.path, (F.idxOf e.node : Int)⟩
theorem renG_fst : ∀ (l : List En) (s : List Int), (renG s l).1 = l.map (renE (renG s l).2)
  | [], s => rfl
  | e :: r, s => by
    rw [renG]
    split
    · rename_i hm
      obtain ⟨x, hx⟩ := renG_app r s
      dsimp only
      rw [List.map_cons, ← renG_fst r s]
      congr 1
      unfold renE
      rw [hx, List.idxOf_append, if_pos hm]
    · rename_i hm
      obtain ⟨x, hx⟩ := renG_app r (s ++ [e.node])
      dsimp only
      rw [List.map_cons, ← renG_fst r (s ++ [e.node])]
      congr 1
      unfold renE
      rw [hx, List.idxOf_append, if_pos (by simp), List.idxOf_append, if_neg hm]
      simp
theorem renG_num : ∀ (l : List En) (s : List Int), numOK (renG s l).2.length s.length (renG s l).1 = true ∧ finU s.length (renG s l).1 = (renG s l).2.length
  | [], s => ⟨rfl, rfl⟩
  | e :: r, s => by
    rw [renG]
    split
    · rename_i hm
      obtain ⟨h1, h2⟩ := renG_num r s
      obtain ⟨x, hx⟩ := renG_app r s
      have hi := List.idxOf_lt_length_iff.2 hm
      have hl : s.length ≤ (renG s r).2.length := by rw [hx, List.length_append]; omega
      dsimp only
      rw [numOK, finU]
      dsimp only
      rw [if_pos (by omega), h1, h2]
      refine ⟨?_, rfl⟩
      simp only [Bool.and_eq_true, decide_eq_true_eq, and_true]
      omega
    · rename_i hm
      obtain ⟨h1, h2⟩ := renG_num r (s ++ [e.node])
      obtain ⟨x, hx⟩ := renG_app r (s ++ [e.node])
      have hl : s.length + 1 ≤ (renG (s ++ [e.node]) r).2.length := by rw [hx, List.length_append, List.length_append]; simp only [List.length_cons, List.length_nil]; omega
      have e1 : (s ++ [e.node]).length = s.length + 1 := by simp
      rw [e1] at h1 h2
      dsimp only
      rw [numOK, finU]
      dsimp only
      rw [if_neg (by omega), h1, h2]
      refine ⟨?_, rfl⟩
      simp only [Bool.and_eq_true, decide_eq_true_eq, and_true]
      omega

/-- What a tree must have to have a normal form. -/
structure GoodT (t : Tre) : Prop where
  inr : ∀ e ∈ t.es, 0 ≤ e.node ∧ e.node < t.ns.length
  len : t.es.length ≤ 100
  path : ∀ e ∈ t.es, mayP e.path = true
  nd : (t.es.map (·.path)).Nodup
  root : ∃ e ∈ t.es, e.path = [] ∧ kindAt t.ns e.node = 1
  par : ∀ e ∈ t.es, e.path ≠ [] → ∃ d ∈ t.es, d.path = upP e.path ∧ kindAt t.ns d.node = 1
  node : ∀ e ∈ t.es, nodeOK (t.ns.getD e.node.toNat default) = true
  dir : ∀ e ∈ t.es, kindAt t.ns e.node = 1 → ∀ e' ∈ t.es, e'.node = e.node → e' = e

theorem inR_all {t : Tre} (h : ∀ e ∈ t.es, 0 ≤ e.node ∧ e.node < t.ns.length) : t.es.all (inR t.ns.length) = true := by
  rw [List.all_eq_true]
  intro e he
  unfold inR
  rw [decide_eq_true (h e he).1, decide_eq_true (h e he).2]
  rfl
theorem nodup_path {l : List En} (h : (l.map (·.path)).Nodup) {a b : En} (ha : a ∈ l) (hb : b ∈ l) (hp : a.path = b.path) : a = b := by
  induction l with
  | nil => cases ha
  | cons x r ih =>
    rw [List.map_cons, List.nodup_cons] at h
    rcases List.mem_cons.1 ha with e1 | ha
    · rcases List.mem_cons.1 hb with e2 | hb
      · rw [e1, e2]
      · exact absurd (List.mem_map.2 ⟨b, hb, by rw [← hp, e1]⟩) h.1
    · rcases List.mem_cons.1 hb with e2 | hb
      · exact absurd (List.mem_map.2 ⟨a, ha, by rw [hp, e2]⟩) h.1
      · exact ih h.2 ha hb
theorem findT_nodup : ∀ {l : List En}, (l.map (·.path)).Nodup → ∀ {e : En}, e ∈ l → findT l e.path = some e.node
  | [], _, e, he => by cases he
  | x :: r, h, e, he => by
    rw [findT]
    split
    · rename_i hp
      rw [nodup_path h List.mem_cons_self he hp]
    · rename_i hp
      rw [List.map_cons, List.nodup_cons] at h
      rcases List.mem_cons.1 he with e1 | he
      · exact absurd (by rw [e1]) hp
      · exact findT_nodup h.2 he
theorem nodup_of_paths {l : List En} (h : (l.map (·.path)).Nodup) : l.Nodup := (List.pairwise_map.1 h).imp fun hne e => hne (by rw [e])
theorem asc_nodup {l : List En} (h : l.Pairwise ltE) : (l.map (·.path)).Nodup := by
  refine List.pairwise_map.2 (h.imp fun {a b} hlt e => ?_)
  unfold ltE lessP at hlt
  rw [e, lessL_irr] at hlt
  cases hlt
theorem le_lt {a b : En} (ha : mayP a.path = true) (hb : mayP b.path = true) (hne : a.path ≠ b.path) (h : leE a b) : ltE a b := by
  unfold leE lessP at h
  unfold ltE lessP
  rcases lessL_tri (partsP a.path) (partsP b.path) (fun e => hne (parts_inj ha hb e)) with g | g
  · exact g
  · rw [h] at g; cases g
theorem sort_strict : ∀ {l : List En}, (∀ e ∈ l, mayP e.path = true) → (l.map (·.path)).Nodup → l.Pairwise leE → l.Pairwise ltE
  | [], _, _, _ => List.Pairwise.nil
  | x :: r, hm, hn, hs => by
    rw [List.pairwise_cons] at hs ⊢
    rw [List.map_cons, List.nodup_cons] at hn
    refine ⟨fun y hy => le_lt (hm x (by simp)) (hm y (by simp [hy])) (fun e => hn.1 (List.mem_map.2 ⟨y, hy, e.symm⟩)) (hs.1 y hy), sort_strict (fun e he => hm e (by simp [he])) hn.2 hs.2⟩
theorem pathsOK_some : ∀ {l : List En} {p : Str}, (∀ e ∈ l, mayP e.path = true) → (∀ e ∈ l, lessP p e.path = true) → l.Pairwise ltE → pathsOK (some p) l = true
  | [], _, _, _, _ => rfl
  | x :: r, p, h1, h2, h3 => by
    rw [List.pairwise_cons] at h3
    rw [pathsOK, h1 x (by simp), h2 x (by simp), pathsOK_some (fun e he => h1 e (by simp [he])) h3.1 h3.2]
    rfl
/-- The first of entries in strict order is the root, if it is there. -/
theorem root_first {x : En} {r : List En} (h : (x :: r).Pairwise ltE) {e : En} (he : e ∈ x :: r) (hp : e.path = []) : x = e := by
  rcases List.mem_cons.1 he with e1 | he
  · exact e1.symm
  · have := (List.pairwise_cons.1 h).1 e he
    unfold ltE at this
    rw [hp, less_nil] at this
    cases this
theorem one_of {α : Type} {l : List α} {e : α} (hn : l.Nodup) (he : e ∈ l) (h : ∀ x ∈ l, x = e) : l = [e] := by
  cases l with
  | nil => cases he
  | cons x r =>
    have hx := h x (by simp)
    subst hx
    cases r with
    | nil => rfl
    | cons y r =>
      have := h y (by simp)
      subst this
      rw [List.nodup_cons] at hn
      exact absurd List.mem_cons_self hn.1
theorem idx_get {F : List Int} {k : Int} (h : k ∈ F) : F[F.idxOf k]? = some k := by
  have hl := List.idxOf_lt_length_iff.2 h
  rw [List.getElem?_eq_getElem hl, List.getElem_idxOf hl]
theorem idx_inj {F : List Int} {a b : Int} (ha : a ∈ F) (h : F.idxOf a = F.idxOf b) : a = b := by
  have hb : b ∈ F := List.idxOf_lt_length_iff.1 (h ▸ List.idxOf_lt_length_iff.2 ha)
  have h1 := idx_get ha
  have h2 := idx_get hb
  rw [h, h2] at h1
  exact (Option.some.inj h1).symm
/-- The nodes that are met. -/
theorem renN_get {ns : List Nd} {F : List Int} {k : Int} (h : k ∈ F) : (F.map fun k => ns.getD k.toNat default).getD (F.idxOf k) default = ns.getD k.toNat default := by
  rw [List.getD_eq_getElem?_getD, List.getElem?_map, idx_get h]
  rfl
theorem renN_kind {ns : List Nd} {F : List Int} {k : Int} (h : k ∈ F) : kindAt (F.map fun k => ns.getD k.toNat default) (F.idxOf k : Int) = kindAt ns k := by
  unfold kindAt
  rw [Int.toNat_natCast, renN_get h]

theorem good_norm {t : Tre} (h : GoodT t) : normT t = some (renT t.ns (sortE t.es)) := by
  have hp := sortE_perm t.es
  have hs := sortE_sorted t.es
  unfold normT
  rw [inR_all h.inr, Bool.true_and]
  obtain ⟨s, hse⟩ : ∃ s, s = sortE t.es := ⟨_, rfl⟩
  rw [← hse] at hp hs ⊢
  have hpath : ∀ e ∈ s, mayP e.path = true := fun e he => h.path e (hp.mem_iff.1 he)
  have hnd : (s.map (·.path)).Nodup := (hp.map (·.path)).nodup_iff.2 h.nd
  have hst := sort_strict hpath hnd hs
  obtain ⟨F, hF⟩ : ∃ F, F = (renG [] s).2 := ⟨_, rfl⟩
  have hfst : (renG [] s).1 = s.map (renE F) := by rw [hF]; exact renG_fst s []
  have hFm : ∀ k, k ∈ F ↔ ∃ e ∈ s, e.node = k := fun k => by rw [hF, renG_mem k s []]; simp
  have hFn : F.Nodup := by rw [hF]; exact renG_nodup s [] List.nodup_nil
  have hnum := renG_num s []
  rw [← hF, hfst] at hnum
  have hT : renT t.ns s = ⟨s.map (renE F), F.map fun k => t.ns.getD k.toNat default⟩ := by unfold renT; rw [hfst, ← hF]
  rw [hT]
  have hin : ∀ e ∈ s, e.node ∈ F := fun e he => (hFm _).2 ⟨e, he, rfl⟩
  obtain ⟨ro, hro, hrp, hrk⟩ := h.root
  have hros := hp.mem_iff.2 hro
  cases s with
  | nil => cases hros
  | cons x r =>
    have hx : x = ro := root_first hst hros hrp
    subst hx
    have hmp : ((x :: r).map (renE F)).map (·.path) = (x :: r).map (·.path) := by rw [List.map_map]; rfl
    have hst' : ((x :: r).map (renE F)).Pairwise ltE := ltE_map hmp.symm hst
    have hnd' : (((x :: r).map (renE F)).map (·.path)).Nodup := by rw [hmp]; exact hnd
    have hm : mayT ⟨(x :: r).map (renE F), F.map fun k => t.ns.getD k.toNat default⟩ = true := by
      unfold mayT
      simp only [Bool.and_eq_true, decide_eq_true_eq]
      refine ⟨⟨⟨⟨by rw [List.length_map, List.length_cons]; omega, by rw [List.length_map, hp.length_eq]; exact h.len⟩, ?_⟩, ?_⟩, ?_⟩
      · refine (ordB_iff _ _ none 0 (Nat.zero_le _)).2 ⟨?_, ?_, ?_, ?_, ?_⟩
        · rw [List.map_cons, pathsOK]
          rw [show (renE F x).path = x.path from rfl, hpath x (by simp), decide_eq_true hrp]
          rw [List.map_cons, List.pairwise_cons] at hst'
          rw [show pathsOK (some x.path) (r.map (renE F)) = true from pathsOK_some (fun e he => ?_) (fun e he => hst'.1 e he) hst'.2]
          · rfl
          · obtain ⟨y, hy, rfl⟩ := List.mem_map.1 he
            exact hpath y (by simp [hy])
        · rw [List.length_map]; exact hnum.1
        · rw [List.length_map]; exact hnum.2
        · intro i _ hi
          rw [List.length_map] at hi
          obtain ⟨e, he, hk⟩ := (hFm F[i]).1 (List.getElem_mem hi)
          rw [List.getD_eq_getElem?_getD, List.getElem?_map, List.getElem?_eq_getElem hi]
          show nodeOK (t.ns.getD F[i].toNat default) = true
          rw [← hk]
          exact h.node e (hp.mem_iff.1 he)
        · intro i hi hk
          refine ⟨fun hh => by omega, fun _ => ?_⟩
          rw [List.length_map] at hi
          obtain ⟨e, he, hek⟩ := (hFm F[i]).1 (List.getElem_mem hi)
          have hidx : F.idxOf e.node = i := by rw [hek]; exact List.Nodup.idxOf_getElem hFn i hi
          have hk2 : kindAt t.ns e.node = 1 := by rw [← hk, ← hidx, renN_kind (hin e he)]
          unfold cntN
          rw [List.countP_map, List.countP_eq_length_filter]
          have : (x :: r).filter ((fun e => decide (e.node = (i : Int))) ∘ renE F) = [e] := by
            refine one_of ((nodup_of_paths hnd).filter _) (List.mem_filter.2 ⟨he, ?_⟩) fun y hy => ?_
            · simp only [Function.comp_apply, decide_eq_true_eq]
              show (F.idxOf e.node : Int) = i
              rw [hidx]
            · obtain ⟨hy1, hy2⟩ := List.mem_filter.1 hy
              simp only [Function.comp_apply, decide_eq_true_eq] at hy2
              have hy3 : F.idxOf y.node = F.idxOf e.node := by
                have : (F.idxOf y.node : Int) = i := hy2
                omega
              exact h.dir e (hp.mem_iff.1 he) hk2 y (hp.mem_iff.1 hy1) (idx_inj (hin y hy1) hy3)
          rw [this]; rfl
      · show kindAt _ (F.idxOf x.node : Int) = 1
        rw [renN_kind (hin x (by simp))]
        exact hrk
      · rw [List.all_eq_true]
        intro e' he'
        rw [List.map_cons, List.drop_succ_cons, List.drop_zero] at he'
        obtain ⟨e, he, rfl⟩ := List.mem_map.1 he'
        have hes : e ∈ x :: r := by simp [he]
        have hne : e.path ≠ [] := fun e0 => by
          have := (List.pairwise_cons.1 hst).1 e he
          unfold ltE at this
          rw [e0, less_nil] at this
          cases this
        obtain ⟨d, hd, hdp, hdk⟩ := h.par e (hp.mem_iff.1 hes) hne
        have hds := hp.mem_iff.2 hd
        unfold parOK
        have hf : findT ((x :: r).map (renE F)) (upP (renE F e).path) = some (renE F d).node := by
          have := findT_nodup hnd' (List.mem_map_of_mem (f := renE F) hds)
          rw [← this]
          show findT _ (upP e.path) = findT _ d.path
          rw [hdp]
        simp only [hf, decide_eq_true_eq]
        show kindAt _ (F.idxOf d.node : Int) = 1
        rw [renN_kind (hin d hds)]
        exact hdk
    rw [if_pos hm]

theorem norm_form {t u : Tre} (h : normT t = some u) : t.es.all (inR t.ns.length) = true ∧ mayT (renT t.ns (sortE t.es)) = true ∧ u = renT t.ns (sortE t.es) := by
  unfold normT at h
  split at h
  · rename_i hh
    rw [Bool.and_eq_true] at hh
    exact ⟨hh.1, hh.2, (Option.some.inj h).symm⟩
  · cases h
/-- A valid tree is good. -/
theorem may_good {t : Tre} (h : mayT t = true) : GoodT t := by
  have hasc := mayT_asc h
  have hpath := mayT_path h
  have hnd := asc_nodup hasc
  obtain ⟨es, ns⟩ := t
  dsimp only at hasc hpath hnd
  unfold mayT at h
  simp only [Bool.and_eq_true, decide_eq_true_eq] at h
  obtain ⟨⟨⟨⟨h1, h2⟩, h3⟩, h4⟩, h5⟩ := h
  obtain ⟨g1, g2, g3, g4, g5⟩ := (ordB_iff ns es none 0 (Nat.zero_le _)).1 h3
  have hin := numOK_mem g2
  cases es with
  | nil => simp at h1
  | cons x r =>
    simp only [pathsOK, Bool.and_eq_true, decide_eq_true_eq] at g1
    have hx : x.path = [] := g1.1.2
    refine ⟨hin, h2, hpath, hnd, ⟨x, by simp, hx, h4⟩, fun e he hne => ?_, fun e he => ?_, fun e he hk e' he' hn => ?_⟩
    · rcases List.mem_cons.1 he with e1 | her
      · subst e1; exact absurd hx hne
      · have := List.all_eq_true.1 h5 e (by simpa using her)
        unfold parOK at this
        dsimp only at this
        cases hf : findT (x :: r) (upP e.path) with
        | none => rw [hf] at this; cases this
        | some k =>
          rw [hf] at this
          simp only [decide_eq_true_eq] at this
          obtain ⟨d, hd, hdp, hdk⟩ := findT_mem hf
          exact ⟨d, hd, hdp, by rw [hdk]; exact this⟩
    · have := hin e he
      exact g4 e.node.toNat (Nat.zero_le _) (by omega)
    · have hi := hin e he
      have hc := (g5 e.node.toNat (by omega) (by rw [Int.toNat_of_nonneg hi.1]; exact hk)).2 (Nat.zero_le _)
      unfold cntN at hc
      rw [Int.toNat_of_nonneg hi.1, List.countP_eq_length_filter] at hc
      obtain ⟨z, hz⟩ := List.length_eq_one_iff.1 hc
      have m1 : e ∈ (x :: r).filter fun y => decide (y.node = e.node) := List.mem_filter.2 ⟨he, by simp⟩
      have m2 : e' ∈ (x :: r).filter fun y => decide (y.node = e.node) := List.mem_filter.2 ⟨he', by simp [hn]⟩
      rw [hz] at m1 m2
      rw [List.mem_singleton.1 m1, List.mem_singleton.1 m2]
theorem norm_good {t u : Tre} (h : normT t = some u) : GoodT t := by
  obtain ⟨h1, h2, rfl⟩ := norm_form h
  have hp := sortE_perm t.es
  obtain ⟨s, hse⟩ : ∃ s, s = sortE t.es := ⟨_, rfl⟩
  rw [← hse] at hp h2
  have hg := may_good h2
  obtain ⟨F, hF⟩ : ∃ F, F = (renG [] s).2 := ⟨_, rfl⟩
  have hfst : (renG [] s).1 = s.map (renE F) := by rw [hF]; exact renG_fst s []
  have hFm : ∀ k, k ∈ F ↔ ∃ e ∈ s, e.node = k := fun k => by rw [hF, renG_mem k s []]; simp
  have hT : renT t.ns s = ⟨s.map (renE F), F.map fun k => t.ns.getD k.toNat default⟩ := by unfold renT; rw [hfst, ← hF]
  rw [hT] at hg
  have hin : ∀ e ∈ t.es, e.node ∈ F := fun e he => (hFm _).2 ⟨e, hp.mem_iff.2 he, rfl⟩
  have hme : ∀ e ∈ t.es, renE F e ∈ s.map (renE F) := fun e he => List.mem_map_of_mem (hp.mem_iff.2 he)
  have hki : ∀ e ∈ t.es, kindAt (F.map fun k => t.ns.getD k.toNat default) (renE F e).node = kindAt t.ns e.node := fun e he => renN_kind (hin e he)
  refine ⟨fun e he => ?_, ?_, fun e he => hg.path (renE F e) (hme e he), ?_, ?_, fun e he hne => ?_, fun e he => ?_, fun e he hk e' he' hn => ?_⟩
  · have := List.all_eq_true.1 h1 e he
    unfold inR at this
    simpa using this
  · have := hg.len
    dsimp only at this
    rw [List.length_map, hp.length_eq] at this
    exact this
  · have := hg.nd
    dsimp only at this
    rw [List.map_map] at this
    exact (hp.map (·.path)).nodup_iff.1 this
  · obtain ⟨e', he', h3, h4⟩ := hg.root
    obtain ⟨e, he, rfl⟩ := List.mem_map.1 he'
    have het := hp.mem_iff.1 he
    exact ⟨e, het, h3, by rw [← hki e het]; exact h4⟩
  · obtain ⟨d', hd', h3, h4⟩ := hg.par _ (hme e he) hne
    obtain ⟨d, hd, rfl⟩ := List.mem_map.1 hd'
    have hdt := hp.mem_iff.1 hd
    exact ⟨d, hdt, h3, by rw [← hki d hdt]; exact h4⟩
  · have := hg.node _ (hme e he)
    dsimp only at this
    rw [show (renE F e).node.toNat = F.idxOf e.node from rfl, renN_get (hin e he)] at this
    exact this
  · have := hg.dir _ (hme e he) ((hki e he).trans hk) _ (hme e' he') (by unfold renE; rw [hn])
    have hpp := congrArg En.path this
    have hpp : e'.path = e.path := hpp
    have hnd : (t.es.map (·.path)).Nodup := by
      have := hg.nd
      dsimp only at this
      rw [List.map_map] at this
      exact (hp.map (·.path)).nodup_iff.1 this
    exact nodup_path hnd he' he hpp
/-- Which trees have a normal form. -/
theorem norm_iff (t : Tre) : (normT t).isSome = true ↔ GoodT t :=
  ⟨fun h => by
    cases hn : normT t with
    | none => rw [hn] at h; cases h
    | some u => exact norm_good hn, fun h => by rw [good_norm h]; rfl⟩
theorem norm_none {t : Tre} (h : ¬ GoodT t) : normT t = none := by
  cases hn : normT t with
  | none => rfl
  | some u => exact absurd (norm_good hn) h

/-- A valid tree is its own normal form. -/
theorem renG_same : ∀ (l : List En) (n u : Nat), numOK n u l = true → renG ((List.range u).map Int.ofNat) l = (l, (List.range (finU u l)).map Int.ofNat)
  | [], n, u, _ => rfl
  | e :: r, n, u, h => by
    simp only [numOK, Bool.and_eq_true, decide_eq_true_eq] at h
    obtain ⟨⟨⟨h0, h1⟩, h2⟩, h3⟩ := h
    obtain ⟨k, hk⟩ := Int.eq_ofNat_of_zero_le h0
    obtain ⟨p, z⟩ := e
    dsimp only at hk h1 h2 h3
    subst hk
    have hix : ∀ {m : Nat} {k : Nat}, k < m → ((List.range m).map Int.ofNat).idxOf (k : Int) = k := fun {m k} hlt => by
      have hn : ((List.range m).map Int.ofNat).Nodup := List.pairwise_map.2 (List.nodup_range.imp fun hne e => hne (Int.ofNat.inj e))
      have := List.Nodup.idxOf_getElem hn k (by simpa using hlt)
      simpa using this
    rw [renG, finU]
    dsimp only
    by_cases hlt : (k : Int) < u
    · rw [if_pos hlt] at h3 ⊢
      rw [if_pos (show (k : Int) ∈ (List.range u).map Int.ofNat from List.mem_map.2 ⟨k, List.mem_range.2 (by omega), rfl⟩), hix (show k < u by omega), renG_same r n u h3]
    · rw [if_neg hlt] at h3 ⊢
      have hku : k = u := by omega
      subst hku
      rw [if_neg (fun hm => by
        obtain ⟨j, hj, hje⟩ := List.mem_map.1 hm
        have := List.mem_range.1 hj
        have := Int.ofNat.inj hje
        omega)]
      have e1 : (List.range k).map Int.ofNat ++ [(k : Int)] = (List.range (k + 1)).map Int.ofNat := by rw [List.range_succ, List.map_append]; rfl
      rw [e1, renG_same r n (k + 1) h3, List.length_map, List.length_range]
theorem norm_same {t : Tre} (h : mayT t = true) : normT t = some t := by
  rw [good_norm (may_good h)]
  have hs : sortE t.es = t.es := sort_one t.es (sortE t.es) (mayT_asc h) (sortE_sorted _) (sortE_perm _)
  obtain ⟨es, ns⟩ := t
  dsimp only at hs ⊢
  rw [hs]
  unfold mayT at h
  simp only [Bool.and_eq_true, decide_eq_true_eq] at h
  obtain ⟨_, g2, g3, _, _⟩ := (ordB_iff ns es none 0 (Nat.zero_le _)).1 h.1.1.2
  have := renG_same es ns.length 0 g2
  unfold renT
  rw [show ([] : List Int) = (List.range 0).map Int.ofNat from rfl, this, g3]
  congr 2
  rw [List.map_map]
  apply List.ext_getElem
  · simp
  · intro i h1 h2
    simp [List.getD_eq_getElem?_getD, h2]

/-- Numbers changed. -/
def mvE (f : Int → Int) (e : En) : En := ⟨e.path, f e.node⟩
theorem ren_map (f : Int → Int) (hf : ∀ a b, f a = f b → a = b) : ∀ (l : List En) (s : List Int), renG (s.map f) (l.map (mvE f)) = ((renG s l).1, (renG s l).2.map f)
  | [], s => rfl
  | e :: r, s => by
    have hm : f e.node ∈ s.map f ↔ e.node ∈ s := ⟨fun h => by
      obtain ⟨a, ha, he⟩ := List.mem_map.1 h
      rw [← hf _ _ he]; exact ha, fun h => List.mem_map_of_mem h⟩
    have hix : ∀ s : List Int, (s.map f).idxOf (f e.node) = s.idxOf e.node := fun s => by
      induction s with
      | nil => rfl
      | cons a s ih =>
        rw [List.map_cons, List.idxOf_cons, List.idxOf_cons, ih]
        have : (f a == f e.node) = (a == e.node) := by
          rw [Bool.eq_iff_iff, beq_iff_eq, beq_iff_eq]
          exact ⟨hf _ _, fun h => by rw [h]⟩
        rw [this]
    rw [List.map_cons, renG, renG]
    show (if f e.node ∈ s.map f then _ else _) = _
    by_cases h : e.node ∈ s
    · rw [if_pos (hm.2 h), if_pos h, ren_map f hf r s]
      show (_ :: _, _) = _
      unfold mvE
      dsimp only
      rw [hix]
    · rw [if_neg (fun h' => h (hm.1 h')), if_neg h]
      have e1 : s.map f ++ [(mvE f e).node] = (s ++ [e.node]).map f := by rw [List.map_append]; rfl
      rw [e1, ren_map f hf r (s ++ [e.node]), List.length_map]
      rfl
/-- The same tree, told in another order and with other numbers. -/
theorem norm_iso {t u x : Tre} (f : Int → Int) (hf : ∀ a b, f a = f b → a = b) (hp : u.es.Perm (t.es.map (mvE f))) (hn : ∀ e ∈ t.es, 0 ≤ f e.node ∧ f e.node < u.ns.length ∧ u.ns.getD (f e.node).toNat default = t.ns.getD e.node.toNat default) (h : normT t = some x) : normT u = some x := by
  have hg := norm_good h
  obtain ⟨h1, h2, h3⟩ := norm_form h
  have hs := sortE_sorted t.es
  have hps := sortE_perm t.es
  obtain ⟨s, hse⟩ : ∃ s, s = sortE t.es := ⟨_, rfl⟩
  rw [← hse] at hs hps h2 h3
  have hmp : (s.map (mvE f)).map (·.path) = s.map (·.path) := by rw [List.map_map]; rfl
  have hst := sort_strict (fun e he => hg.path e (hps.mem_iff.1 he)) ((hps.map (·.path)).nodup_iff.2 hg.nd) hs
  have hst' : (s.map (mvE f)).Pairwise ltE := ltE_map hmp.symm hst
  have hsu : sortE u.es = s.map (mvE f) := sort_one _ _ hst' (sortE_sorted _) (((sortE_perm _).trans hp).trans (hps.map _).symm)
  have hre : renT u.ns (s.map (mvE f)) = renT t.ns s := by
    unfold renT
    rw [show ([] : List Int) = ([] : List Int).map f from rfl, ren_map f hf s []]
    dsimp only
    congr 1
    rw [List.map_map]
    refine List.map_congr_left fun k hk => ?_
    obtain ⟨e, he, rfl⟩ := ((renG_mem k s []).1 hk).resolve_left (by simp)
    exact (hn e (hps.mem_iff.1 he)).2.2
  unfold normT
  rw [hsu, hre, inR_all (fun e he => ?_), Bool.true_and, if_pos h2, h3]
  obtain ⟨e', he', rfl⟩ := List.mem_map.1 (hp.mem_iff.1 he)
  exact ⟨(hn e' he').1, (hn e' he').2.1⟩
end Eng
end Go.Proofs.YtleaanenpimanaaGreatDoor

/-! Plain law: bytes written into a file's pieces, and a file cut, as the reference has them: what may be stays so. -/
namespace Go.Proofs.YtleaanenpimanaaGreatDoor
namespace Eng

/-- Where a piece ends. -/
def endP (p : Pce) : Int := p.pos + (p.data.length : Int)
/-- The pieces from lo on, below hi. -/
def clip1 (lo hi : Int) (p : Pce) : Option Pce :=
  if max lo p.pos < min hi (endP p) then some ⟨max lo p.pos, (p.data.drop (max lo p.pos - p.pos).toNat).take (min hi (endP p) - max lo p.pos).toNat⟩ else none
def clipP (l : List Pce) (lo hi : Int) : List Pce := l.filterMap (clip1 lo hi)
/-- Pieces that touch are one. -/
def joinG : Pce → List Pce → List Pce
  | c, [] => [c]
  | c, p :: r => if endP c = p.pos then joinG ⟨c.pos, c.data ++ p.data⟩ r else c :: joinG p r
def joinedP : List Pce → List Pce
  | [] => []
  | p :: r => joinG p r
/-- The pieces behind a write. -/
def wrP (l : List Pce) (pos : Int) (s : Str) : List Pce := joinedP (clipP l 0 pos ++ [⟨pos, s⟩] ++ clipP l (pos + (s.length : Int)) 1099511627777)
def writeN (n : Nd) (pos : Int) (s : Str) : Nd × Int :=
  if nodeOK n = false ∨ n.kind ≠ 2 ∨ pos < 0 ∨ 1099511627776 < pos then (n, 1)
  else if 1099511627776 - pos < (s.length : Int) then (n, 2)
  else if s = [] then (n, 0)
  else if 4000 < bytesP (wrP n.data pos s) ∨ 16 < (wrP n.data pos s).length then (n, 13)
  else ({ n with data := wrP n.data pos s, size := max n.size (pos + (s.length : Int)) }, 0)
def cutN (n : Nd) (size : Int) : Nd × Int :=
  if nodeOK n = false ∨ n.kind ≠ 2 ∨ size < 0 ∨ 1099511627776 < size then (n, 1)
  else ({ n with data := clipP n.data 0 size, size := size }, 0)

/-- Pieces that lie one behind the other; g: how far apart at the least. -/
def SepP (g : Int) (l : List Pce) : Prop := l.Pairwise fun p q => endP p + g ≤ q.pos
theorem ext_iff (size : Int) : ∀ (l : List Pce) (last : Int), (∀ p ∈ l, p.data ≠ []) → (extOK size last l = true ↔ SepP 1 l ∧ (∀ p ∈ l, last < p.pos ∧ endP p ≤ size) ∧ last ≤ size)
  | [], last, _ => by simp [extOK, SepP]
  | p :: r, last, h => by
    have hp := h p (by simp)
    have hpl : 0 < p.data.length := List.length_pos_iff.2 hp
    have ih := ext_iff size r (endP p) (fun q hq => h q (by simp [hq]))
    rw [extOK, Bool.and_eq_true, decide_eq_true_eq]
    show last < p.pos ∧ extOK size (endP p) r = true ↔ _
    rw [ih]
    unfold SepP
    rw [List.pairwise_cons]
    have he : endP p = p.pos + (p.data.length : Int) := rfl
    constructor
    · rintro ⟨h1, h2, h3, h4⟩
      refine ⟨⟨fun q hq => by have := (h3 q hq).1; omega, h2⟩, fun q hq => ?_, by omega⟩
      rcases List.mem_cons.1 hq with rfl | hq
      · exact ⟨h1, h4⟩
      · have := h3 q hq; exact ⟨by omega, this.2⟩
    · rintro ⟨⟨h1, h2⟩, h3, h4⟩
      have hpp := h3 p (by simp)
      exact ⟨hpp.1, h2, fun q hq => ⟨by have := h1 q hq; omega, (h3 q (by simp [hq])).2⟩, hpp.2⟩
theorem file_iff (n : Nd) : fileOK n = true ↔ 0 ≤ n.size ∧ n.size ≤ 1099511627776 ∧ n.data.length ≤ 16 ∧ bytesP n.data ≤ 4000 ∧ SepP 1 n.data ∧ ∀ p ∈ n.data, p.data ≠ [] ∧ 0 ≤ p.pos ∧ endP p ≤ n.size := by
  unfold fileOK
  simp only [Bool.and_eq_true, decide_eq_true_eq, List.all_eq_true, pceOK]
  constructor
  · rintro ⟨⟨⟨⟨⟨h1, h2⟩, h3⟩, h4⟩, h5⟩, h6⟩
    obtain ⟨g1, g2, g3⟩ := (ext_iff _ _ _ (fun p hp => (h4 p hp).1.1)).1 h6
    exact ⟨h1, h2, h3, h5, g1, fun p hp => ⟨(h4 p hp).1.1, (h4 p hp).1.2, (g2 p hp).2⟩⟩
  · rintro ⟨h1, h2, h3, h5, g1, h4⟩
    refine ⟨⟨⟨⟨⟨h1, h2⟩, h3⟩, fun p hp => ⟨⟨(h4 p hp).1, (h4 p hp).2.1⟩, ?_⟩⟩, h5⟩, (ext_iff _ _ _ (fun p hp => (h4 p hp).1)).2 ⟨g1, fun p hp => ⟨by have := (h4 p hp).2.1; omega, (h4 p hp).2.2⟩, by omega⟩⟩
    have := (h4 p hp).2.2
    unfold endP at this
    omega

theorem clip1_spec {lo hi : Int} {p q : Pce} (h : clip1 lo hi p = some q) : q.data ≠ [] ∧ q.pos = max lo p.pos ∧ endP q = min hi (endP p) := by
  unfold clip1 at h
  split at h
  · rename_i hlt
    injection h with h
    subst h
    have hl : ((p.data.drop (max lo p.pos - p.pos).toNat).take (min hi (endP p) - max lo p.pos).toNat).length = (min hi (endP p) - max lo p.pos).toNat := by
      rw [List.length_take, List.length_drop]
      unfold endP at hlt ⊢
      omega
    refine ⟨fun e => ?_, rfl, ?_⟩
    · have e2 : ((p.data.drop (max lo p.pos - p.pos).toNat).take (min hi (endP p) - max lo p.pos).toNat) = [] := e
      rw [e2, List.length_nil] at hl
      omega
    · show max lo p.pos + (((p.data.drop (max lo p.pos - p.pos).toNat).take (min hi (endP p) - max lo p.pos).toNat).length : Int) = _
      rw [hl]
      omega
  · cases h
theorem clip_mem {l : List Pce} {lo hi : Int} {q : Pce} (h : q ∈ clipP l lo hi) : q.data ≠ [] ∧ lo ≤ q.pos ∧ endP q ≤ hi ∧ ∃ p ∈ l, p.pos ≤ q.pos ∧ endP q ≤ endP p := by
  obtain ⟨p, hp, hc⟩ := List.mem_filterMap.1 h
  obtain ⟨h1, h2, h3⟩ := clip1_spec hc
  exact ⟨h1, by omega, by omega, p, hp, by omega, by omega⟩
theorem clip_sep {l : List Pce} {g lo hi : Int} (h : SepP g l) : SepP g (clipP l lo hi) := by
  unfold SepP clipP
  rw [List.pairwise_filterMap]
  refine h.imp fun {a b} hab a' ha b' hb => ?_
  have h1 := (clip1_spec ha).2.2
  have h2 := (clip1_spec hb).2.1
  omega
theorem clip_len (l : List Pce) (lo hi : Int) : (clipP l lo hi).length ≤ l.length := List.length_filterMap_le _ _
theorem clip_bytes : ∀ (l : List Pce) (lo hi : Int), bytesP (clipP l lo hi) ≤ bytesP l
  | [], _, _ => Nat.le_refl _
  | p :: r, lo, hi => by
    have ih := clip_bytes r lo hi
    unfold clipP at ih ⊢
    rw [List.filterMap_cons]
    cases hc : clip1 lo hi p with
    | none => simp only [bytesP]; omega
    | some q =>
      have : q.data.length ≤ p.data.length := by
        have h := clip1_spec hc
        unfold clip1 at hc
        split at hc
        · injection hc with hc
          subst hc
          rw [List.length_take, List.length_drop]
          omega
        · cases hc
      simp only [bytesP]
      omega
/-- What joining makes of pieces that lie one behind the other. -/
theorem joinG_spec : ∀ (r : List Pce) (c : Pce), SepP 0 (c :: r) → (∀ p ∈ c :: r, p.data ≠ []) → SepP 1 (joinG c r) ∧ ∀ q ∈ joinG c r, q.data ≠ [] ∧ (∃ p ∈ c :: r, q.pos = p.pos) ∧ ∃ p ∈ c :: r, endP q = endP p
  | [], c, _, h => ⟨by simp [joinG, SepP], fun q hq => by
    rw [joinG, List.mem_singleton] at hq
    subst hq
    exact ⟨h q (by simp), ⟨q, by simp, rfl⟩, ⟨q, by simp, rfl⟩⟩⟩
  | p :: r, c, hs, h => by
    unfold SepP at hs
    rw [List.pairwise_cons, List.pairwise_cons] at hs
    obtain ⟨h1, h2, h3⟩ := hs
    rw [joinG]
    split
    · rename_i he
      have hce : endP ⟨c.pos, c.data ++ p.data⟩ = endP p := by
        unfold endP at he ⊢
        dsimp only
        rw [List.length_append]
        omega
      have hsep : SepP 0 (⟨c.pos, c.data ++ p.data⟩ :: r) := by
        unfold SepP
        rw [List.pairwise_cons]
        exact ⟨fun q hq => by rw [hce]; exact h2 q hq, h3⟩
      obtain ⟨g1, g2⟩ := joinG_spec r _ hsep (fun q hq => by
        rcases List.mem_cons.1 hq with rfl | hq
        · have := h c (by simp)
          simp [this]
        · exact h q (by simp [hq]))
      refine ⟨g1, fun q hq => ?_⟩
      obtain ⟨k1, ⟨x, hx, k2⟩, ⟨y, hy, k3⟩⟩ := g2 q hq
      refine ⟨k1, ?_, ?_⟩
      · rcases List.mem_cons.1 hx with rfl | hx
        · exact ⟨c, by simp, k2⟩
        · exact ⟨x, by simp [hx], k2⟩
      · rcases List.mem_cons.1 hy with rfl | hy
        · exact ⟨p, by simp, by rw [k3, hce]⟩
        · exact ⟨y, by simp [hy], k3⟩
    · rename_i he
      obtain ⟨g1, g2⟩ := joinG_spec r p (by unfold SepP; rw [List.pairwise_cons]; exact ⟨h2, h3⟩) (fun q hq => h q (by simp [hq]))
      have hpl : ∀ q ∈ p :: r, 0 < q.data.length := fun q hq => List.length_pos_iff.2 (h q (by simp [hq]))
      refine ⟨?_, fun q hq => ?_⟩
      · unfold SepP
        rw [List.pairwise_cons]
        refine ⟨fun q hq => ?_, g1⟩
        obtain ⟨_, ⟨x, hx, k2⟩, _⟩ := g2 q hq
        rw [k2]
        have hp0 := h1 p (by simp)
        rcases List.mem_cons.1 hx with rfl | hx
        · omega
        · have := h2 x hx
          have := hpl p (by simp)
          unfold endP at *
          omega
      · rcases List.mem_cons.1 hq with rfl | hq
        · exact ⟨h q (by simp), ⟨q, by simp, rfl⟩, ⟨q, by simp, rfl⟩⟩
        · obtain ⟨k1, ⟨x, hx, k2⟩, ⟨y, hy, k3⟩⟩ := g2 q hq
          exact ⟨k1, ⟨x, List.mem_cons_of_mem _ hx, k2⟩, ⟨y, List.mem_cons_of_mem _ hy, k3⟩⟩
theorem joined_spec {l : List Pce} (hs : SepP 0 l) (h : ∀ p ∈ l, p.data ≠ []) : SepP 1 (joinedP l) ∧ ∀ q ∈ joinedP l, q.data ≠ [] ∧ (∃ p ∈ l, q.pos = p.pos) ∧ ∃ p ∈ l, endP q = endP p := by
  cases l with
  | nil => exact ⟨List.Pairwise.nil, fun q hq => by cases hq⟩
  | cons p r => exact joinG_spec r p hs h
theorem sep_weak {l : List Pce} (h : SepP 1 l) : SepP 0 l := h.imp fun {a b} hab => by omega
theorem wr_spec {n : Nd} {pos : Int} {s : Str} (h : fileOK n = true) (h0 : 0 ≤ pos) (hs : s ≠ []) (hb : (s.length : Int) ≤ 1099511627776 - pos) : SepP 1 (wrP n.data pos s) ∧ ∀ q ∈ wrP n.data pos s, q.data ≠ [] ∧ 0 ≤ q.pos ∧ endP q ≤ max n.size (pos + (s.length : Int)) := by
  obtain ⟨f1, f2, f3, f4, f5, f6⟩ := (file_iff n).1 h
  have hm : ∀ p ∈ clipP n.data 0 pos ++ [⟨pos, s⟩] ++ clipP n.data (pos + (s.length : Int)) 1099511627777, p.data ≠ [] ∧ 0 ≤ p.pos ∧ endP p ≤ max n.size (pos + (s.length : Int)) := by
    intro p hp
    rcases List.mem_append.1 hp with hp | hp
    · rcases List.mem_append.1 hp with hp | hp
      · obtain ⟨h1, h2, h3, x, hx, h4, h5⟩ := clip_mem hp
        exact ⟨h1, h2, by have := (f6 x hx).2.2; omega⟩
      · rw [List.mem_singleton.1 hp]
        exact ⟨hs, h0, by show pos + (s.length : Int) ≤ _; omega⟩
    · obtain ⟨h1, h2, h3, x, hx, h4, h5⟩ := clip_mem hp
      exact ⟨h1, by omega, by have := (f6 x hx).2.2; omega⟩
  have hsep : SepP 0 (clipP n.data 0 pos ++ [⟨pos, s⟩] ++ clipP n.data (pos + (s.length : Int)) 1099511627777) := by
    unfold SepP
    rw [List.pairwise_append, List.pairwise_append]
    refine ⟨⟨clip_sep (sep_weak f5), by simp, fun p hp q hq => ?_⟩, clip_sep (sep_weak f5), fun p hp q hq => ?_⟩
    · rw [List.mem_singleton.1 hq]
      have := (clip_mem hp).2.2.1
      show endP p + 0 ≤ pos
      omega
    · have hq2 := (clip_mem hq).2.1
      rcases List.mem_append.1 hp with hp | hp
      · have := (clip_mem hp).2.2.1
        omega
      · rw [List.mem_singleton.1 hp]
        show pos + (s.length : Int) + 0 ≤ q.pos
        omega
  obtain ⟨g1, g2⟩ := joined_spec hsep fun p hp => (hm p hp).1
  refine ⟨g1, fun q hq => ?_⟩
  obtain ⟨k1, ⟨x, hx, k2⟩, ⟨y, hy, k3⟩⟩ := g2 q hq
  exact ⟨k1, by rw [k2]; exact (hm x hx).2.1, by rw [k3]; exact (hm y hy).2.2⟩
theorem node_file {n : Nd} (h : nodeOK n = true) (hk : n.kind = 2) : fileOK n = true := by
  unfold nodeOK at h
  rw [hk] at h
  simp at h
  exact h.2.1.1
theorem node_upd {n m : Nd} (h : nodeOK n = true) (hk : n.kind = 2) (hm : m = { n with data := m.data, size := m.size }) (hf : fileOK m = true) : nodeOK m = true := by
  have hme : metaOK m = metaOK n := by rw [hm]; rfl
  have hk2 : m.kind = 2 := by rw [hm]; exact hk
  have ht : noText m = noText n := by rw [hm]; rfl
  have hd : noDev m = noDev n := by rw [hm]; rfl
  unfold nodeOK at h ⊢
  rw [hk2, hme, ht, hd]
  rw [hk] at h
  simp at h ⊢
  exact ⟨h.1, ⟨hf, h.2.1.2⟩, h.2.2⟩
theorem writeN_ok {n : Nd} (h : nodeOK n = true) (pos : Int) (s : Str) : nodeOK (writeN n pos s).1 = true := by
  unfold writeN
  split
  · exact h
  rename_i h1
  split
  · exact h
  split
  · exact h
  rename_i h2 h3
  split
  · exact h
  rename_i h4
  have hk : n.kind = 2 := by omega
  have h0 : 0 ≤ pos := by omega
  have hf := node_file h hk
  obtain ⟨f1, f2, f3, f4, f5, f6⟩ := (file_iff n).1 hf
  obtain ⟨w1, w2⟩ := wr_spec hf h0 h3 (by omega)
  refine node_upd h hk rfl ((file_iff _).2 ⟨?_, ?_, ?_, ?_, w1, w2⟩)
  · dsimp only; omega
  · dsimp only; omega
  · dsimp only; omega
  · dsimp only; omega
theorem cutN_ok {n : Nd} (h : nodeOK n = true) (size : Int) : nodeOK (cutN n size).1 = true := by
  unfold cutN
  split
  · exact h
  rename_i h1
  have hk : n.kind = 2 := by omega
  have hf := node_file h hk
  obtain ⟨f1, f2, f3, f4, f5, f6⟩ := (file_iff n).1 hf
  refine node_upd h hk rfl ((file_iff _).2 ⟨?_, ?_, ?_, ?_, clip_sep f5, fun q hq => ?_⟩)
  · dsimp only; omega
  · dsimp only; omega
  · exact Nat.le_trans (clip_len _ _ _) f3
  · exact Nat.le_trans (clip_bytes _ _ _) f4
  · obtain ⟨k1, k2, k3, _⟩ := clip_mem hq
    exact ⟨k1, k2, k3⟩
theorem writeN_kind (n : Nd) (pos : Int) (s : Str) : (writeN n pos s).1.kind = n.kind := by
  unfold writeN; repeat' split
  all_goals rfl
theorem cutN_kind (n : Nd) (size : Int) : (cutN n size).1.kind = n.kind := by
  unfold cutN; split <;> rfl
end Eng
end Go.Proofs.YtleaanenpimanaaGreatDoor

/-! Plain law: the made trees. -/
namespace Go.Proofs.YtleaanenpimanaaGreatDoor
namespace Eng

/-- A name behind a path. -/
def joinB (a b : Str) : Str := if a = [] then b else a ++ 47 :: b
def joinP (a b : Str) : Option Str := if mayP a && nameU b then (if mayP (joinB a b) then some (joinB a b) else none) else none
theorem joinP_op {a b s : Str} (h : joinP a b = some s) : mayP s = true ∧ partsP s = partsP a ++ [b] ∧ upP s = a ∧ s ≠ [] ∧ lastP s = b := by
  unfold joinP at h
  split at h
  · rename_i hh
    rw [Bool.and_eq_true] at hh
    obtain ⟨ha, hb⟩ := hh
    split at h
    · rename_i hm
      injection h with h
      rw [h] at hm
      have hbn := nameU_ns hb
      have key : s ≠ [] ∧ partsP s = partsP a ++ [b] := by
        unfold joinB at h
        by_cases h0 : a = []
        · rw [if_pos h0] at h
          subst h
          exact ⟨nameU_ne hb, by rw [partsP_ok hm (nameU_ne hb), cut_one b hbn, h0, partsP_nil]; rfl⟩
        · rw [if_neg h0] at h
          have hne : s ≠ [] := by rw [← h]; simp
          refine ⟨hne, ?_⟩
          rw [partsP_ok hm hne, partsP_ok ha h0]
          have e1 : s = joinU (cutU a ++ [b]) := by rw [join_snoc _ _ (cutU_ne a), join_cut, h]
          rw [e1, cut_join _ (by simp)]
          intro x hx
          rcases List.mem_append.1 hx with hx | hx
          · exact cutU_ns a x hx
          · rw [List.mem_singleton.1 hx]; exact hbn
      refine ⟨hm, key.2, ?_, key.1, ?_⟩
      · unfold upP
        rw [key.2, List.dropLast_concat]
        exact join_parts ha
      · unfold lastP
        rw [key.2]
        simp
    · cases h
  · cases h
theorem joinU_mem (c : UInt8) : ∀ l : List Str, c ∈ joinU l → c = 47 ∨ ∃ x ∈ l, c ∈ x
  | [], h => by cases h
  | [x], h => .inr ⟨x, by simp, h⟩
  | x :: y :: r, h => by
    rw [joinU] at h
    rcases List.mem_append.1 h with h | h
    · exact .inr ⟨x, by simp, h⟩
    · rcases List.mem_cons.1 h with h | h
      · exact .inl h
      · rcases joinU_mem c (y :: r) h with h | ⟨z, hz, h⟩
        · exact .inl h
        · exact .inr ⟨z, by simp [hz], h⟩
theorem nameU_nz {s : Str} (h : nameU s = true) : ∀ c ∈ s, c ≠ 0 := fun c hc => by
  simp only [nameU, Bool.and_eq_true, List.all_eq_true] at h
  have := (h.2 c hc).2
  simpa using this
theorem mayP_nz {s : Str} (h : mayP s = true) : ∀ c ∈ s, c ≠ 0 := fun c hc => by
  rw [← join_parts h] at hc
  rcases joinU_mem c _ hc with rfl | ⟨x, hx, hc⟩
  · decide
  · exact nameU_nz (parts_name hx) c hc

/-- A digit, a number. -/
def dg (n : Nat) : UInt8 := UInt8.ofNat (48 + n)
def decF : Nat → Nat → Str → Str
  | 0, n, s => dg n :: s
  | k + 1, n, s => if 9 < n then decF k (n / 10) (dg (n % 10) :: s) else dg n :: s
def decU (n : Nat) : Str := decF 20 n []
theorem decF_len : ∀ (k n : Nat) (s : Str), (decF k n s).length ≤ k + 1 + s.length
  | 0, n, s => by simp [decF]; omega
  | k + 1, n, s => by
    rw [decF]
    split
    · have := decF_len k (n / 10) (dg (n % 10) :: s)
      rw [List.length_cons] at this
      omega
    · rw [List.length_cons]; omega
theorem decU_len (n : Nat) : (decU n).length ≤ 21 := decF_len 20 n []

/-- The names of what is made. -/
def mkNames : List Str := [[97], [98], [99], [97, 45], [97, 98], [122], [113, 46, 114]]
def mkText (n : Nat) : Str := [116, 101, 120, 116, 32] ++ decU n ++ [32, 111, 102, 32, 116, 104, 105, 115, 32, 97, 110, 100, 32, 116, 104, 97, 116, 44, 32, 97, 110, 100, 32, 111, 102, 32, 116, 104, 105, 115, 32, 97, 110, 100, 32, 116, 104, 97, 116]
structure MkS where
  es : List En
  ns : List Nd
  dirs : List Str
  files : List Nat
def mkNode (u : Nat) : Nd := ⟨2, (u / 5 % 4096 : Nat), (u % 3 : Nat), (u % 4 : Nat), (u % 1000000 : Nat),
  if u % 11 = 0 then [⟨[117, 115, 101, 114, 46, 107], 118 :: decU (u % 100)⟩] else [],
  if u % 11 = 0 then [⟨1, 7, (u % 8 : Nat)⟩, ⟨3, 0, 7⟩] else [], 0, [], [], 0, 0⟩
def mkFile (u : Nat) (p : Str) (n : Nd) : Nd :=
  let n1 := (writeN n (u / 4 % 2 * 600 : Nat) (mkText (u % 1000))).1
  let n2 := if u % 2 = 0 then (writeN n1 (u % 90 * 10 : Nat) p).1 else n1
  if u % 5 = 0 then (cutN n2 (n2.size + (u % 7 * 100 : Nat))).1 else n2
/-- A node of its own. -/
def MkS.new (m : MkS) (p : Str) (n : Nd) : MkS := { m with es := m.es ++ [⟨p, (m.ns.length : Int)⟩], ns := m.ns ++ [n] }
def mkStep (m : MkS) (u : Nat) : MkS :=
  match joinP (m.dirs.getD (u % m.dirs.length) []) (mkNames.getD (u / 7 % 7) []) with
  | none => m
  | some p =>
    if (findT m.es p).isSome then m
    else if u / 3 % 9 < 2 then { m.new p { mkNode u with kind := 1 } with dirs := m.dirs ++ [p] }
    else if u / 3 % 9 = 2 ∧ 0 < m.files.length then { m with es := m.es ++ [⟨p, (m.files.getD (u / 2 % m.files.length) 0 : Nat)⟩] }
    else if u / 3 % 9 = 3 then m.new p { mkNode u with kind := 3, target := [46, 46, 47] ++ p }
    else if u / 3 % 9 = 4 then m.new p { mkNode u with kind := 4, major := (u % 300 : Nat), minor := (u / 2 % 300 : Nat) }
    else if u / 3 % 9 = 5 then m.new p { mkNode u with kind := 6 }
    else { m.new p (mkFile u p (mkNode u)) with files := m.files ++ [m.ns.length] }
def mkRoot : Nd := ⟨1, 493, 0, 0, 9, [], [], 0, [], [], 0, 0⟩
def mkZero : MkS := ⟨[⟨[], 0⟩], [mkRoot], [[]], []⟩
/-- What is made of numbers, not yet in order. -/
def mkAll (l : List Nat) : MkS := (l.take 25).foldl mkStep mkZero
def mkRaw (l : List Nat) : Tre := ⟨(mkAll l).es, (mkAll l).ns⟩

theorem mkNode_meta (u : Nat) : metaOK (mkNode u) = true := by
  have h1 : u / 5 % 4096 < 4096 := Nat.mod_lt _ (by decide)
  have h2 : u % 3 < 3 := Nat.mod_lt _ (by decide)
  have h3 : u % 4 < 4 := Nat.mod_lt _ (by decide)
  have h4 : u % 8 < 8 := Nat.mod_lt _ (by decide)
  have hd := decU_len (u % 100)
  by_cases h : u % 11 = 0
  · simp only [metaOK, mkNode, h, if_true, idOK, aclOK, acOK, attOK, ascF, acLt, Bool.and_eq_true, Bool.or_eq_true, decide_eq_true_eq, List.all_cons, List.all_nil, List.any_cons, List.any_nil, List.length_cons, List.length_nil, and_true]
    repeat' apply And.intro
    all_goals first | omega | decide | (left; omega) | (right; decide) | (right; left; decide) | (right; right; decide) | simp
  · simp only [metaOK, mkNode, h, if_false, idOK, aclOK, ascF, Bool.and_eq_true, Bool.or_eq_true, decide_eq_true_eq, List.all_nil, List.any_nil, List.length_nil, and_true]
    repeat' apply And.intro
    all_goals first | omega | decide | (left; rfl) | simp
theorem mkNode_file (u : Nat) : nodeOK (mkNode u) = true := by
  have h := mkNode_meta u
  unfold nodeOK
  rw [h]
  rfl
theorem mkFile_ok (u : Nat) (p : Str) : nodeOK (mkFile u p (mkNode u)) = true := by
  have h1 := writeN_ok (mkNode_file u) (u / 4 % 2 * 600 : Nat) (mkText (u % 1000))
  unfold mkFile
  dsimp only
  have h2 : nodeOK (if u % 2 = 0 then (writeN (writeN (mkNode u) (u / 4 % 2 * 600 : Nat) (mkText (u % 1000))).1 (u % 90 * 10 : Nat) p).1 else (writeN (mkNode u) (u / 4 % 2 * 600 : Nat) (mkText (u % 1000))).1) = true := by
    split
    · exact writeN_ok h1 _ _
    · exact h1
  split
  · exact cutN_ok h2 _
  · exact h2
theorem mkFile_kind (u : Nat) (p : Str) (n : Nd) : (mkFile u p n).kind = n.kind := by
  unfold mkFile
  dsimp only
  repeat' split
  all_goals simp only [cutN_kind, writeN_kind]

theorem nodeOK_dir {n : Nd} (hm : metaOK n = true) (h : noData n = true ∧ noText n = true ∧ noDev n = true) (hk : n.kind = 1 ∨ n.kind = 6) : nodeOK n = true := by
  unfold nodeOK
  rw [hm, if_pos hk, h.1, h.2.1, h.2.2]
  rfl

/-- What is made, at each step. -/
structure MkOK (m : MkS) : Prop where
  inr : ∀ e ∈ m.es, 0 ≤ e.node ∧ e.node < m.ns.length
  path : ∀ e ∈ m.es, mayP e.path = true
  nd : (m.es.map (·.path)).Nodup
  root : ⟨[], 0⟩ ∈ m.es ∧ kindAt m.ns 0 = 1
  par : ∀ e ∈ m.es, e.path ≠ [] → ∃ d ∈ m.es, d.path = upP e.path ∧ kindAt m.ns d.node = 1
  dirs : (∀ d ∈ m.dirs, ∃ e ∈ m.es, e.path = d ∧ kindAt m.ns e.node = 1) ∧ m.dirs ≠ []
  node : ∀ n ∈ m.ns, nodeOK n = true
  dir : ∀ e ∈ m.es, kindAt m.ns e.node = 1 → ∀ e' ∈ m.es, e'.node = e.node → e' = e
  files : ∀ f ∈ m.files, f < m.ns.length ∧ kindAt m.ns (f : Nat) = 2
  used : ∀ i : Nat, i < m.ns.length → ∃ e ∈ m.es, e.node = i
  len : m.ns.length ≤ m.es.length
  dl : m.dirs.length ≤ m.es.length ∧ m.files.length ≤ m.es.length

theorem kind_app {ns : List Nd} {n : Nd} {k : Int} (h0 : 0 ≤ k) (h : k < ns.length) : kindAt (ns ++ [n]) k = kindAt ns k := by
  unfold kindAt
  rw [List.getD_eq_getElem?_getD, List.getD_eq_getElem?_getD, List.getElem?_append_left (by omega)]
theorem kind_new {ns : List Nd} {n : Nd} : kindAt (ns ++ [n]) (ns.length : Int) = n.kind := by
  unfold kindAt
  rw [Int.toNat_natCast, List.getD_eq_getElem?_getD, List.getElem?_append_right (Nat.le_refl _), Nat.sub_self]
  rfl
theorem find_none {l : List En} {p : Str} (h : (findT l p).isSome = false) : ∀ e ∈ l, e.path ≠ p := by
  cases hf : findT l p with
  | none => exact findT_none hf
  | some k => rw [hf] at h; cases h
theorem nodup_snoc {l : List En} (h : (l.map (·.path)).Nodup) {e : En} (hn : ∀ x ∈ l, x.path ≠ e.path) : ((l ++ [e]).map (·.path)).Nodup := by
  rw [List.map_append, List.nodup_append]
  refine ⟨h, by simp, fun a ha b hb hab => ?_⟩
  obtain ⟨x, hx, rfl⟩ := List.mem_map.1 ha
  rw [List.map_cons, List.map_nil, List.mem_singleton] at hb
  exact hn x hx (hab.trans hb)
theorem MkOK.new {m : MkS} (h : MkOK m) {p : Str} {n : Nd} (hp : mayP p = true) (hnew : ∀ e ∈ m.es, e.path ≠ p) (hpar : ∃ d ∈ m.es, d.path = upP p ∧ kindAt m.ns d.node = 1) (hn : nodeOK n = true) : MkOK (m.new p n) ∧ kindAt (m.new p n).ns (m.ns.length : Int) = n.kind := by
  have hk : ∀ e ∈ m.es, kindAt (m.ns ++ [n]) e.node = kindAt m.ns e.node := fun e he => kind_app (h.inr e he).1 (h.inr e he).2
  have hl : (m.ns ++ [n]).length = m.ns.length + 1 := by simp
  refine ⟨⟨fun e he => ?_, fun e he => ?_, nodup_snoc h.nd hnew, ⟨List.mem_append_left _ h.root.1, ?_⟩, fun e he hne => ?_, ⟨fun d hd => ?_, h.dirs.2⟩, fun x hx => ?_, fun e he hk1 e' he' hnn => ?_, fun f hf => ?_, fun i hi => ?_, ?_, ?_⟩, kind_new⟩
  · show 0 ≤ e.node ∧ e.node < ((m.ns ++ [n]).length : Int)
    rw [hl]
    rcases List.mem_append.1 he with he | he
    · have := h.inr e he; omega
    · rw [List.mem_singleton.1 he]; dsimp only; omega
  · rcases List.mem_append.1 he with he | he
    · exact h.path e he
    · rw [List.mem_singleton.1 he]; exact hp
  · exact (hk _ h.root.1).trans h.root.2
  · rcases List.mem_append.1 he with he | he
    · obtain ⟨d, hd, h1, h2⟩ := h.par e he hne
      exact ⟨d, List.mem_append_left _ hd, h1, (hk d hd).trans h2⟩
    · obtain ⟨d, hd, h1, h2⟩ := hpar
      rw [List.mem_singleton.1 he]
      exact ⟨d, List.mem_append_left _ hd, h1, (hk d hd).trans h2⟩
  · obtain ⟨e, he, h1, h2⟩ := h.dirs.1 d hd
    exact ⟨e, List.mem_append_left _ he, h1, (hk e he).trans h2⟩
  · rcases List.mem_append.1 hx with hx | hx
    · exact h.node x hx
    · rw [List.mem_singleton.1 hx]; exact hn
  · have hlt : ∀ x ∈ m.es, x.node ≠ (m.ns.length : Int) := fun x hx => by have := (h.inr x hx).2; omega
    rcases List.mem_append.1 he with he | he
    · rcases List.mem_append.1 he' with he' | he'
      · exact h.dir e he ((hk e he).symm.trans hk1) e' he' hnn
      · rw [List.mem_singleton.1 he'] at hnn
        exact absurd hnn.symm (hlt e he)
    · rcases List.mem_append.1 he' with he' | he'
      · rw [List.mem_singleton.1 he] at hnn
        exact absurd hnn (hlt e' he')
      · rw [List.mem_singleton.1 he, List.mem_singleton.1 he']
  · have := h.files f hf
    exact ⟨by show f < (m.ns ++ [n]).length; omega, (kind_app (by omega) (by omega)).trans this.2⟩
  · have hi : i < (m.ns ++ [n]).length := hi
    by_cases he : i = m.ns.length
    · exact ⟨_, List.mem_append_right _ (List.mem_singleton.2 rfl), by rw [he]⟩
    · obtain ⟨e, h1, h2⟩ := h.used i (by omega)
      exact ⟨e, List.mem_append_left _ h1, h2⟩
  · show (m.ns ++ [n]).length ≤ (m.es ++ [_]).length
    have := h.len
    rw [hl, List.length_append, List.length_singleton]; omega
  · show m.dirs.length ≤ (m.es ++ [_]).length ∧ m.files.length ≤ (m.es ++ [_]).length
    have := h.dl
    rw [List.length_append, List.length_singleton]; omega
theorem MkOK.link {m : MkS} (h : MkOK m) {p : Str} {k : Nat} (hp : mayP p = true) (hnew : ∀ e ∈ m.es, e.path ≠ p) (hpar : ∃ d ∈ m.es, d.path = upP p ∧ kindAt m.ns d.node = 1) (hk : k < m.ns.length ∧ kindAt m.ns (k : Nat) = 2) : MkOK { m with es := m.es ++ [⟨p, (k : Nat)⟩] } := by
  refine ⟨fun e he => ?_, fun e he => ?_, nodup_snoc h.nd hnew, ⟨List.mem_append_left _ h.root.1, h.root.2⟩, fun e he hne => ?_, ⟨fun d hd => ?_, h.dirs.2⟩, h.node, fun e he hk1 e' he' hnn => ?_, h.files, fun i hi => ?_, ?_, ?_⟩
  · rcases List.mem_append.1 he with he | he
    · exact h.inr e he
    · rw [List.mem_singleton.1 he]; dsimp only; omega
  · rcases List.mem_append.1 he with he | he
    · exact h.path e he
    · rw [List.mem_singleton.1 he]; exact hp
  · rcases List.mem_append.1 he with he | he
    · obtain ⟨d, hd, h1, h2⟩ := h.par e he hne
      exact ⟨d, List.mem_append_left _ hd, h1, h2⟩
    · obtain ⟨d, hd, h1, h2⟩ := hpar
      rw [List.mem_singleton.1 he]
      exact ⟨d, List.mem_append_left _ hd, h1, h2⟩
  · obtain ⟨e, he, h1, h2⟩ := h.dirs.1 d hd
    exact ⟨e, List.mem_append_left _ he, h1, h2⟩
  · rcases List.mem_append.1 he with he | he
    · rcases List.mem_append.1 he' with he' | he'
      · exact h.dir e he hk1 e' he' hnn
      · rw [List.mem_singleton.1 he'] at hnn
        have hnn : ((k : Nat) : Int) = e.node := hnn
        rw [← hnn, hk.2] at hk1
        exact absurd hk1 (by decide)
    · rw [List.mem_singleton.1 he] at hk1
      have hk1 : kindAt m.ns (k : Nat) = 1 := hk1
      rw [hk.2] at hk1
      exact absurd hk1 (by decide)
  · obtain ⟨e, h1, h2⟩ := h.used i hi
    exact ⟨e, List.mem_append_left _ h1, h2⟩
  · have := h.len
    dsimp only
    rw [List.length_append, List.length_singleton]; omega
  · have := h.dl
    dsimp only
    rw [List.length_append, List.length_singleton]; omega
theorem mkStep_ok {m : MkS} (h : MkOK m) (u : Nat) : MkOK (mkStep m u) := by
  unfold mkStep
  split
  · exact h
  · rename_i p hj
    obtain ⟨j1, j2, j3, j4, _⟩ := joinP_op hj
    have hd : m.dirs.getD (u % m.dirs.length) [] ∈ m.dirs := by
      have hlt : u % m.dirs.length < m.dirs.length := Nat.mod_lt _ (List.length_pos_iff.2 h.dirs.2)
      rw [List.getD_eq_getElem?_getD, List.getElem?_eq_getElem hlt]
      exact List.getElem_mem hlt
    have hpar : ∃ d ∈ m.es, d.path = upP p ∧ kindAt m.ns d.node = 1 := by rw [j3]; exact h.dirs.1 _ hd
    have hme := mkNode_meta u
    split
    · exact h
    rename_i hf
    have hnew := find_none (Bool.eq_false_iff.2 hf)
    split
    · obtain ⟨g1, g2⟩ := h.new (n := { mkNode u with kind := 1 }) j1 hnew hpar (nodeOK_dir hme ⟨rfl, rfl, rfl⟩ (.inl rfl))
      refine ⟨g1.inr, g1.path, g1.nd, g1.root, g1.par, ⟨fun d hd => ?_, by simp⟩, g1.node, g1.dir, g1.files, g1.used, g1.len, ?_⟩
      · rcases List.mem_append.1 hd with hd | hd
        · exact g1.dirs.1 d hd
        · rw [List.mem_singleton.1 hd]
          exact ⟨_, List.mem_append_right _ (List.mem_singleton.2 rfl), rfl, g2⟩
      · have := h.dl
        show (m.dirs ++ [p]).length ≤ (m.es ++ [_]).length ∧ m.files.length ≤ (m.es ++ [_]).length
        simp only [List.length_append, List.length_singleton]; omega
    split
    · rename_i hk
      refine h.link j1 hnew hpar (h.files _ ?_)
      have hlt : u / 2 % m.files.length < m.files.length := Nat.mod_lt _ hk.2
      rw [List.getD_eq_getElem?_getD, List.getElem?_eq_getElem hlt]
      exact List.getElem_mem hlt
    split
    · refine (h.new j1 hnew hpar ?_).1
      have hml := mayP_len j1
      have hnz := mayP_nz j1
      unfold nodeOK
      rw [show metaOK { mkNode u with kind := 3, target := [46, 46, 47] ++ p } = true from hme]
      simp only [Bool.true_and]
      rw [if_neg (by decide), if_neg (by decide), if_pos trivial]
      simp only [Bool.and_eq_true, decide_eq_true_eq, List.all_eq_true, List.length_append, List.length_cons, List.length_nil]
      refine ⟨⟨⟨⟨rfl, rfl⟩, by omega⟩, by omega⟩, fun c hc => ?_⟩
      rcases List.mem_append.1 hc with hc | hc
      · simp only [List.mem_cons, List.not_mem_nil, or_false] at hc
        rcases hc with rfl | rfl | rfl <;> decide
      · exact hnz c hc
    split
    · refine (h.new j1 hnew hpar ?_).1
      have h1 : u % 300 < 300 := Nat.mod_lt _ (by decide)
      have h2 : u / 2 % 300 < 300 := Nat.mod_lt _ (by decide)
      unfold nodeOK
      rw [show metaOK { mkNode u with kind := 4, major := (u % 300 : Nat), minor := (u / 2 % 300 : Nat) } = true from hme]
      simp only [Bool.true_and]
      rw [if_neg (by decide), if_neg (by decide), if_neg (by decide), if_pos (.inl trivial)]
      simp only [Bool.and_eq_true, decide_eq_true_eq]
      exact ⟨⟨⟨⟨⟨rfl, rfl⟩, by omega⟩, by omega⟩, by omega⟩, by omega⟩
    split
    · exact (h.new (n := { mkNode u with kind := 6 }) j1 hnew hpar (nodeOK_dir hme ⟨rfl, rfl, rfl⟩ (.inr rfl))).1
    obtain ⟨g1, g2⟩ := h.new j1 hnew hpar (mkFile_ok u p)
    refine ⟨g1.inr, g1.path, g1.nd, g1.root, g1.par, g1.dirs, g1.node, g1.dir, fun f hf => ?_, g1.used, g1.len, ?_⟩
    · rcases List.mem_append.1 hf with hf | hf
      · exact g1.files f hf
      · rw [List.mem_singleton.1 hf]
        exact ⟨by show m.ns.length < (m.ns ++ [_]).length; simp, by rw [g2, mkFile_kind]; rfl⟩
    · have := h.dl
      show m.dirs.length ≤ (m.es ++ [_]).length ∧ (m.files ++ [_]).length ≤ (m.es ++ [_]).length
      simp only [List.length_append, List.length_singleton]; omega
theorem mkZero_ok : MkOK mkZero := by
  have h0 : ∀ e ∈ mkZero.es, e = ⟨[], 0⟩ := fun e he => List.mem_singleton.1 he
  refine ⟨fun e he => ?_, fun e he => ?_, by decide, ⟨List.mem_singleton.2 rfl, rfl⟩, fun e he hne => ?_, ⟨fun d hd => ?_, by decide⟩, fun n hn => ?_, fun e he _ e' he' _ => ?_, fun f hf => (by cases hf), fun i hi => ?_, by decide, by decide⟩
  · rw [h0 e he]; decide
  · rw [h0 e he]; rfl
  · rw [h0 e he] at hne; exact absurd rfl hne
  · rw [show d = [] from List.mem_singleton.1 hd]; exact ⟨_, List.mem_singleton.2 rfl, rfl, rfl⟩
  · rw [show n = mkRoot from List.mem_singleton.1 hn]; decide
  · rw [h0 e he, h0 e' he']
  · have hi : i < 1 := hi
    obtain rfl : i = 0 := by omega
    exact ⟨_, List.mem_singleton.2 rfl, rfl⟩
theorem mkStep_len (m : MkS) (u : Nat) : (mkStep m u).es.length ≤ m.es.length + 1 := by
  unfold mkStep
  split
  · omega
  · repeat' split
    all_goals first | omega | (show (m.es ++ [_]).length ≤ _; simp)
theorem mkFold : ∀ (l : List Nat) (m : MkS), MkOK m → MkOK (l.foldl mkStep m) ∧ (l.foldl mkStep m).es.length ≤ m.es.length + l.length
  | [], m, h => ⟨h, Nat.le_refl _⟩
  | u :: l, m, h => by
    obtain ⟨h1, h2⟩ := mkFold l (mkStep m u) (mkStep_ok h u)
    have := mkStep_len m u
    rw [List.foldl_cons, List.length_cons]
    exact ⟨h1, by omega⟩
theorem mkAll_ok (l : List Nat) : MkOK (mkAll l) ∧ (mkAll l).es.length ≤ 26 := by
  obtain ⟨h1, h2⟩ := mkFold (l.take 25) mkZero mkZero_ok
  refine ⟨h1, Nat.le_trans h2 ?_⟩
  have : (l.take 25).length ≤ 25 := by rw [List.length_take]; omega
  have h3 : mkZero.es.length = 1 := rfl
  omega
theorem MkOK.good {m : MkS} (h : MkOK m) (hl : m.es.length ≤ 100) : GoodT ⟨m.es, m.ns⟩ := by
  refine ⟨h.inr, hl, h.path, h.nd, ⟨_, h.root.1, rfl, h.root.2⟩, h.par, fun e he => ?_, h.dir⟩
  have hi := h.inr e he
  have hlt : e.node.toNat < m.ns.length := by omega
  show nodeOK (m.ns.getD e.node.toNat default) = true
  rw [List.getD_eq_getElem?_getD, List.getElem?_eq_getElem hlt]
  exact h.node _ (List.getElem_mem hlt)
/-- The made tree. -/
def mkT (l : List Nat) : Tre := renT (mkAll l).ns (sortE (mkAll l).es)
theorem mkT_norm (l : List Nat) : normT (mkRaw l) = some (mkT l) := good_norm ((mkAll_ok l).1.good (by have := (mkAll_ok l).2; omega))
theorem mkT_may (l : List Nat) : mayT (mkT l) = true := norm_may (mkT_norm l)
end Eng
end Go.Proofs.YtleaanenpimanaaGreatDoor

/-! Plain law: what the laws of trees say, of any valid tree. -/
namespace Go.Proofs.YtleaanenpimanaaGreatDoor
namespace Eng

/-! The normal form, and what it is made of. -/
theorem norm_rel {t u : Tre} (h : normT t = some u) : ∃ F : List Int, u.es.Perm (t.es.map (renE F)) ∧ u.ns = F.map (fun k => t.ns.getD k.toNat default) ∧ ∀ e ∈ t.es, e.node ∈ F := by
  obtain ⟨h1, h2, rfl⟩ := norm_form h
  have hp := sortE_perm t.es
  refine ⟨(renG [] (sortE t.es)).2, ?_, rfl, fun e he => (renG_mem _ _ []).2 (.inr ⟨e, hp.mem_iff.2 he, rfl⟩)⟩
  show (renG [] (sortE t.es)).1.Perm _
  rw [renG_fst]
  exact hp.map _
theorem norm_find {t u : Tre} (h : normT t = some u) {e : En} (he : e ∈ t.es) : ∃ k : Nat, findT u.es e.path = some (k : Int) ∧ u.ns[k]? = some (t.ns.getD e.node.toNat default) := by
  obtain ⟨F, h1, h2, h3⟩ := norm_rel h
  have hm : renE F e ∈ u.es := h1.mem_iff.2 (List.mem_map_of_mem he)
  refine ⟨F.idxOf e.node, findT_nodup (asc_nodup (mayT_asc (norm_may h))) hm, ?_⟩
  rw [h2, List.getElem?_map, idx_get (h3 e he)]
  rfl
theorem norm_nofind {t u : Tre} (h : normT t = some u) {p : Str} (hp : ∀ e ∈ t.es, e.path ≠ p) : findT u.es p = none := by
  obtain ⟨F, h1, _, _⟩ := norm_rel h
  cases hf : findT u.es p with
  | none => rfl
  | some k =>
    obtain ⟨e', he', hpe, _⟩ := findT_mem hf
    obtain ⟨e, he, rfl⟩ := List.mem_map.1 (h1.mem_iff.1 he')
    exact absurd hpe (hp e he)
theorem norm_len {t u : Tre} (h : normT t = some u) : u.es.length = t.es.length := by
  obtain ⟨F, h1, _, _⟩ := norm_rel h
  rw [h1.length_eq, List.length_map]

/-! TreeNorms -/
/-- Turned round: entries and nodes. -/
def turnT (t : Tre) : Tre := ⟨(t.es.map (mvE fun k => (t.ns.length : Int) - 1 - k)).reverse, t.ns.reverse⟩
theorem turn_norm {t : Tre} (h : mayT t = true) : normT (turnT t) = some t := by
  have hg := may_good h
  refine norm_iso (fun k => (t.ns.length : Int) - 1 - k) (fun a b e => by omega) (List.reverse_perm _) (fun e he => ?_) (norm_same h)
  have hi := hg.inr e he
  have hlen : (turnT t).ns.length = t.ns.length := List.length_reverse
  refine ⟨by omega, by rw [hlen]; omega, ?_⟩
  show t.ns.reverse.getD _ _ = _
  have h1 : ((t.ns.length : Int) - 1 - e.node).toNat = t.ns.length - 1 - e.node.toNat := by omega
  rw [h1, List.getD_eq_getElem?_getD, List.getD_eq_getElem?_getD, List.getElem?_reverse (by omega), show t.ns.length - 1 - (t.ns.length - 1 - e.node.toNat) = e.node.toNat from by omega]
theorem same_turn {t : Tre} (h : mayT t = true) : sameT t (turnT t) = true := by
  unfold sameT
  rw [norm_same h, turn_norm h]
  simp

/-! Paths under paths. -/
theorem cutU_app (r : Str) : ∀ a : Str, cutU (a ++ 47 :: r) = cutU a ++ cutU r
  | [] => by rw [List.nil_append]; simp [cutU]
  | c :: a => by
    have ih := cutU_app r a
    rw [List.cons_append, cutU, cutU]
    by_cases hc : c = 47
    · rw [if_pos hc, if_pos hc, ih]; rfl
    · rw [if_neg hc, if_neg hc, ih]
      cases h : cutU a with
      | nil => exact absurd h (cutU_ne a)
      | cons x y => rfl
theorem joinU_app : ∀ (l z : List Str), l ≠ [] → z ≠ [] → joinU (l ++ z) = joinU l ++ 47 :: joinU z
  | [], _, h, _ => absurd rfl h
  | [x], z, _, hz => joinU_cons x hz
  | x :: y :: r, z, _, hz => by
    rw [List.cons_append, List.cons_append, joinU, ← List.cons_append, joinU_app (y :: r) z (by simp) hz, joinU]
    simp
theorem under_iff {s top : Str} (hs : mayP s = true) (ht : mayP top = true) : underP s top = true ↔ partsP top <+: partsP s := by
  unfold underP
  rw [hs, ht]
  simp only [Bool.true_and, Bool.or_eq_true, decide_eq_true_eq]
  constructor
  · rintro ((h | h) | h)
    · rw [h, partsP_nil]; exact List.nil_prefix
    · rw [h]; exact List.prefix_refl _
    · obtain ⟨r, hr⟩ := List.isPrefixOf_iff_prefix.1 h
      by_cases h0 : top = []
      · rw [h0, partsP_nil]; exact List.nil_prefix
      · have e1 : s = top ++ 47 :: r := by rw [← hr]; simp
        have hne : s ≠ [] := by rw [e1]; simp
        rw [partsP_ok hs hne, partsP_ok ht h0, e1, cutU_app]
        exact ⟨_, rfl⟩
  · rintro ⟨z, hz⟩
    by_cases h0 : top = []
    · exact .inl (.inl h0)
    by_cases h1 : z = []
    · subst h1
      rw [List.append_nil] at hz
      exact .inl (.inr (parts_inj hs ht hz.symm))
    · right
      rw [List.isPrefixOf_iff_prefix]
      have hpt : partsP top ≠ [] := by rw [partsP_ok ht h0]; exact cutU_ne _
      have := join_parts hs
      rw [← hz, joinU_app _ _ hpt h1, join_parts ht] at this
      exact ⟨joinU z, by rw [← this]; simp⟩
theorem under_nil {s : Str} (hs : mayP s = true) : underP s [] = true := (under_iff hs rfl).2 (by rw [partsP_nil]; exact List.nil_prefix)
theorem under_self {s : Str} (hs : mayP s = true) : underP s s = true := (under_iff hs hs).2 (List.prefix_refl _)
theorem up_parts {s : Str} (hu : mayP (upP s) = true) (_ : mayP s = true) : partsP (upP s) = (partsP s).dropLast := by
  by_cases h0 : (partsP s).dropLast = []
  · have : upP s = [] := by unfold upP; rw [h0]; rfl
    rw [this, h0, partsP_nil]
  · have hdl : ∀ x ∈ (partsP s).dropLast, x ∈ partsP s := fun x hx => (List.dropLast_sublist _).subset hx
    have hns : ∀ x ∈ (partsP s).dropLast, (47 : UInt8) ∉ x := fun x hx => nameU_ns (parts_name (hdl x hx))
    have hne : upP s ≠ [] := by
      unfold upP
      intro e
      cases hd : (partsP s).dropLast with
      | nil => exact h0 hd
      | cons x r =>
        have hx := nameU_ne (parts_name (s := s) (hdl x (by rw [hd]; simp)) : nameU x = true)
        rw [hd] at e
        cases r with
        | nil => exact hx e
        | cons y r => rw [joinU] at e; simp at e
    rw [partsP_ok hu hne]
    unfold upP
    rw [cut_join _ h0 hns]
theorem prefix_drop {α : Type} {a b : List α} (h : a <+: b) (hne : a ≠ b) : a <+: b.dropLast := by
  obtain ⟨z, rfl⟩ := h
  have hz : z ≠ [] := fun e => hne (by rw [e, List.append_nil])
  rw [List.dropLast_append_of_ne_nil hz]
  exact ⟨_, rfl⟩

/-! TreeParts -/
/-- Is a path wanted? -/
theorem want_up {tops : List Str} {p : Str} (hp : mayP p = true) (hu : mayP (upP p) = true) (ht : ∀ q ∈ tops, mayP q = true) (h0 : p ≠ []) (h : wantP tops p = true) : wantP tops (upP p) = true := by
  unfold wantP at h ⊢
  simp only [Bool.or_eq_true, decide_eq_true_eq, List.any_eq_true] at h ⊢
  rcases h with h | ⟨q, hq, h⟩
  · exact absurd h h0
  · right
    refine ⟨q, hq, ?_⟩
    rw [under_iff hu (ht q hq), under_iff (ht q hq) hu, up_parts hu hp]
    rw [under_iff hp (ht q hq), under_iff (ht q hq) hp] at h
    rcases h with h | h
    · by_cases he : partsP q = partsP p
      · right; rw [he]; exact List.dropLast_prefix _
      · left; exact prefix_drop h he
    · right
      exact (List.dropLast_prefix _).trans h
theorem part_good {t : Tre} {tops : List Str} (h : mayT t = true) (ht : ∀ q ∈ tops, mayP q = true) : GoodT ⟨t.es.filter (fun e => wantP tops e.path), t.ns⟩ := by
  have hg := may_good h
  have hm : ∀ {e : En}, e ∈ t.es.filter (fun e => wantP tops e.path) ↔ e ∈ t.es ∧ wantP tops e.path = true := List.mem_filter
  refine ⟨fun e he => hg.inr e (hm.1 he).1, Nat.le_trans (List.length_filter_le _ _) hg.len, fun e he => hg.path e (hm.1 he).1, ?_, ?_, fun e he hne => ?_, fun e he => hg.node e (hm.1 he).1, fun e he hk e' he' hn => hg.dir e (hm.1 he).1 hk e' (hm.1 he').1 hn⟩
  · exact hg.nd.sublist (List.filter_sublist.map _)
  · obtain ⟨e, he, h1, h2⟩ := hg.root
    exact ⟨e, hm.2 ⟨he, by rw [h1]; rfl⟩, h1, h2⟩
  · obtain ⟨h1, h2⟩ := hm.1 he
    obtain ⟨d, hd, h3, h4⟩ := hg.par e h1 hne
    refine ⟨d, hm.2 ⟨hd, ?_⟩, h3, h4⟩
    rw [h3]
    exact want_up (hg.path e h1) (h3 ▸ hg.path d hd) ht hne h2
def inB (x y p : Str) : Bool := underP p x || underP p y || underP x p || underP y p
theorem want_inB {x y p : Str} (hx : mayP x = true) (hp : mayP p = true) : wantP [x, y] p = inB x y p := by
  unfold wantP inB
  simp only [List.any_cons, List.any_nil, Bool.or_false]
  by_cases h0 : p = []
  · subst h0
    rw [under_nil hx]
    simp
  · rw [decide_eq_false h0]
    cases underP p x <;> cases underP p y <;> cases underP x p <;> cases underP y p <;> rfl
theorem part_law {t : Tre} (h : mayT t = true) {x y : Str} (hx : ∃ e ∈ t.es, e.path = x) (hy : ∃ e ∈ t.es, e.path = y) : ∃ u, partT t [x, y] = (some u, 0) ∧ mayT u = true ∧ u.es.length = t.es.countP (fun e => inB x y e.path) ∧
    ∀ e ∈ t.es, (inB x y e.path = true → ∃ k : Nat, findT u.es e.path = some (k : Int) ∧ u.ns[k]? = some (t.ns.getD e.node.toNat default)) ∧ (inB x y e.path = false → findT u.es e.path = none) := by
  have hg := may_good h
  have hmx : mayP x = true := by obtain ⟨e, he, rfl⟩ := hx; exact hg.path e he
  have hmy : mayP y = true := by obtain ⟨e, he, rfl⟩ := hy; exact hg.path e he
  have hn := good_norm (part_good (tops := [x, y]) h (fun q hq => by
    simp only [List.mem_cons, List.not_mem_nil, or_false] at hq
    rcases hq with rfl | rfl
    · exact hmx
    · exact hmy))
  obtain ⟨u, hu⟩ : ∃ u, normT ⟨t.es.filter (fun e => wantP [x, y] e.path), t.ns⟩ = some u := ⟨_, hn⟩
  have hff : ∀ {q : Str}, (∃ e ∈ t.es, e.path = q) → (findT t.es q).isSome = true := fun hq => by
    obtain ⟨e, he, rfl⟩ := hq
    rw [findT_nodup hg.nd he]; rfl
  refine ⟨u, ?_, norm_may hu, ?_, fun e he => ⟨fun hb => ?_, fun hb => ?_⟩⟩
  · unfold partT
    rw [if_pos h, if_pos (by simp only [List.all_cons, List.all_nil, hff hx, hff hy]; rfl), hu]
  · rw [norm_len hu, ← List.countP_eq_length_filter]
    refine List.countP_congr fun e he => ?_
    rw [want_inB hmx (hg.path e he)]
  · exact norm_find hu (List.mem_filter.2 ⟨he, by rw [want_inB hmx (hg.path e he)]; exact hb⟩)
  · refine norm_nofind hu fun e' he' hp => ?_
    have := (List.mem_filter.1 he').2
    rw [hp, want_inB hmx (hg.path e he), hb] at this
    cases this

/-! TreeClasses -/
theorem class_eq {t : Tre} (h : mayT t = true) {e : En} (he : e ∈ t.es) : classT t e.path = (t.es.filter fun x => decide (x.node = e.node)).map (·.path) := by
  unfold classT
  rw [findT_nodup (may_good h).nd he]
theorem class_law {t : Tre} (h : mayT t = true) {e : En} (he : e ∈ t.es) : e.path ∈ classT t e.path ∧ (∀ q ∈ classT t e.path, findT t.es q = some e.node) ∧ (classT t e.path).Pairwise (fun a b => lessP a b = true) := by
  have hg := may_good h
  rw [class_eq h he]
  refine ⟨List.mem_map.2 ⟨e, List.mem_filter.2 ⟨he, by simp⟩, rfl⟩, fun q hq => ?_, ?_⟩
  · obtain ⟨x, hx, rfl⟩ := List.mem_map.1 hq
    obtain ⟨h1, h2⟩ := List.mem_filter.1 hx
    rw [findT_nodup hg.nd h1, of_decide_eq_true h2]
  · rw [List.pairwise_map]
    exact (mayT_asc h).sublist List.filter_sublist
/-- Is the entry at i the first with its node? -/
theorem first_iff {t : Tre} (h : mayT t = true) {i : Nat} {e : En} (he : t.es[i]? = some e) : (classT t e.path).head? = some e.path ↔ ∀ x ∈ t.es.take i, x.node ≠ e.node := by
  have hg := may_good h
  obtain ⟨hl, hel⟩ := List.getElem?_eq_some_iff.1 he
  have hm : e ∈ t.es := hel ▸ List.getElem_mem hl
  rw [class_eq h hm]
  have hs : t.es = t.es.take i ++ e :: t.es.drop (i + 1) := by rw [← hel, ← List.drop_eq_getElem_cons hl, List.take_append_drop]
  constructor
  · intro hh x hx hn
    have hfx : (t.es.take i).filter (fun x => decide (x.node = e.node)) ≠ [] := fun e0 => by
      have : x ∈ (t.es.take i).filter (fun x => decide (x.node = e.node)) := List.mem_filter.2 ⟨hx, by simp [hn]⟩
      rw [e0] at this; cases this
    rw [hs, List.filter_append, List.map_append] at hh
    obtain ⟨y, r, hyr⟩ := List.exists_cons_of_ne_nil hfx
    rw [hyr, List.map_cons, List.cons_append, List.head?_cons] at hh
    have hy : y ∈ t.es.take i := by
      have : y ∈ (t.es.take i).filter (fun x => decide (x.node = e.node)) := by rw [hyr]; simp
      exact (List.mem_filter.1 this).1
    have hnd := hg.nd
    rw [hs, List.map_append, List.nodup_append] at hnd
    exact hnd.2.2 y.path (List.mem_map_of_mem hy) e.path (by simp) (Option.some.inj hh)
  · intro hh
    have hf0 : (t.es.take i).filter (fun x => decide (x.node = e.node)) = [] := by
      rw [List.filter_eq_nil_iff]
      intro x hx
      simpa using hh x hx
    rw [hs, List.filter_append, hf0, List.nil_append, List.filter_cons_of_pos (by simp)]
    rfl
theorem numOK_app {n : Nat} : ∀ (a b : List En) (u : Nat), numOK n u (a ++ b) = (numOK n u a && numOK n (finU u a) b)
  | [], b, u => by simp [numOK, finU]
  | e :: a, b, u => by
    rw [List.cons_append, numOK, numOK, numOK_app a b, finU]
    simp only [Bool.and_assoc]
/-- How many entries up to i are the first with their nodes. -/
theorem first_count {t : Tre} (h : mayT t = true) {i : Nat} {e : En} (he : t.es[i]? = some e) : finU 0 (t.es.take (i + 1)) = finU 0 (t.es.take i) + if (classT t e.path).head? = some e.path then 1 else 0 := by
  obtain ⟨es, ns⟩ := t
  have hf := first_iff h he
  unfold mayT at h
  simp only [Bool.and_eq_true, decide_eq_true_eq] at h
  obtain ⟨_, g2, g3, _, _⟩ := (ordB_iff ns es none 0 (Nat.zero_le _)).1 h.1.1.2
  obtain ⟨hl, hel⟩ := List.getElem?_eq_some_iff.1 he
  dsimp only at he hl hel hf ⊢
  have hs : es = es.take i ++ e :: es.drop (i + 1) := by rw [← hel, ← List.drop_eq_getElem_cons hl, List.take_append_drop]
  rw [hs, numOK_app, Bool.and_eq_true, numOK] at g2
  simp only [Bool.and_eq_true, decide_eq_true_eq] at g2
  obtain ⟨k1, ⟨⟨⟨k2, k3⟩, k4⟩, _⟩⟩ := g2
  have ht : es.take (i + 1) = es.take i ++ [e] := by rw [List.take_add_one, he]; rfl
  have fin_app : ∀ (a b : List En) (u : Nat), finU u (a ++ b) = finU (finU u a) b := by
    intro a
    induction a with
    | nil => intro b u; rfl
    | cons x a ih => intro b u; rw [List.cons_append, finU, finU, ih]
  rw [ht, fin_app, finU, finU]
  have hc := cnt_pos (es.take i) 0 e.node.toNat k1 (Nat.zero_le _)
  have hc2 : 0 < cntN e.node.toNat (es.take i) ↔ ∃ x ∈ es.take i, x.node = e.node := by
    unfold cntN
    rw [List.countP_pos_iff, Int.toNat_of_nonneg k2]
    simp
  by_cases hlt : e.node < (finU 0 (es.take i) : Nat)
  · have hno : ¬ (classT ⟨es, ns⟩ e.path).head? = some e.path := fun hh => by
      obtain ⟨x, hx, hn⟩ := hc2.1 (hc.2 (by omega))
      exact (hf.1 hh) x hx hn
    rw [if_pos hlt, if_neg hno, Nat.add_zero]
  · rw [if_neg hlt, if_pos (hf.2 fun x hx hn => ?_)]
    have := hc.1 (hc2.2 ⟨x, hx, hn⟩)
    omega
theorem first_all {t : Tre} (h : mayT t = true) : finU 0 t.es = t.ns.length := by
  obtain ⟨es, ns⟩ := t
  unfold mayT at h
  simp only [Bool.and_eq_true, decide_eq_true_eq] at h
  exact ((ordB_iff ns es none 0 (Nat.zero_le _)).1 h.1.1.2).2.2.1

/-! TreeKids -/
theorem par_some {p q : Str} (h : parP p = some q) : partsP p ≠ [] ∧ upP p = q := by
  unfold parP at h
  split at h
  · cases h
  · rename_i hne; exact ⟨hne, Option.some.inj h⟩
theorem join_up {p : Str} (hm : mayP p = true) (hu : mayP (upP p) = true) (h0 : partsP p ≠ []) : joinP (upP p) (lastP p) = some p := by
  obtain ⟨l, x, hl⟩ : ∃ l x, partsP p = l ++ [x] := ⟨_, _, (List.dropLast_concat_getLast h0).symm⟩
  have hx : lastP p = x := by unfold lastP; rw [hl]; simp
  have hn : nameU x = true := parts_name (s := p) (by rw [hl]; simp)
  have hd : (partsP p).dropLast = l := by rw [hl, List.dropLast_concat]
  have hj : joinB (upP p) x = p := by
    have hjp := join_parts hm
    have hup := up_parts hu hm
    rw [hd] at hup
    unfold joinB
    by_cases hl0 : l = []
    · have : upP p = [] := by unfold upP; rw [hd, hl0]; rfl
      rw [if_pos this, ← hjp, hl, hl0]; rfl
    · have : upP p ≠ [] := fun e => hl0 (by rw [← hup, e, partsP_nil])
      have e1 : upP p = joinU l := by unfold upP; rw [hd]
      rw [if_neg this, e1, ← join_snoc _ _ hl0, ← hl, hjp]
  unfold joinP
  rw [hx, hu, hn, hj, Bool.and_self, if_pos rfl, if_pos hm]
theorem kid_mem {t : Tre} {p k : Str} (h : k ∈ kidsT t p) : ∃ e ∈ t.es, parP e.path = some p ∧ lastP e.path = k := by
  unfold kidsT at h
  obtain ⟨e, he, rfl⟩ := List.mem_map.1 h
  obtain ⟨h1, h2⟩ := List.mem_filter.1 he
  exact ⟨e, h1, of_decide_eq_true h2, rfl⟩
theorem less_last {a b p : Str} (ha : mayP a = true) (hb : mayP b = true) (hpm : mayP p = true) (hpa : parP a = some p) (hpb : parP b = some p) (h : lessP a b = true) : Op.bytesLess (lastP a) (lastP b) = true := by
  obtain ⟨a0, a1⟩ := par_some hpa
  obtain ⟨b0, b1⟩ := par_some hpb
  have e1 : partsP a = partsP p ++ [lastP a] := (joinP_op (by have := join_up ha (a1 ▸ hpm) a0; rw [a1] at this; exact this)).2.1
  have e2 : partsP b = partsP p ++ [lastP b] := (joinP_op (by have := join_up hb (b1 ▸ hpm) b0; rw [b1] at this; exact this)).2.1
  unfold lessP at h
  rw [e1, e2] at h
  have key : ∀ l : List Str, lessL (l ++ [lastP a]) (l ++ [lastP b]) = true → Op.bytesLess (lastP a) (lastP b) = true := by
    intro l
    induction l with
    | nil =>
      intro h
      rw [List.nil_append, List.nil_append, lessL] at h
      split at h
      · cases h
      · exact h
    | cons x l ih =>
      intro h
      rw [List.cons_append, List.cons_append, lessL, if_pos rfl] at h
      exact ih h
  exact key _ h
theorem kids_law {t : Tre} (h : mayT t = true) {d : En} (hd : d ∈ t.es) : (∀ k ∈ kidsT t d.path, ∃ e ∈ t.es, joinP d.path k = some e.path ∧ findT t.es e.path = some e.node) ∧ (kidsT t d.path).Pairwise (fun a b => Op.bytesLess a b = true) ∧ (kidsT t d.path ≠ [] → kindAt t.ns d.node = 1) := by
  have hg := may_good h
  have hdm := hg.path d hd
  refine ⟨fun k hk => ?_, ?_, fun hne => ?_⟩
  · obtain ⟨e, he, h1, rfl⟩ := kid_mem hk
    obtain ⟨h2, h3⟩ := par_some h1
    refine ⟨e, he, ?_, findT_nodup hg.nd he⟩
    have := join_up (hg.path e he) (h3 ▸ hdm) h2
    rw [h3] at this
    exact this
  · unfold kidsT
    rw [List.pairwise_map]
    refine ((mayT_asc h).sublist List.filter_sublist).imp_of_mem fun {a b} ha hb hab => ?_
    obtain ⟨a1, a2⟩ := List.mem_filter.1 ha
    obtain ⟨b1, b2⟩ := List.mem_filter.1 hb
    exact less_last (hg.path a a1) (hg.path b b1) hdm (of_decide_eq_true a2) (of_decide_eq_true b2) hab
  · obtain ⟨k, hk⟩ := List.exists_mem_of_ne_nil _ hne
    obtain ⟨e, he, h1, _⟩ := kid_mem hk
    obtain ⟨h2, h3⟩ := par_some h1
    have hne : e.path ≠ [] := fun e0 => by rw [e0, partsP_nil] at h2; exact h2 rfl
    obtain ⟨x, hx, h4, h5⟩ := hg.par e he hne
    have := nodup_path hg.nd hx hd (h4.trans h3)
    rw [← this]
    exact h5
theorem sum_swap {α β : Type} (p : α → β → Bool) (a : List α) (b : List β) : (a.map fun x => b.countP (p x)).sum = (b.map fun y => a.countP fun x => p x y).sum := by
  induction a with
  | nil =>
    induction b with
    | nil => rfl
    | cons y b ih => rw [List.map_cons, List.sum_cons, ← ih]; rfl
  | cons x a ih =>
    rw [List.map_cons, List.sum_cons, ih]
    clear ih
    induction b with
    | nil => rfl
    | cons y b ih =>
      rw [List.countP_cons, List.map_cons, List.sum_cons, List.map_cons, List.sum_cons, List.countP_cons]
      omega
theorem kids_count {t : Tre} (h : mayT t = true) : (t.es.map fun d => (kidsT t d.path).length).sum = t.es.length - 1 := by
  have hg := may_good h
  have e1 : (t.es.map fun d => (kidsT t d.path).length) = t.es.map fun d => t.es.countP fun e => decide (parP e.path = some d.path) := by
    refine List.map_congr_left fun d _ => ?_
    unfold kidsT
    rw [List.length_map, List.countP_eq_length_filter]
  rw [e1, sum_swap (fun d e : En => decide (parP e.path = some d.path)) t.es t.es]
  have hone : ∀ e ∈ t.es, e.path ≠ [] → t.es.countP (fun d => decide (parP e.path = some d.path)) = 1 := fun e he hne => by
    obtain ⟨d, hd, h1, _⟩ := hg.par e he hne
    have hpp : parP e.path = some d.path := by
      unfold parP
      rw [if_neg (fun e0 => by rw [partsP_ok (hg.path e he) hne] at e0; exact cutU_ne _ e0), h1]
    rw [List.countP_eq_length_filter]
    have : t.es.filter (fun d => decide (parP e.path = some d.path)) = [d] := by
      refine one_of ((nodup_of_paths hg.nd).filter _) (List.mem_filter.2 ⟨hd, by simp [hpp]⟩) fun x hx => ?_
      obtain ⟨hx1, hx2⟩ := List.mem_filter.1 hx
      have hx2 := of_decide_eq_true hx2
      rw [hpp] at hx2
      exact nodup_path hg.nd hx1 hd (Option.some.inj hx2).symm
    rw [this]; rfl
  obtain ⟨r, hr, hrp, _⟩ := hg.root
  have hasc := mayT_asc h
  cases hes : t.es with
  | nil => rw [hes] at hr; cases hr
  | cons x l =>
    rw [hes] at hasc hr
    have hx : x = r := root_first hasc hr hrp
    subst hx
    rw [List.map_cons, List.sum_cons, List.length_cons, Nat.add_sub_cancel]
    have h0 : (x :: l).countP (fun d => decide (parP x.path = some d.path)) = 0 := by
      rw [List.countP_eq_zero]
      intro d _
      rw [hrp]
      simp [parP, partsP_nil]
    rw [h0, Nat.zero_add]
    have h1 : ∀ m : List En, (∀ e ∈ m, (x :: l).countP (fun d => decide (parP e.path = some d.path)) = 1) → (m.map fun e => (x :: l).countP (fun d => decide (parP e.path = some d.path))).sum = m.length := by
      intro m
      induction m with
      | nil => intro _; rfl
      | cons y m ih =>
        intro hh
        rw [List.map_cons, List.sum_cons, List.length_cons, ih (fun e he => hh e (by simp [he])), hh y (by simp)]
        omega
    refine h1 l fun e he => ?_
    have hel : e ∈ t.es := by rw [hes]; simp [he]
    have := hone e hel fun e0 => by
      have := (List.pairwise_cons.1 hasc).1 e he
      unfold ltE at this
      rw [e0, less_nil] at this
      cases this
    rw [hes] at this
    exact this

/-! TreeSpoilt -/
theorem bad_none {u : Tre} (h : ¬ GoodT u) : mayT u = false ∧ normT u = none := by
  have hn := norm_none h
  refine ⟨?_, hn⟩
  cases hm : mayT u with
  | false => rfl
  | true => rw [norm_same hm] at hn; cases hn
theorem bad_same {t u : Tre} (h : ¬ GoodT u) : sameT t u = false := by
  unfold sameT
  rw [(bad_none h).2]
  cases normT t <;> rfl
theorem spoil_par {t : Tre} {p : Str} {k : Int} (hm : p ≠ []) (hn : ∀ e ∈ t.es, e.path ≠ upP p) (hpp : upP p ≠ p) : ¬ GoodT ⟨t.es ++ [⟨p, k⟩], t.ns⟩ := fun hg => by
  obtain ⟨d, hd, h1, _⟩ := hg.par ⟨p, k⟩ (by simp) hm
  rcases List.mem_append.1 hd with hd | hd
  · exact hn d hd h1
  · rw [List.mem_singleton.1 hd] at h1
    exact hpp h1.symm
theorem root_zero {t : Tre} (h : mayT t = true) : ⟨[], 0⟩ ∈ t.es ∧ kindAt t.ns 0 = 1 := by
  obtain ⟨es, ns⟩ := t
  unfold mayT at h
  simp only [Bool.and_eq_true, decide_eq_true_eq] at h
  obtain ⟨g1, g2, _, _, _⟩ := (ordB_iff ns es none 0 (Nat.zero_le _)).1 h.1.1.2
  cases es with
  | nil => simp at h
  | cons x r =>
    obtain ⟨p, k⟩ := x
    simp only [pathsOK, Bool.and_eq_true, decide_eq_true_eq] at g1
    simp only [numOK, Bool.and_eq_true, decide_eq_true_eq] at g2
    have hk : k = 0 := by omega
    have hp : p = [] := g1.1.2
    subst hk; subst hp
    exact ⟨by simp, h.1.2⟩
theorem spoil_dir {t : Tre} {p : Str} (h : mayT t = true) (hp : p ≠ []) : ¬ GoodT ⟨t.es ++ [⟨p, 0⟩], t.ns⟩ := fun hg => by
  obtain ⟨h1, h2⟩ := root_zero h
  have := hg.dir ⟨[], 0⟩ (List.mem_append_left _ h1) h2 ⟨p, 0⟩ (by simp) rfl
  exact hp (congrArg En.path this)
theorem spoil_twice {t : Tre} {e : En} (he : e ∈ t.es) : ¬ GoodT ⟨t.es ++ [e], t.ns⟩ := fun hg => by
  have := hg.nd
  rw [List.map_append, List.nodup_append] at this
  exact this.2.2 e.path (List.mem_map_of_mem he) e.path (by simp) rfl
theorem spoil_node {t : Tre} {n : Nd} (h : mayT t = true) : mayT ⟨t.es, t.ns ++ [n]⟩ = false ∧ sameT t ⟨t.es, t.ns ++ [n]⟩ = true := by
  have hg := may_good h
  have hn : normT ⟨t.es, t.ns ++ [n]⟩ = some t := by
    refine norm_iso (t := t) id (fun a b e => e) (by rw [show t.es.map (mvE id) = t.es from List.map_id' t.es]) (fun e he => ?_) (norm_same h)
    have hi := hg.inr e he
    refine ⟨hi.1, by show e.node < ((t.ns ++ [n]).length : Int); rw [List.length_append]; omega, ?_⟩
    show (t.ns ++ [n]).getD e.node.toNat default = _
    rw [List.getD_eq_getElem?_getD, List.getD_eq_getElem?_getD, List.getElem?_append_left (by omega)]
  refine ⟨?_, ?_⟩
  · cases hm : mayT ⟨t.es, t.ns ++ [n]⟩ with
    | false => rfl
    | true =>
      rw [norm_same hm] at hn
      have := congrArg (fun x : Tre => x.ns.length) (Option.some.inj hn)
      simp at this
  · unfold sameT
    rw [norm_same h, hn]
    simp
/-- The names of made paths. -/
theorem mk_names {m : MkS} (hd : m.dirs ≠ []) (h : (∀ e ∈ m.es, ∀ x ∈ partsP e.path, x ∈ mkNames) ∧ ∀ d ∈ m.dirs, ∀ x ∈ partsP d, x ∈ mkNames) (u : Nat) : (∀ e ∈ (mkStep m u).es, ∀ x ∈ partsP e.path, x ∈ mkNames) ∧ (∀ d ∈ (mkStep m u).dirs, ∀ x ∈ partsP d, x ∈ mkNames) ∧ (mkStep m u).dirs ≠ [] := by
  unfold mkStep
  split
  · exact ⟨h.1, h.2, hd⟩
  · rename_i p hj
    obtain ⟨_, j2, _⟩ := joinP_op hj
    have hp : ∀ x ∈ partsP p, x ∈ mkNames := fun x hx => by
      rw [j2] at hx
      rcases List.mem_append.1 hx with hx | hx
      · have hlt : u % m.dirs.length < m.dirs.length := Nat.mod_lt _ (List.length_pos_iff.2 hd)
        rw [List.getD_eq_getElem?_getD, List.getElem?_eq_getElem hlt] at hx
        exact h.2 _ (List.getElem_mem hlt) x hx
      · rw [List.mem_singleton.1 hx]
        have hlt : u / 7 % 7 < mkNames.length := Nat.mod_lt _ (by decide)
        rw [List.getD_eq_getElem?_getD, List.getElem?_eq_getElem hlt]
        exact List.getElem_mem hlt
    have hs : ∀ k : Int, ∀ e ∈ m.es ++ [⟨p, k⟩], ∀ x ∈ partsP e.path, x ∈ mkNames := fun k e he => by
      rcases List.mem_append.1 he with he | he
      · exact h.1 e he
      · rw [List.mem_singleton.1 he]; exact hp
    split
    · exact ⟨h.1, h.2, hd⟩
    split
    · refine ⟨hs _, fun d hdd => ?_, by simp⟩
      rcases List.mem_append.1 hdd with hdd | hdd
      · exact h.2 d hdd
      · rw [List.mem_singleton.1 hdd]; exact hp
    repeat' split
    all_goals exact ⟨hs _, h.2, hd⟩
theorem mkT_names (l : List Nat) : ∀ e ∈ (mkT l).es, ∀ x ∈ partsP e.path, x ∈ mkNames := by
  have key : ∀ (l : List Nat) (m : MkS), m.dirs ≠ [] → ((∀ e ∈ m.es, ∀ x ∈ partsP e.path, x ∈ mkNames) ∧ ∀ d ∈ m.dirs, ∀ x ∈ partsP d, x ∈ mkNames) → ∀ e ∈ (l.foldl mkStep m).es, ∀ x ∈ partsP e.path, x ∈ mkNames := by
    intro l
    induction l with
    | nil => intro m _ h; exact h.1
    | cons u l ih =>
      intro m hd h
      obtain ⟨h1, h2, h3⟩ := mk_names hd h u
      exact ih _ h3 ⟨h1, h2⟩
  obtain ⟨F, h1, _, _⟩ := norm_rel (mkT_norm l)
  intro e he x hx
  obtain ⟨e', he', rfl⟩ := List.mem_map.1 (h1.mem_iff.1 he)
  refine key (l.take 25) mkZero (by decide) ⟨fun e he => ?_, fun d hd => ?_⟩ e' he' x hx
  · rw [show e = ⟨[], 0⟩ from List.mem_singleton.1 he]; intro x hx; cases hx
  · rw [show d = [] from List.mem_singleton.1 hd]; intro x hx; cases hx
/-- There is no "none". -/
theorem mkT_none (l : List Nat) : ∀ e ∈ (mkT l).es, e.path ≠ [110, 111, 110, 101] := fun e he h => by
  have := mkT_names l e he [110, 111, 110, 101] (by rw [h]; decide)
  exact absurd this (by decide)
theorem mkT_len (l : List Nat) : (mkT l).es.length ≤ 26 := by
  rw [norm_len (mkT_norm l)]
  exact (mkAll_ok l).2
end Eng
end Go.Proofs.YtleaanenpimanaaGreatDoor
