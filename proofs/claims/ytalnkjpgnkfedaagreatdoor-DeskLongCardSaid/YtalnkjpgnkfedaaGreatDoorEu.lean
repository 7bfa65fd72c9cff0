/-
  Steps of the memory: a block more, cells anew, a block that is gone.
-/
import Derived.Test.YtalnkjpgnkfedaaGreatDoorEt
namespace Go.Proofs.YtalnkjpgnkfedaaGreatDoor
open Go.RowKit
namespace Eng
namespace Rn
theorem cget_iff {σ : Mem} {id o : Nat} {x : SV} : cget σ id o = some x ↔ ∃ ob, oget σ id = some ob ∧ tget ob.d o ob.m = some x := by
  unfold cget
  constructor
  · intro h
    split at h
    · rename_i ob hob; exact ⟨ob, hob, h⟩
    · cases h
  · rintro ⟨ob, h1, h2⟩
    rw [h1]; exact h2
theorem MR.at_ {ρ : Pl} {σ : Mem} {w0 : Fm} {w : World} (h : MR w0 ρ σ w) {id o : Nat} {x : SV} (hx : cget σ id o = some x) : ∃ p ob cs v, ρ[id]? = some p ∧ oget σ id = some ob ∧ Bk w p.b ob.e cs ∧ p.c * p.z ≤ cs.size ∧ cs[o]? = some v ∧ CR ρ x v := by
  obtain ⟨ob, h1, h2⟩ := cget_iff.1 hx
  obtain ⟨p, cs, h3, h4, h6, h5⟩ := h.blk id ob h1 ⟨o, by rw [h2]; rfl⟩
  obtain ⟨v, h7, h8⟩ := h5 o x h2
  exact ⟨p, ob, cs, v, h3, h1, h4, h6, h7, h8⟩
/-- What a place in the memory says. -/
theorem MR.cell {ρ : Pl} {σ : Mem} {w0 : Fm} {w : World} (h : MR w0 ρ σ w) {id o : Nat} {x : SV} (hx : cget σ id o = some x) {p : At} (hp : ρ[id]? = some p) : ∃ v, w.cell? ⟨p.b, o, none⟩ = some v ∧ CR ρ x v ∧ w.frozen? ⟨p.b, o, none⟩ = false := by
  obtain ⟨q, ob, cs, v, h1, _, h2, _, h3, h4⟩ := h.at_ hx
  rw [hp] at h1; injection h1 with h1; subst h1
  exact ⟨v, by rw [h2.cell, h3], h4, h2.frozen (Array.getElem?_eq_some_iff.1 h3).1⟩
theorem MR.ext {ρ : Pl} {σ : Mem} {w0 : Fm} {w w' : World} (h : MR w0 ρ σ w) (hE : Ext w w') : MR w0 ρ σ w' where
  len := h.len
  blk := fun id ob h1 h2 => by
    obtain ⟨p, cs, h3, h4, h5⟩ := h.blk id ob h1 h2
    exact ⟨p, cs, h3, h4.ext hE, h5⟩
  old := h.old.te hE
  far := h.far
  pre := h.pre
  apart := h.apart
  mps := h.mps.to (Up.refl ρ) (fun _ _ hb => hb.ext hE) fun _ _ _ hb => hb
/-- Blocks that are as they were. -/
theorem MR.as {w0 : Fm} {ρ : Pl} {σ : Mem} {w w' : World} {b : Nat} (h : MR w0 ρ σ w) (hF : Fr (fun k => k = b) w w') (h0 : w0.may b) (hb : ∀ g t cs, Bk w g t cs → Bk w' g t cs) (hm : ∀ g l, MpB w g l → MpB w' g l) : MR w0 ρ σ w' where
  len := h.len
  blk := fun id ob h1 h2 => by
    obtain ⟨p, cs, h3, h4, h5⟩ := h.blk id ob h1 h2
    exact ⟨p, cs, h3, hb _ _ _ h4, h5⟩
  old := h.old.trans hF fun j hj hh => by
    have hh : j = b := hh
    subst hh
    exact h0.resolve_left (by omega)
  far := h.far
  pre := h.pre
  apart := h.apart
  mps := h.mps.to (Up.refl ρ) hm fun _ _ _ hb => hb
theorem MR.below {ρ : Pl} {σ : Mem} {w0 : Fm} {w : World} (h : MR w0 ρ σ w) (id o : Nat) (p : At) (hs : (cget σ id o).isSome = true) (hp : ρ[id]? = some p) : p.b < w.heap.size := by
  obtain ⟨x, hx⟩ := Option.isSome_iff_exists.1 hs
  obtain ⟨q, _, _, _, h1, _, h2, _⟩ := h.at_ hx
  rw [hp] at h1; injection h1 with h1; subst h1
  exact h2.lt
/-- A block more, or one that is told anew: no cell of it is told otherwise. -/
theorem MR.more {ρ : Pl} {σ σ' : Mem} {w0 : Fm} {w w' : World} {S : Nat → Prop} {e : TypeId} {cs : Array Value} {ob : Ob} {g : Nat} (h : MR w0 ρ σ w) (c z : Nat) (hcz : c * z ≤ cs.size) (hn : σ'.n = σ.n + 1 ∧ σ'.mp = σ.mp) (he : ob.e = e) (hpre : ∀ o, ob.n ≤ o → tget ob.d o ob.m = none) (ht : ∀ o x, tget ob.d o ob.m = some x → ∃ v, cs[o]? = some v ∧ CR ρ x v) (hob : oget σ' σ.n = some ob) (hk : ∀ k, k ≠ σ.n → oget σ' k = oget σ k)
    (hB : Bk w' g e cs) (hF : Fr S w w') (hg : ∀ id o p, (cget σ id o).isSome = true → ρ[id]? = some p → p.b ≠ g ∧ ¬ S p.b) (hS0 : ∀ b, S b → w0.may b) (hg0 : w0.may g) (hSm : ∀ b l, MpB w b l → ¬ S b := by intro b l _ hh; exact hh) : MR w0 (ρ ++ [⟨g, c, z⟩]) σ' w' := by
  have hu := Up.snoc ρ ⟨g, c, z⟩
  have hlast : (ρ ++ [(⟨g, c, z⟩ : At)])[σ.n]? = some ⟨g, c, z⟩ := by rw [← h.len]; simp
  have hold : ∀ id o p, id ≠ σ.n → (cget σ' id o).isSome = true → (ρ ++ [(⟨g, c, z⟩ : At)])[id]? = some p → (cget σ id o).isSome = true ∧ ρ[id]? = some p ∧ p.b ≠ g := fun id o p hne hs hp => by
    have e1 : cget σ' id o = cget σ id o := by unfold cget; rw [hk id hne]
    rw [e1] at hs
    obtain ⟨x, hx⟩ := Option.isSome_iff_exists.1 hs
    obtain ⟨q, ob', cs, v, h1, _⟩ := h.at_ hx
    have := hu _ _ h1
    rw [hp] at this
    injection this with this; subst this
    exact ⟨hs, h1, (hg id o p hs h1).1⟩
  refine ⟨by simp [h.len, hn.1], fun id ob' h1 h2 => ?_, h.old.trans hF fun j hj hh => (hS0 j hh).resolve_left (by omega), fun id o p hs hp => ?_, fun id ob' h1 => ?_, fun id id' o o' p p' hne hs hs' hp hp' => ?_, by rw [hn.2]; exact h.mps.to hu (fun b l hb => hb.fr hF (hSm b l hb)) fun _ _ _ hb => hb⟩
  · by_cases hid : id = σ.n
    · subst hid
      rw [hob] at h1; injection h1 with h1; subst h1
      refine ⟨_, _, hlast, by rw [he]; exact hB, hcz, fun o x hx => ?_⟩
      obtain ⟨v, h3, h4⟩ := ht o x hx
      exact ⟨v, h3, h4.up hu⟩
    · rw [hk id hid] at h1
      obtain ⟨p, cs, h3, h4, h6, h5⟩ := h.blk id ob' h1 h2
      obtain ⟨o, ho⟩ := h2
      refine ⟨p, cs, hu _ _ h3, h4.fr hF (hg id o p (by unfold cget; rw [h1]; exact ho) h3).2, h6, fun o x hx => ?_⟩
      obtain ⟨v, h7, h8⟩ := h5 o x hx
      exact ⟨v, h7, h8.up hu⟩
  · by_cases hid : id = σ.n
    · subst hid
      rw [hlast] at hp; injection hp with hp; subst hp
      exact hg0
    · obtain ⟨a1, a2, _⟩ := hold id o p hid hs hp
      exact h.far id o p a1 a2
  · by_cases hid : id = σ.n
    · subst hid
      rw [hob] at h1; injection h1 with h1; subst h1
      exact hpre
    · rw [hk id hid] at h1
      exact h.pre id ob' h1
  · by_cases h1 : id = σ.n
    · subst h1
      obtain ⟨_, _, h4⟩ := hold id' o' p' (fun e => hne e.symm) hs' hp'
      rw [hlast] at hp; injection hp with hp; subst hp
      exact fun e => h4 e.symm
    · by_cases h2 : id' = σ.n
      · subst h2
        obtain ⟨_, _, h4⟩ := hold id o p h1 hs hp
        rw [hlast] at hp'; injection hp' with hp'; subst hp'
        exact h4
      · obtain ⟨a1, a2, _⟩ := hold id o p h1 hs hp
        obtain ⟨b1, b2, _⟩ := hold id' o' p' h2 hs' hp'
        exact h.apart id id' o o' p p' hne a1 b1 a2 b2
/-- A new block. -/
theorem MR.new {ρ : Pl} {σ σ' : Mem} {w0 : Fm} {w w' : World} {e : TypeId} {l : List SV} {vs : List Value} {cs : Array Value} {ob : Ob} (h : MR w0 ρ σ w) (c z : Nat) (hcz : c * z ≤ cs.size) (hn : σ'.n = σ.n + 1 ∧ σ'.mp = σ.mp) (he : ob.e = e) (hq : ob.n = l.length) (ht : ∀ o, tget ob.d o ob.m = l[o]?) (hob : oget σ' σ.n = some ob) (hk : ∀ k, k ≠ σ.n → oget σ' k = oget σ k)
    (hB : Bk w' w.heap.size e cs) (hcs : ∀ (o : Nat) v, vs[o]? = some v → cs[o]? = some v) (hE : Ext w w') (hl : SRs ρ l vs) : MR w0 (ρ ++ [⟨w.heap.size, c, z⟩]) σ' w' :=
  h.more c z hcz hn he (fun o ho => by rw [ht o]; exact List.getElem?_eq_none (by omega)) (fun o x hx => by
    rw [ht o] at hx
    obtain ⟨v, h3, h4⟩ := hl.get o x hx
    exact ⟨v, hcs o v h3, h4⟩) hob hk hB hE (fun id o p hs hp => ⟨Nat.ne_of_lt (h.below id o p hs hp), fun hh => hh⟩) (fun b hh => hh.elim) (.inl h.old.size)
theorem PutL.mem {d o : Nat} {l : List SV} {m m' : Tr SV} (h : PutL d o l m m') (hs : ∀ i, i < l.length → (tget d (o + i) m).isSome = true) (k : Nat) (hk : (tget d k m').isSome = true) : (tget d k m).isSome = true := by
  rw [h k] at hk
  split at hk
  · rename_i hh
    have := hs (k - o) (by omega)
    rwa [show o + (k - o) = k by omega] at this
  · exact hk
/-- Cells anew. -/
theorem MR.wr {ρ : Pl} {σ σ' : Mem} {w0 : Fm} {w w' : World} {id o : Nat} {l : List SV} {vs : List Value} {ob : Ob} {m' : Tr SV} {p : At} {cs cs' : Array Value} (h : MR w0 ρ σ w) (hob : oget σ id = some ob) (hp : PutL ob.d o l ob.m m') (hs : ∀ i, i < l.length → (tget ob.d (o + i) ob.m).isSome = true) (hn : σ'.n = σ.n ∧ σ'.mp = σ.mp) (hob' : oget σ' id = some ⟨ob.e, ob.d, ob.n, m'⟩) (hk : ∀ k, k ≠ id → oget σ' k = oget σ k)
    (hat : ρ[id]? = some p) (hB : Bk w p.b ob.e cs) (hB' : Bk w' p.b ob.e cs') (hsz : cs'.size = cs.size) (hc : ∀ k, cs'[k]? = if o ≤ k ∧ k < o + l.length then vs[k - o]? else cs[k]?) (hF : Fr (fun b => b = p.b) w w') (hl : SRs ρ l vs) (hne : 0 < l.length) : MR w0 ρ σ' w' := by
  have h0 : (cget σ id o).isSome = true := by
    have := hs 0 hne
    unfold cget
    rw [hob]
    simpa using this
  have back : ∀ i k, (cget σ' i k).isSome = true → (cget σ i k).isSome = true := fun i k hh => by
    by_cases hi : i = id
    · subst hi
      unfold cget at hh ⊢
      rw [hob'] at hh
      rw [hob]
      exact hp.mem hs k hh
    · unfold cget at hh ⊢
      rw [hk i hi] at hh
      exact hh
  refine ⟨h.len.trans hn.1.symm, fun i ob' h1 h2 => ?_, h.old.trans hF fun j hj hh => (by
    have hh : j = p.b := hh
    subst hh
    exact (h.far id o p h0 hat).resolve_left (by omega)), fun i k q hs hq => h.far i k q (back i k hs) hq, fun i ob' h1 k hk0 => ?_, fun i i' k k' q q' hne' a1 a2 a3 a4 => h.apart i i' k k' q q' hne' (back i k a1) (back i' k' a2) a3 a4, by rw [hn.2]; exact h.mps.to (Up.refl ρ) (fun b l hb => hb.fr hF fun e => hB.no_map (e ▸ hb)) fun _ _ _ hb => hb⟩
  case refine_2 =>
    by_cases hi : i = id
    · subst hi
      rw [hob'] at h1; injection h1 with h1; subst h1
      show tget ob.d k m' = none
      cases hh : tget ob.d k m' with
      | none => rfl
      | some x =>
        have := hp.mem hs k (by rw [hh]; rfl)
        rw [h.pre i ob hob k hk0] at this
        cases this
    · rw [hk i hi] at h1
      exact h.pre i ob' h1 k hk0
  by_cases hi : i = id
  · subst hi
    rw [hob'] at h1; injection h1 with h1; subst h1
    obtain ⟨k0, hk0⟩ := h2
    have hk0' := hp.mem hs k0 hk0
    obtain ⟨p2, cs2, b1, b2, b4, b3⟩ := h.blk i ob hob ⟨k0, hk0'⟩
    rw [hat] at b1; injection b1 with b1; subst b1
    have e := b2.one hB
    subst e
    refine ⟨p, cs', hat, hB', by rw [hsz]; exact b4, fun k x hx => ?_⟩
    have hx' := hp k
    rw [show tget ob.d k m' = some x from hx] at hx'
    rw [hc k]
    split at hx'
    · rename_i hh
      rw [if_pos hh]
      exact hl.get _ _ hx'.symm
    · rename_i hh
      rw [if_neg hh]
      exact b3 k x hx'.symm
  · rw [hk i hi] at h1
    obtain ⟨q, cs2, b1, b2, b3⟩ := h.blk i ob' h1 h2
    obtain ⟨k, hk2⟩ := h2
    have hne2 : q.b ≠ p.b := h.apart i id k o q p hi (by unfold cget; rw [h1]; exact hk2) h0 b1 hat
    exact ⟨q, cs2, b1, b2.fr hF hne2, b3⟩
/-- A block is told no more. -/
theorem MR.kill {ρ : Pl} {σ σ' : Mem} {w0 : Fm} {w : World} {id o : Nat} {p : At} (h : MR w0 ρ σ w) (hn : σ'.n = σ.n ∧ σ'.mp = σ.mp) (hob' : oget σ' id = some ⟨0, 0, 0, .nil⟩) (hk : ∀ k, k ≠ id → oget σ' k = oget σ k) (hat : ρ[id]? = some p) (h0 : (cget σ id o).isSome = true) : MR w0 ρ σ' w ∧ ∀ i k q, (cget σ' i k).isSome = true → ρ[i]? = some q → q.b ≠ p.b := by
  have back : ∀ i k, (cget σ' i k).isSome = true → i ≠ id ∧ (cget σ i k).isSome = true := fun i k hh => by
    by_cases hi : i = id
    · subst hi
      unfold cget at hh
      rw [hob'] at hh
      have hh' : (tget 0 k (Tr.nil : Tr SV)).isSome = true := hh
      rw [tget_nil] at hh'
      cases hh'
    · unfold cget at hh ⊢
      rw [hk i hi] at hh
      exact ⟨hi, hh⟩
  refine ⟨⟨h.len.trans hn.1.symm, fun i ob' h1 h2 => ?_, h.old, fun i k q hs hq => h.far i k q (back i k hs).2 hq, fun i ob' h1 k hk0 => ?_, fun i i' k k' q q' hne' a1 a2 a3 a4 => h.apart i i' k k' q q' hne' (back i k a1).2 (back i' k' a2).2 a3 a4, by rw [hn.2]; exact h.mps⟩, fun i k q hs hq => ?_⟩
  · obtain ⟨k, hk2⟩ := h2
    obtain ⟨hi, _⟩ := back i k (by unfold cget; rw [h1]; exact hk2)
    rw [hk i hi] at h1
    exact h.blk i ob' h1 ⟨k, hk2⟩
  · by_cases hi : i = id
    · subst hi
      rw [hob'] at h1; injection h1 with h1; subst h1
      exact tget_nil _ _
    · rw [hk i hi] at h1
      exact h.pre i ob' h1 k hk0
  · obtain ⟨hi, hs⟩ := back i k hs
    exact h.apart i id k o q p hi hs h0 hq hat
end Rn
end Eng
end Go.Proofs.YtalnkjpgnkfedaaGreatDoor
