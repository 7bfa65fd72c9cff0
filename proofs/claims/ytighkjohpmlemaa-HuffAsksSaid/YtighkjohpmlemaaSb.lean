/-
  The library's stable sort of ints: the call of the comparison, sorting by insertion.
-/
import Derived.Test.YtighkjohpmlemaaSa
namespace Go.Proofs.Ytighkjohpmlemaa
open Go.RowKit
namespace Eng

variable {hs : List Nat} {H : World → Prop} {full : Array Oper} {K : Env → World → Prop} {rest : List Oper} {env : Env} {w : World} {d : Tmp} {dst : Option Tmp} {ty : TypeId} {pos : String} {af : Array Edge}

/-- A call of a function's value. -/
theorem xcallv {f : FuncId} {t : Tmp} {cap : Array Value} {args : List Operand} {ats : Array TypeId} {vs : List Value} {S : Value → World → Prop} (hx : evo env (.tmp t) = some (.func (.func f) #[] cap)) (ha : evs env args = some vs) (hf : bit m_cal f = true) (hd : Does Try.prog f (vs.toArray ++ cap) w S)
    (h : ∀ v w', S v w' → xs Try.prog isI isS hs H full K rest (put env dst v) w') (hH : ∀ v w', S v w' → H w' := by intros; trivial) : xs Try.prog isI isS hs H full K (⟨dst, .call { callee := .value (.tmp t), args := args.toArray, argTypes := ats }, ty, pos, af, none⟩ :: rest) env w := by
  obtain ⟨h1, h2⟩ := evs_spec ha
  obtain ⟨fn, hfn, hb, hn⟩ := cal_spec hf
  refine x_gen rfl (by simpa [opsOK, Op.operands, Call.operands, hx] using h2) ?_
  show out Try.prog ((execOp (ev env) ⟨dst, .call { callee := .value (.tmp t), args := args.toArray, argTypes := ats }, ty, pos, af, none⟩).run Try.prog w) _
  have e : (execOp (ev env) ⟨dst, .call { callee := .value (.tmp t), args := args.toArray, argTypes := ats }, ty, pos, af, none⟩).run Try.prog w = .ok (.enter f (vs.toArray ++ cap)) w := by
    have hb' : ¬ fn.body = none := by intro e; rw [e] at hb; cases hb
    have hn' : ¬ fn.name = "runtime.NumGoroutine" := by simpa using hn
    have e1 : ev env (.tmp t) = .func (.func f) #[] cap := ev_of hx
    simp [execOp, resolve, e1, Deferred.ofValue, invoke, callFunc, h1, hfn, hn', hb']
  rw [e]
  exact Calls.mono hd fun e w' ⟨v, he, k⟩ => ⟨v, he, hH v w' k, h v w' k⟩

/-- The comparison compares by c, at values of D, while no more than block g is written. -/
def CmpOK (g : Nat) (w : World) (f : FuncId) (cap : Array Value) (D : Int → Prop) (c : Int → Int) : Prop :=
  bit m_cal f = true ∧ ∀ w', Fr (· = g) w w' → ∀ x y, D x → D y → Does Try.prog f (#[.int .i64 x, .int .i64 y] ++ cap) w' fun r w'' => Ext w' w'' ∧ ∃ z, r = .int .i64 z ∧ (z < 0 ↔ c x < c y)
theorem CmpOK.fr {g : Nat} {w w' : World} {f : FuncId} {cap : Array Value} {D : Int → Prop} {c : Int → Int} (h : CmpOK g w f cap D c) (hf : Fr (· = g) w w') : CmpOK g w' f cap D c := ⟨h.1, fun w2 h2 => h.2 w2 (hf.t h2)⟩

theorem xcmp {f : FuncId} {t : Tmp} {g : Nat} {cap : Array Value} {D : Int → Prop} {c : Int → Int} {a b : Operand} {ats : Array TypeId} {x y : Int} (hC : CmpOK g w f cap D c) (hx : evo env (.tmp t) = some (.func (.func f) #[] cap)) (ha : evs env [a, b] = some [.int .i64 x, .int .i64 y]) (hDx : D x) (hDy : D y)
    (h : ∀ z w', Ext w w' → (z < 0 ↔ c x < c y) → xs Try.prog isI isS hs noH full K rest (put env dst (.int .i64 z)) w') : xs Try.prog isI isS hs noH full K (⟨dst, .call { callee := .value (.tmp t), args := #[a, b], argTypes := ats }, ty, pos, af, none⟩ :: rest) env w :=
  xcallv (S := fun r w'' => Ext w w'' ∧ ∃ z, r = .int .i64 z ∧ (z < 0 ↔ c x < c y)) hx ha hC.1 (hC.2 w (Fr.refl _ _) x y hDx hDy) (by rintro v w' ⟨hE, z, rfl, hz⟩; exact h z w' hE hz)

/-- By c, and where c is equal by the number. -/
def lt (c : Int → Int) (x y : Int) : Prop := c x < c y ∨ c x = c y ∧ x < y
def stb (c : Int → Int) (x y : Int) : Prop := c x = c y → x < y
theorem lt_stb {c : Int → Int} {x y : Int} (h : lt c x y) : stb c x y := fun e => by unfold lt at h; omega
theorem lt_trans {c : Int → Int} {x y z : Int} (h : lt c x y) (h' : lt c y z) : lt c x z := by unfold lt at *; omega

theorem sorted_last {c : Int → Int} {P : List Int} {y x : Int} (hs : (P ++ [y]).Pairwise (lt c)) (h : lt c y x) : ∀ p ∈ P ++ [y], lt c p x := by
  intro p hp
  rw [List.pairwise_append] at hs
  rcases List.mem_append.1 hp with hp | hp
  · exact lt_trans (hs.2.2 p hp y (by simp)) h
  · rw [List.mem_singleton.1 hp]; exact h

structure InsO (c : Int → Int) (A S C : List Int) (g : Nat) (w0 : World) (x : List Int × List Int) (w : World) : Prop where
  db : DB w g (A ++ x.1 ++ x.2 ++ C)
  perm : (x.1 ++ x.2).Perm S
  srt : x.1.Pairwise (lt c)
  st : ∀ y ∈ x.1, ∀ z ∈ x.2, stb c y z
  st2 : x.2.Pairwise (stb c)
  fr : Fr (· = g) w0 w

theorem InsO.dr {c : Int → Int} {A S C : List Int} {g : Nat} {w0 : World} {x : List Int × List Int} {w : World} (h : InsO c A S C g w0 x w) : InsO c A S C g w0 x w.drew := ⟨h.db, h.perm, h.srt, h.st, h.st2, h.fr.d⟩
theorem InsO.ex {c : Int → Int} {A S C : List Int} {g : Nat} {w0 : World} {x : List Int × List Int} {w w' : World} (h : InsO c A S C g w0 x w) (he : Ext w w') : InsO c A S C g w0 x w' := ⟨h.db.ext he, h.perm, h.srt, h.st, h.st2, h.fr.te he⟩

structure InsI (c : Int → Int) (A S1 : List Int) (v : Int) (C : List Int) (g : Nat) (w0 : World) (x : List Int × List Int) (w : World) : Prop where
  db : DB w g (A ++ x.1 ++ v :: x.2 ++ C)
  eq : x.1 ++ x.2 = S1
  gt : ∀ q ∈ x.2, c v < c q
  fr : Fr (· = g) w0 w

set_option maxRecDepth 20000 in
set_option maxHeartbeats 2000000 in
theorem insertion_does (w : World) (g n cp : Nat) (f : FuncId) (cap : Array Value) (D : Int → Prop) (c : Int → Int) (A S C : List Int) (hB : DB w g (A ++ S ++ C)) (hn : n = A.length + S.length + C.length) (hl : n ≤ 100000) (hC : CmpOK g w f cap D c) (hD : ∀ x ∈ S, D x) (hS : S.Pairwise (stb c)) (a b : Int) (ha : a = A.length) (hb : b = A.length + S.length) :
    Does Try.prog 93 #[.slice (some ⟨g, 0, none⟩) n cp, .int .i64 a, .int .i64 b, .func (.func f) #[] cap] w fun _ w' => ∃ S', S'.Perm S ∧ S'.Pairwise (lt c) ∧ DB w' g (A ++ S' ++ C) ∧ Fr (· = g) w w' := by
  subst ha; subst hb
  refine does4 Try.func93 rfl (by kernel_rfl) ?_
  repeat' (first | refine xp rfl ?_ | refine xnil ?_ | refine xai rfl rfl rfl (by omega) (by omega) ?_ | refine xdi rfl rfl rfl (by omega) (by omega) (by omega) ?_ | refine xau rfl rfl rfl (by omega) (by omega) ?_ | refine xct rfl rfl rfl (by omega) ?_ | refine xcf rfl rfl rfl (by omega) ?_ | refine xgy rfl ?_ | refine xgn rfl ?_ | refine tseq ?_ | refine tct rfl ?_ | refine tcf rfl ?_ | refine tskip ?_ | refine treg (by kernel_rfl) ?_ | refine tdraw (by kernel_rfl) (by decide +kernel) ?_ | refine tblock ?_ | refine tblk ?_ | refine texit rfl ?_ | refine xixn rfl rfl rfl (by omega) ?_ | refine xld rfl rfl (by assumption) ?_)
  rcases S with _ | ⟨s0, S⟩
  · refine tloop (α := Unit) (fun _ => [(2, .int .i64 ((A.length : Int) + ([] : List Int).length)), (8, .int .i64 ((A.length : Int) + 1))]) (fun _ w' => w = w') (fun _ => 0) () (sub ⟨rfl, rfl⟩) rfl ?_
    rintro _ w1 rfl
    simp only [List.length_nil]
    repeat' (first | refine xp rfl ?_ | refine xnil ?_ | refine xai rfl rfl rfl (by omega) (by omega) ?_ | refine xdi rfl rfl rfl (by omega) (by omega) (by omega) ?_ | refine xau rfl rfl rfl (by omega) (by omega) ?_ | refine xct rfl rfl rfl (by omega) ?_ | refine xcf rfl rfl rfl (by omega) ?_ | refine xgy rfl ?_ | refine xgn rfl ?_ | refine tseq ?_ | refine tct rfl ?_ | refine tcf rfl ?_ | refine tskip ?_ | refine treg (by kernel_rfl) ?_ | refine tdraw (by kernel_rfl) (by decide +kernel) ?_ | refine tblock ?_ | refine tblk ?_ | refine texit rfl ?_ | refine xixn rfl rfl rfl (by omega) ?_ | refine xld rfl rfl (by assumption) ?_)
    exact tend0 rfl ⟨[], List.Perm.refl _, List.Pairwise.nil, hB, Fr.refl _ _⟩
  rw [List.pairwise_cons] at hS
  refine tloop (α := List Int × List Int) (fun x => [(0, .slice (some ⟨g, 0, none⟩) n cp), (1, .int .i64 (A.length : Int)), (2, .int .i64 ((A.length : Int) + (s0 :: S).length)), (3, .func (.func f) #[] cap), (8, .int .i64 ((A.length : Int) + x.1.length))]) (InsO c A (s0 :: S) C g w) (fun x => x.2.length) ([s0], S) (sub ⟨rfl, rfl, rfl, rfl, ieq (by dsimp only; simp)⟩) ⟨by simpa using hB, by simp, by simp, fun y hy z hz => by rw [List.mem_singleton.1 hy]; exact hS.1 z hz, hS.2, Fr.refl _ _⟩ ?_
  rintro ⟨S1, S2⟩ w1 ⟨hdb, hperm, hsrt, hst, hst2, hfr⟩
  dsimp only at *
  have hlen := hperm.length_eq
  simp only [List.length_append] at hlen
  rcases S2 with _ | ⟨v, S2⟩
  · simp only [List.length_nil] at hlen
    repeat' (first | refine xp rfl ?_ | refine xnil ?_ | refine xai rfl rfl rfl (by omega) (by omega) ?_ | refine xdi rfl rfl rfl (by omega) (by omega) (by omega) ?_ | refine xau rfl rfl rfl (by omega) (by omega) ?_ | refine xct rfl rfl rfl (by omega) ?_ | refine xcf rfl rfl rfl (by omega) ?_ | refine xgy rfl ?_ | refine xgn rfl ?_ | refine tseq ?_ | refine tct rfl ?_ | refine tcf rfl ?_ | refine tskip ?_ | refine treg (by kernel_rfl) ?_ | refine tdraw (by kernel_rfl) (by decide +kernel) ?_ | refine tblock ?_ | refine tblk ?_ | refine texit rfl ?_ | refine xixn rfl rfl rfl (by omega) ?_ | refine xld rfl rfl (by assumption) ?_)
    refine tend0 rfl ⟨S1, by simpa using hperm, hsrt, by simpa using hdb, hfr⟩
  · simp only [List.length_cons] at hlen hn
    simp only [List.length_cons]
    have hDv : D v := hD v (hperm.subset (by simp))
    have hDS : ∀ y ∈ S1, D y := fun y hy => hD y (hperm.subset (by simp [hy]))
    repeat' (first | refine xp rfl ?_ | refine xnil ?_ | refine xai rfl rfl rfl (by omega) (by omega) ?_ | refine xdi rfl rfl rfl (by omega) (by omega) (by omega) ?_ | refine xau rfl rfl rfl (by omega) (by omega) ?_ | refine xct rfl rfl rfl (by omega) ?_ | refine xcf rfl rfl rfl (by omega) ?_ | refine xgy rfl ?_ | refine xgn rfl ?_ | refine tseq ?_ | refine tct rfl ?_ | refine tcf rfl ?_ | refine tskip ?_ | refine treg (by kernel_rfl) ?_ | refine tdraw (by kernel_rfl) (by decide +kernel) ?_ | refine tblock ?_ | refine tblk ?_ | refine texit rfl ?_ | refine xixn rfl rfl rfl (by omega) ?_ | refine xld rfl rfl (by assumption) ?_)
    refine tloop (α := List Int × List Int) (fun x => [(0, .slice (some ⟨g, 0, none⟩) n cp), (1, .int .i64 (A.length : Int)), (2, .int .i64 ((A.length : Int) + ((S.length : Int) + 1))), (3, .func (.func f) #[] cap), (8, .int .i64 ((A.length : Int) + S1.length)), (9, .int .i64 ((A.length : Int) + x.1.length))]) (InsI c A S1 v (S2 ++ C) g w1) (fun x => x.1.length) (S1, []) (sub ⟨rfl, rfl, ieq (by omega), rfl, rfl, rfl⟩) ⟨by simpa using hdb, by simp, by simp, Fr.refl _ _⟩ ?_
    rintro ⟨P, Q⟩ w2 ⟨hdb2, heq, hgt, hfr2⟩
    dsimp only at *
    have hlenPQ := congrArg List.length heq
    simp only [List.length_append] at hlenPQ
    have done : (∀ p ∈ P, lt c p v) → InsO c A (s0 :: S) C g w (P ++ v :: Q, S2) w2 := fun hp => by
      subst heq
      rw [List.pairwise_append] at hsrt
      rw [List.pairwise_cons] at hst2
      refine ⟨by simpa using hdb2, ?_, ?_, ?_, hst2.2, hfr.t hfr2⟩
      · refine List.Perm.trans ?_ hperm
        dsimp only
        simp only [List.append_assoc, List.cons_append]
        refine List.Perm.append_left P ?_
        exact (List.perm_middle (a := v) (l₁ := Q) (l₂ := S2)).symm
      · dsimp only
        rw [List.pairwise_append, List.pairwise_cons]
        refine ⟨hsrt.1, ⟨fun q hq => .inl (hgt q hq), hsrt.2.1⟩, fun p hp' q hq => ?_⟩
        rcases List.mem_cons.1 hq with rfl | hq
        · exact hp p hp'
        · exact hsrt.2.2 p hp' q hq
      · dsimp only
        intro y hy z hz
        rcases List.mem_append.1 hy with hy | hy
        · exact hst y (by simp [hy]) z (by simp [hz])
        · rcases List.mem_cons.1 hy with rfl | hy
          · exact hst2.1 z hz
          · exact hst y (by simp [hy]) z (by simp [hz])
    rcases List.eq_nil_or_concat P with rfl | ⟨P, y, rfl⟩
    · simp only [List.length_nil] at *
      repeat' (first | refine xp rfl ?_ | refine xnil ?_ | refine xai rfl rfl rfl (by omega) (by omega) ?_ | refine xdi rfl rfl rfl (by omega) (by omega) (by omega) ?_ | refine xau rfl rfl rfl (by omega) (by omega) ?_ | refine xct rfl rfl rfl (by omega) ?_ | refine xcf rfl rfl rfl (by omega) ?_ | refine xgy rfl ?_ | refine xgn rfl ?_ | refine tseq ?_ | refine tct rfl ?_ | refine tcf rfl ?_ | refine tskip ?_ | refine treg (by kernel_rfl) ?_ | refine tdraw (by kernel_rfl) (by decide +kernel) ?_ | refine tblock ?_ | refine tblk ?_ | refine texit rfl ?_ | refine xixn rfl rfl rfl (by omega) ?_ | refine xld rfl rfl (by assumption) ?_)
      exact tfin ⟨([] ++ v :: Q, S2), sub ⟨rfl, rfl, ieq (by omega), rfl, ieq (by dsimp only; simp; omega)⟩, (done (by simp)).dr, by dsimp only; omega⟩
    · rw [List.concat_eq_append] at *
      simp only [List.length_append, List.length_cons, List.length_nil] at *
      have hdb3 : DB w2 g ((A ++ P) ++ y :: ([] ++ v :: (Q ++ (S2 ++ C)))) := by simpa using hdb2
      have hl3 : ((A ++ P) ++ y :: ([] ++ v :: (Q ++ (S2 ++ C)))).length = n := by simp; omega
      have gv : ((A ++ P) ++ y :: ([] ++ v :: (Q ++ (S2 ++ C)))).getD (A.length + P.length + 1) 0 = v := by
        have := get_mid (A ++ P ++ [y]) v (Q ++ (S2 ++ C)) (A.length + P.length + 1) (by simp; omega)
        simpa using this
      have gy : ((A ++ P) ++ y :: ([] ++ v :: (Q ++ (S2 ++ C)))).getD (A.length + P.length) 0 = y := get_mid (A ++ P) y _ _ (by simp)
      have hDy : D y := hDS y (by rw [← heq]; simp)
      repeat' (first | refine xp rfl ?_ | refine xnil ?_ | refine xisq (A.length + P.length + 1) (A.length + P.length + 1) rfl rfl rfl (by omega) (by omega) (by omega) ?_ | refine xisq (A.length + P.length) (A.length + P.length) rfl rfl rfl (by omega) (by omega) (by omega) ?_ | refine xldd hdb3 rfl rfl (by omega) ?_ | refine xai rfl rfl rfl (by omega) (by omega) ?_ | refine xdi rfl rfl rfl (by omega) (by omega) (by omega) ?_ | refine xau rfl rfl rfl (by omega) (by omega) ?_ | refine xct rfl rfl rfl (by omega) ?_ | refine xcf rfl rfl rfl (by omega) ?_ | refine xgy rfl ?_ | refine xgn rfl ?_ | refine tseq ?_ | refine tct rfl ?_ | refine tcf rfl ?_ | refine tskip ?_ | refine treg (by kernel_rfl) ?_ | refine tdraw (by kernel_rfl) (by decide +kernel) ?_ | refine tblock ?_ | refine tblk ?_ | refine texit rfl ?_ | refine xixn rfl rfl rfl (by omega) ?_ | refine xld rfl rfl (by assumption) ?_)
      rw [gv, gy]
      refine xcmp ((hC.fr (hfr.t hfr2)).fr (Fr.drew _ _)) rfl rfl hDv hDy (fun z w5 hx5 hz => ?_)
      have hdb5 := hdb3.dr.ext hx5
      by_cases hlt : c v < c y
      · have hz' := hz.2 hlt
        repeat' (first | refine xp rfl ?_ | refine xnil ?_ | refine xisq (A.length + P.length + 1) (A.length + P.length + 1) rfl rfl rfl (by omega) (by omega) (by omega) ?_ | refine xisq (A.length + P.length) (A.length + P.length) rfl rfl rfl (by omega) (by omega) (by omega) ?_ | refine xldd hdb5 rfl rfl (by omega) ?_ | refine xai rfl rfl rfl (by omega) (by omega) ?_ | refine xdi rfl rfl rfl (by omega) (by omega) (by omega) ?_ | refine xau rfl rfl rfl (by omega) (by omega) ?_ | refine xct rfl rfl rfl (by omega) ?_ | refine xcf rfl rfl rfl (by omega) ?_ | refine xgy rfl ?_ | refine xgn rfl ?_ | refine tseq ?_ | refine tct rfl ?_ | refine tcf rfl ?_ | refine tskip ?_ | refine treg (by kernel_rfl) ?_ | refine tdraw (by kernel_rfl) (by decide +kernel) ?_ | refine tblock ?_ | refine tblk ?_ | refine texit rfl ?_ | refine xixn rfl rfl rfl (by omega) ?_ | refine xld rfl rfl (by assumption) ?_)
        refine xstd hdb5.dr rfl rfl rfl (by omega) (fun w3 hB3 hF3 => ?_)
        repeat' (first | refine xp rfl ?_ | refine xnil ?_ | refine xisq (A.length + P.length) (A.length + P.length) rfl rfl rfl (by omega) (by omega) (by omega) ?_ | refine xai rfl rfl rfl (by omega) (by omega) ?_ | refine xdi rfl rfl rfl (by omega) (by omega) (by omega) ?_ | refine xau rfl rfl rfl (by omega) (by omega) ?_ | refine xct rfl rfl rfl (by omega) ?_ | refine xcf rfl rfl rfl (by omega) ?_ | refine xgy rfl ?_ | refine xgn rfl ?_ | refine tseq ?_ | refine tct rfl ?_ | refine tcf rfl ?_ | refine tskip ?_ | refine treg (by kernel_rfl) ?_ | refine tdraw (by kernel_rfl) (by decide +kernel) ?_ | refine tblock ?_ | refine tblk ?_ | refine texit rfl ?_ | refine xixn rfl rfl rfl (by omega) ?_ | refine xld rfl rfl (by assumption) ?_)
        refine xstd hB3 rfl rfl rfl (by rw [List.length_set]; omega) (fun w4 hB4 hF4 => ?_)
        repeat' (first | refine xp rfl ?_ | refine xnil ?_ | refine xai rfl rfl rfl (by omega) (by omega) ?_ | refine xdi rfl rfl rfl (by omega) (by omega) (by omega) ?_ | refine xau rfl rfl rfl (by omega) (by omega) ?_ | refine xct rfl rfl rfl (by omega) ?_ | refine xcf rfl rfl rfl (by omega) ?_ | refine xgy rfl ?_ | refine xgn rfl ?_ | refine tseq ?_ | refine tct rfl ?_ | refine tcf rfl ?_ | refine tskip ?_ | refine treg (by kernel_rfl) ?_ | refine tdraw (by kernel_rfl) (by decide +kernel) ?_ | refine tblock ?_ | refine tblk ?_ | refine texit rfl ?_ | refine xixn rfl rfl rfl (by omega) ?_ | refine xld rfl rfl (by assumption) ?_)
        have e := swp_mid' (A ++ P) y [] v (Q ++ (S2 ++ C)) (A.length + P.length) (A.length + P.length + 1) (by simp) (by simp)
        refine tfin ⟨(P, y :: Q), sub ⟨rfl, rfl, rfl, rfl, rfl, ieq (by dsimp only; omega)⟩, ⟨?_, by rw [← heq]; simp, fun q hq => ?_, (((hfr2.d.te hx5).d.t hF3).t hF4)⟩, by dsimp only; omega⟩
        · unfold swp at e
          rw [gv] at *
          rw [e] at hB4
          simpa using hB4
        · rcases List.mem_cons.1 hq with rfl | hq
          · exact hlt
          · exact hgt q hq
      · have hz' : ¬ z < 0 := fun h => hlt (hz.1 h)
        repeat' (first | refine xp rfl ?_ | refine xnil ?_ | refine xai rfl rfl rfl (by omega) (by omega) ?_ | refine xdi rfl rfl rfl (by omega) (by omega) (by omega) ?_ | refine xau rfl rfl rfl (by omega) (by omega) ?_ | refine xct rfl rfl rfl (by omega) ?_ | refine xcf rfl rfl rfl (by omega) ?_ | refine xgy rfl ?_ | refine xgn rfl ?_ | refine tseq ?_ | refine tct rfl ?_ | refine tcf rfl ?_ | refine tskip ?_ | refine treg (by kernel_rfl) ?_ | refine tdraw (by kernel_rfl) (by decide +kernel) ?_ | refine tblock ?_ | refine tblk ?_ | refine texit rfl ?_ | refine xixn rfl rfl rfl (by omega) ?_ | refine xld rfl rfl (by assumption) ?_)
        refine tfin ⟨((P ++ [y]) ++ v :: Q, S2), sub ⟨rfl, rfl, ieq (by omega), rfl, ieq (by dsimp only; simp; omega)⟩, (done ?_).dr.ex hx5, by dsimp only; omega⟩
        have hyv : lt c y v := by
          have := hst y (by rw [← heq]; simp) v (by simp)
          by_cases he : c y = c v
          · exact .inr ⟨he, this he⟩
          · exact .inl (by omega)
        rw [← heq, List.pairwise_append] at hsrt
        exact sorted_last hsrt.1 hyv
end Eng
end Go.Proofs.Ytighkjohpmlemaa
