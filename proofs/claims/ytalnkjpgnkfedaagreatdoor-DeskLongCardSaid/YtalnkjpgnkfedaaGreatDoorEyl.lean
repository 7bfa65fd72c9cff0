/-
  Regions that make a block, make a text of its bytes, and do other things beside.
-/
import Derived.Test.YtalnkjpgnkfedaaGreatDoorEyk
namespace Go.Proofs.YtalnkjpgnkfedaaGreatDoor
open Go.RowKit
namespace Eng
namespace Rn
theorem bsT_inv {op : Op} {t : TypeId} (h : bsT op = some t) : ∃ n ps, op = .buildSlice t n ps ∧ isMk op = true := by
  unfold bsT at h
  split at h
  · rename_i t' n ps
    split at h
    · rename_i hn
      obtain rfl := Option.some.inj h
      exact ⟨n, ps, rfl, hn⟩
    · cases h
  · cases h
theorem isCv_inv {d : Nat} {t : TypeId} {op : Op} (h : isCv d t op = true) : ∃ u el, op = .convert t u (.tmp d) ∧ isS u = true ∧ isS t = false ∧ elemOf t = some (el, 1) ∧ kindOf el = some .u8 := by
  unfold isCv at h
  split at h
  · rename_i s u x
    rw [Bool.and_eq_true, Bool.and_eq_true, Bool.and_eq_true, Bool.and_eq_true, Bool.not_eq_true'] at h
    obtain ⟨h1, h2, h3, h4, h5⟩ := h
    have h1 := Nat.eq_of_beq_eq_true h1
    have h2 := Nat.eq_of_beq_eq_true h2
    subst h1; subst h2
    split at h5
    · rename_i el hel
      split at h5
      · rename_i hk
        exact ⟨u, el, rfl, h3, h4, hel, hk⟩
      · cases h5
    · cases h5
  · cases h
theorem farG_spec {d2 : Nat} : ∀ {l : List (Oper × Bool)}, farG d2 l = true → ∀ o ∈ l.map Prod.fst, o.dst ≠ some d2
  | [], _, o, ho => by cases ho
  | x :: l, h, o, ho => by
    have h : ((match x.1.dst with
      | some t => !Nat.beq t d2
      | none => true) && farG d2 l) = true := h
    rw [Bool.and_eq_true] at h
    rw [List.map_cons] at ho
    rcases List.mem_cons.1 ho with rfl | ho
    · intro e
      have h1 := h.1
      rw [e] at h1
      simp at h1
    · exact farG_spec h.2 o ho
/-- The order with such a text. -/
def xf2 (hs : List Nat) (H : World → Prop) (full : Array Oper) (K : Env → World → Prop) (f g : Oper) (post : List Oper) : List (Oper × Bool) → Env → World → Prop
  | [], env, w => xs Tryz.prog isI isS hs H full K (f :: g :: post) env w
  | (o, b) :: pre, env, w => (b = true → H w → xs Tryz.prog isI isS hs H full (xf hs H full K g post ((o, b) :: pre)) [f] env w) ∧ xs Tryz.prog isI isS hs H full (xf2 hs H full K f g post pre) [o] env w
theorem freg_run {hs : List Nat} {H : World → Prop} {full : Array Oper} {N : Nat} {A : Array Nat} {K : Env → World → Prop} (hR : RegOK full N A) {f g : Nat} {fo go : Oper} (hof : full[f]? = some fo) (hog : full[g]? = some go) {post : List Nat} {opost : List Oper} (hp : post.map (full[·]?) = opost.map some) : ∀ {pre : List (Nat × Bool)} {opre : List (Oper × Bool)} {l : List Nat} {env : Env} {w : World}, freeG hs full A f g post l pre = true → pre.map Prod.snd = opre.map Prod.snd → (pre.map Prod.fst).map (full[·]?) = (opre.map Prod.fst).map some → xf2 hs H full K fo go opost opre env w → xg Tryz.prog isI isS hs H full N K l env w
  | [], [], l, env, w, h, _, _, hx => xg_k hR (show soloL isI isS hs full A l (f :: g :: post) [] = true from h) (by rw [List.map_cons, List.map_cons, List.map_cons, List.map_cons, hof, hog, hp]) hx
  | [], _ :: _, _, _, _, _, h, _, _ => by cases h
  | _ :: _, [], _, _, _, _, h, _, _ => by cases h
  | (i, b) :: pre, (o, b') :: opre, l, env, w, h, hb, hm, hx => by
    have hb0 := hb
    have hm0 := hm
    rw [List.map_cons, List.map_cons, List.cons.injEq] at hb
    obtain ⟨hb, hbs⟩ := hb
    have hb : b = b' := hb
    subst hb
    rw [List.map_cons, List.map_cons, List.map_cons, List.map_cons, List.cons.injEq] at hm
    obtain ⟨ho, hms⟩ := hm
    have ho : full[i]? = some o := ho
    obtain ⟨hx1, hx2⟩ := hx
    have one : freeG hs full A f g post (l.erase i) pre = true → xs Tryz.prog isI isS hs H full (xg Tryz.prog isI isS hs H full N K (l.erase i)) [o] env w := fun hq => xs_monoH (fun _ _ hk => freg_run hR hof hog hp hq hbs hms hk) hx2
    cases b with
    | false =>
      have h : ((soloB isI isS hs full A l i || l.filter (rdyB full l) == [i]) && freeG hs full A f g post (l.erase i) pre) = true := h
      rw [Bool.and_eq_true, Bool.or_eq_true] at h
      rcases h.1 with h1 | h1
      · exact xg_solo hR h1 ho (one h.2)
      · have h1 : l.filter (rdyB full l) = [i] := by simpa using h1
        refine xg_all hR (List.length_pos_of_mem (List.mem_filter.1 (show i ∈ l.filter (rdyB full l) by rw [h1]; simp)).1) fun i' o' hi' ho' => ?_
        rw [h1, List.mem_singleton] at hi'
        subst hi'
        rw [ho] at ho'; obtain rfl := Option.some.inj ho'
        exact one h.2
    | true =>
      have h : ((l.filter (rdyB full l) == [i, f] || l.filter (rdyB full l) == [f, i]) && (freeB hs full A g post (l.erase f) ((i, true) :: pre) && freeG hs full A f g post (l.erase i) pre)) = true := h
      rw [Bool.and_eq_true, Bool.and_eq_true, Bool.or_eq_true] at h
      obtain ⟨h1, h2, h3⟩ := h
      have hmem : ∀ i', i' ∈ l.filter (rdyB full l) → i' = i ∨ i' = f := fun i' hi' => by
        rcases h1 with h1 | h1
        · have h1 : l.filter (rdyB full l) = [i, f] := by simpa using h1
          rw [h1] at hi'; simpa using hi'
        · have h1 : l.filter (rdyB full l) = [f, i] := by simpa using h1
          rw [h1] at hi'
          have : i' = f ∨ i' = i := by simpa using hi'
          exact this.symm
      have hin : i ∈ l.filter (rdyB full l) := by
        rcases h1 with h1 | h1
        · have h1 : l.filter (rdyB full l) = [i, f] := by simpa using h1
          rw [h1]; simp
        · have h1 : l.filter (rdyB full l) = [f, i] := by simpa using h1
          rw [h1]; simp
      intro hn hc hw a ha
      refine xg_all hR (List.length_pos_of_mem (List.mem_filter.1 hin).1) (fun i' o' hi' ho' => ?_) hn hc hw a ha
      rcases hmem i' hi' with rfl | rfl
      · rw [ho] at ho'; obtain rfl := Option.some.inj ho'
        exact one h3
      · rw [hof] at ho'; obtain rfl := Option.some.inj ho'
        exact xs_monoH (fun _ _ hk => free_run hR hog hp h2 hb0 hm0 hk) (hx1 rfl hw)
/-- What the text is. -/
def GV (t u el : TypeId) (cs : Array Value) (n : Nat) (r : List Nat) : Prop := (∀ c ∈ r, c < 256) ∧ r.length ≤ maxLen ∧ ∀ (b : Nat) (w : World), Bk w b el cs → (convert t u (.slice (some ⟨b, 0, none⟩) n n)).run Tryz.prog w = .ok (.string (su (uOf r))) w
theorem GV.one {t u el : TypeId} {cs : Array Value} {n : Nat} {r r' : List Nat} (h : GV t u el cs n r) (h' : GV t u el cs n r') {b : Nat} {w : World} (hB : Bk w b el cs) : su (uOf r) = su (uOf r') := by
  have h1 := h.2.2 b w hB
  rw [h'.2.2 b w hB] at h1
  injection h1 with h1
  injection h1 with h1
  exact h1.symm
theorem Bk.cellAt {w : World} {b : Nat} {el : TypeId} {cs : Array Value} (h : Bk w b el cs) {j : Nat} {v : Value} (hv : cs[j]? = some v) : w.cell? ⟨b, j, none⟩ = some v := (h.cell j).trans hv
theorem srK_lx {σ : Mem} {z id z' j n q : Nat} {k : Nat → List SV → Rs} : srK σ z (.v (.lx id z' j n q)) k = rdK σ id (Nat.mul j z') (Nat.mul n z) fun l => k n l := rfl
theorem g_inv {m : Nat} {ih : Cl} {res : Rs} (hr : res ≠ .no) {hs0 : List Nat} {full : List Oper} {c : Kr} {e : En} {σ : Mem} {ρ : Pl} {d d2 : Tmp} {t u el : TypeId} {ty : TypeId} {pos : String} {af : Array Edge} {id n : Nat} {ob : Ob} {l : List SV} {vs : List Value} (hS : isS u = true) (hSt : isS t = false) (hel : elemOf t = some (el, 1)) (hk8 : kindOf el = some .u8) (hmem : memb hs0 (some d2) = false)
    (hd : ∀ a, elk m e d = some a → a = .v (.lx id 1 0 n n)) (hob : oget σ id = some ob) (hl : ∀ o, tget ob.d o ob.m = l[o]?) (hv : SRs ρ l vs) (hlen : vs.length = n)
    (h : (orH m hs0 full ⟨some d2, .convert t u (.tmp d), ty, pos, af, none⟩).f ih e σ c = res) : ∃ r e', GV t u el vs.toArray n r ∧ c e' σ = res ∧ e'.hs = e.hs ∧ e'.ms = e.ms ∧ ∀ x a, elk m e' x = some a → (some d2 = some x ∧ a = .v (.s r)) ∨ (some d2 ≠ some x ∧ elk m e x = some a) := by
  have hcl : cls isI isS (.convert t u (.tmp d)) = .r := by simp [cls, isI_str hS, hS]
  have hku : kindOf u = none := by
    cases hk : kindOf u with
    | none => rfl
    | some k =>
      have h1 := isI_str hS
      unfold isI at h1
      rw [hk] at h1
      cases h1
  unfold orH at h
  split at h
  · exact absurd h.symm hr
  · dsimp only at h
    rw [hcl] at h
    dsimp only at h
    rw [hmem] at h
    have h : (cvW m t u (.tmp d)).f ih e σ (fun v σ' => (puW m (some d2)).f e v fun e => c e σ') = res := h
    clear hmem
    have hcv : cvW m t u (.tmp d) = ⟨fun _ e σ c => (gtW m (.tmp d)).f e fun v => srK σ 1 v fun _ l => byK l fun l => okK (Nat.ble l.length maxLen) (c (.v (.s l)) σ)⟩ := by
      unfold cvW
      simp only [hku, hS, hSt, hel, hk8]
    rw [hcv] at h
    obtain ⟨a, h1, h2⟩ := gtT_inv hr (show (gtT m d).f e _ = res from h)
    have ha := hd a h1
    subst ha
    rw [srK_lx] at h2
    obtain ⟨ob', l', g3, g4, g5, g6⟩ := rdK_inv hr h2
    have e1 : Nat.mul 0 1 = 0 := rfl
    have e2 : Nat.mul n 1 = n := Nat.mul_one n
    rw [e1, e2] at g5
    rw [e2] at g4
    have hll : l.length = n := by rw [← hlen, hv.len]
    have hl' : l' = l := by
      apply List.ext_getElem?
      intro i
      by_cases hi : i < n
      · rw [← g5 i hi, Nat.zero_add]
        unfold cget
        rw [hob]
        exact hl i
      · rw [List.getElem?_eq_none (by omega), List.getElem?_eq_none (by omega)]
    subst hl'
    obtain ⟨r, f1, f2, f3, f4⟩ := byK_inv hr g6 hv
    obtain ⟨hb, f5⟩ := okK_inv f4 hr
    obtain ⟨e', k1, k3, k4, k2⟩ := puW_inv f5
    refine ⟨r, e', ⟨f2, Nat.le_of_ble_eq_true hb, fun b w hB => ?_⟩, k1, k3, k4, k2⟩
    obtain ⟨hus, _⟩ := elemOf_inv hel
    have hrl : (uOf r).length = n := by
      have h0 : (uOf r).length = r.length := List.length_map _
      omega
    have := run_convert_bytes_back (P := Tryz.prog) w t u el ⟨b, 0, none⟩ n (uOf r) hus (kind_spec hk8) (str_spec hS) (fun i hi => by
      rw [Addr.add_lit, Nat.zero_add]
      refine hB.cellAt ?_
      rw [f3]
      simp [List.getElem?_eq_getElem hi])
    rw [hrl] at this
    exact this
/-- A slot put that is known no more. -/
theorem ER.delput {m : Nat} {ρ : Pl} {e : En} {env : Env} {d : Nat} {v : Value} (h : ER m ρ e env) : ER m ρ (delE d e) (Eng.put env (some d) v) := fun t a ha => by
  rw [elk_del] at ha
  split at ha
  · cases ha
  · rename_i hne
    obtain ⟨u, h1, h2⟩ := h t a ha
    exact ⟨u, by rw [look_put_ne (fun hh => hne (Option.some.inj hh))]; exact h1, h2⟩
theorem look_put_eq {env : Env} {d : Nat} {v : Value} : look (Eng.put env (some d) v) d = some v := by simp [Eng.put, look_cons]
theorem alloc_inj {w : World} {cs cs' : Array Value} {el el' : TypeId} (h : w.alloc (.cells cs el) = w.alloc (.cells cs' el')) : cs = cs' ∧ el = el' := by
  have h1 : Blk (w.alloc (.cells cs el)) w.heap.size el cs := Blk.new _ _ _
  have h2 : Blk (w.alloc (.cells cs' el')) w.heap.size el' cs' := Blk.new _ _ _
  rw [← h] at h2
  have h3 := Eq.trans h1.symm h2
  injection h3 with h3
  injection h3 with h4 h5
  exact ⟨h4, h5⟩
section
variable {w0 : Fm} {m : Nat} {ih : Cl} {res : Rs} (hr : res ≠ .no) {hs0 : List Nat} {full : List Oper} {d : Tmp} {t : TypeId} {nn : Nat} {ps : Array (Nat × Operand)} {ty : TypeId} {pos : String} {af : Array Edge} (hm : isMk (.buildSlice t nn ps) = true) {el0 : TypeId} (hel : elemOf t = some (el0, 1)) {ρ : Pl} {σ : Mem} {w : World} (hM : MR w0 ρ σ w) {el : TypeId} {cs : Array Value} {n : Nat} (hE1 : Ext w (w.alloc (.cells cs el))) {env0 : Env} (hrun : (execOp (ev env0) ⟨some d, .buildSlice t nn ps, ty, pos, af, none⟩).run Tryz.prog w = .ok (.value (.slice (some ⟨w.heap.size, 0, none⟩) n n)) (w.alloc (.cells cs el)))
include hr hm hel hM hE1 hrun
/-- At its own place the block is there already. -/
theorem lateF {ρ1 : Pl} {σ1 : Mem} {w' : World} {e1 : En} {env' : Env} (c3 : ER m ρ1 e1 env') (c4 : MR (Fm.out hM hE1) ρ1 σ1 w') (hld : look env' d = some (.slice (some ⟨w.heap.size, 0, none⟩) n n)) (hops : ∀ x ∈ (Op.buildSlice t nn ps).operands.toList, evo env0 x = evo env' x) {c : Kr} (c1 : (orH m hs0 full ⟨some d, .buildSlice t nn ps, ty, pos, af, none⟩).f ih e1 σ1 c = res) :
    ∃ l vs e3 σ2 ob, c e3 σ2 = res ∧ ER m (ρ1 ++ [(⟨w.heap.size, n, 1⟩ : At)]) e3 env' ∧ MR w0 (ρ1 ++ [(⟨w.heap.size, n, 1⟩ : At)]) σ2 w' ∧ (∀ a, elk m e3 d = some a → a = .v (.lx σ1.n 1 0 n n)) ∧ oget σ2 σ1.n = some ob ∧ (∀ o, tget ob.d o ob.m = l[o]?) ∧ SRs ρ1 l vs ∧ cs = vs.toArray ∧ vs.length = n ∧ el = el0 ∧ Bk w' w.heap.size el cs := by
  obtain ⟨g1, g2, g3⟩ := hM.back hE1 (by simp) c4
  obtain ⟨el', l', vs', cs', n', z', av', mv', a1, a2, a3, a4, a5, a7, a6⟩ := mk_inv (d := d) (ty := ty) (pos := pos) (af := af) hr hm c3 (mkH_inv hr hm c1)
  obtain ⟨k1, k2, k3, k4, k5⟩ := a7 t nn ps rfl
  rw [hel] at k1
  injection k1 with k1
  injection k1 with k1 k6
  subst k1; subst k6; subst k4; subst k5
  obtain ⟨_, r3⟩ := a6 env0 w hops
  rw [hrun] at r3
  injection r3 with hv hw
  injection hv with hv
  injection hv with _ hn _
  subst hn
  obtain ⟨hcs, hee⟩ := alloc_inj hw
  subst hcs; subst hee
  have hB : Bk w' w.heap.size el cs := g3 _ _ (Blk.bk (Blk.new _ _ _))
  obtain ⟨ob, σ2, q1, q2, q3, q4, q5, q6, q7⟩ := newK_inv hr a1
  have hM2 := g1.more (S := noneB) n 1 a4 q1 q2 (fun o ho => by rw [q4 o]; exact List.getElem?_eq_none (by omega)) (fun o x hx => by
    rw [q4 o] at hx
    obtain ⟨v, h3, h4⟩ := a2.get o x hx
    exact ⟨v, a3 o v h3, h4⟩) q5 q6 hB (Fr.refl _ _) (fun id o p s1 s2 => ⟨g2 id o p s1 s2, fun hh => hh⟩) (fun b hh => hh.elim) (.inl hM.old.size)
  obtain ⟨e2, t1, _, _, t4⟩ := puW_inv q7
  have hlast : (ρ1 ++ [(⟨w.heap.size, n, 1⟩ : At)])[σ1.n]? = some ⟨w.heap.size, n, 1⟩ := by rw [← g1.len]; simp
  refine ⟨l', vs', ⟨e2.vs, e2.ts, e2.hs, σ2 :: e2.ms⟩, σ2, ob, t1, fun x a ha => ?_, hM2, fun a ha => ?_, q5, q4, a2, k2, by rw [k3, Nat.mul_one], rfl, hB⟩
  · rcases t4 x a ha with ⟨hh, rfl⟩ | ⟨hh, ha⟩
    · injection hh with hh
      subst hh
      exact ⟨_, hld, a5 _ _ _ hlast⟩
    · obtain ⟨v, s1, s2⟩ := c3 x a ha
      exact ⟨v, s1, s2.up (Up.snoc _ _)⟩
  · rcases t4 d a ha with ⟨_, rfl⟩ | ⟨hh, _⟩
    · rfl
    · exact absurd rfl hh
variable (hih : ∀ F, CallS F ih) {w00 : Fm} {ρ0 : Pl} {σ0 : Mem} {ws : World} {nh : List Nt} {nm : List Mem} {k : Kr} (hk : ∀ F, Mono F m res nh nm k) (hho : ∀ n ∈ nh, Hold σ0 nm n) (hM0 : MR w00 ρ0 σ0 ws) {post : List Oper} {d2 : Tmp} {u : TypeId} {ty2 : TypeId} {pos2 : String} {af2 : Array Edge} (hS : isS u = true) (hSt : isS t = false) (hk8 : kindOf el0 = some .u8) (hmem : memb hs0 (some d2) = false) {K : Env → World → Prop}
  (hK : ∀ env' w' e1 σ1 ρ', k e1 σ1 = res → Up ρ0 ρ' → ER m ρ' e1 env' → MR w0 ρ' σ1 w' → K env' w')
include hih hk hho hM0 hS hSt hk8 hmem hK
/-- Block and text made ahead. -/
theorem stC {preB : List (Oper × Bool)} (hoff : ∀ o ∈ preB.map Prod.fst, offF d (.buildSlice t nn ps) o = true) (hoff2 : ∀ o ∈ preB.map Prod.fst, o.dst ≠ some d2) {e : En} {σ1 : Mem} {ρ1 : Pl} {env : Env} {w' : World} {r : List Nat} (hu : Up ρ0 ρ1) (hE : ER m ρ1 e env) (c4 : MR (Fm.out hM hE1) ρ1 σ1 w') (hld : look env d = some (.slice (some ⟨w.heap.size, 0, none⟩) n n)) (hld2 : look env d2 = some (.string (su (uOf r)))) (hops : ∀ x ∈ (Op.buildSlice t nn ps).operands.toList, evo env0 x = evo env x) (hG : GV t u el cs n r)
    (h : (regF m hs0 full d d2 preB).f ih e σ1 (fun e σ => (orH m hs0 full ⟨some d, .buildSlice t nn ps, ty, pos, af, none⟩).f ih e σ fun e σ => (orH m hs0 full ⟨some d2, .convert t u (.tmp d), ty2, pos2, af2, none⟩).f ih e σ fun e σ => (regH m hs0 full post).f ih e σ k) = res) :
    xs Tryz.prog isI isS hs0 (HH ρ0 nh) full.toArray K (preB.map Prod.fst ++ post) env w' := by
  refine xs_app2 ?_
  refine xs_monoH (fun env' w'' hh => ?_) (xs_keep (s_regF hr (hih _) (Mono.op hr (hih _) (Mono.op hr (hih _) (Mono.reg hr (hih _) (hk _) post))) hho hM0 hu hE c4 h))
  obtain ⟨⟨e2, σ2, ρ2, b1, b2, b3, b4⟩, b5⟩ := hh
  have hl : ∀ x, (∀ o ∈ preB.map Prod.fst, o.dst ≠ some x) → look env' x = look env x := b5
  have hld' := (hl d fun o ho => (offF_spec (hoff o ho)).1).trans hld
  have hld2' := (hl d2 hoff2).trans hld2
  have hops' : ∀ x ∈ (Op.buildSlice t nn ps).operands.toList, evo env0 x = evo env' x := fun x hx => (hops x hx).trans (by
    cases x with
    | tmp q => exact (hl q fun o ho => (offF_spec (hoff o ho)).2 q hx).symm
    | _ => rfl)
  obtain ⟨l, vs, e3, σ3, ob, c1, c2, c3, c5, c6, c7, c8, c9, c10, c11, c12⟩ := lateF hr hm hel hM hE1 hrun b3 b4 hld' hops' b1
  obtain ⟨r', e4, q1, q2, q3, q4, q5⟩ := g_inv hr hS hSt hel hk8 hmem c5 c6 c7 c8 c10 c1
  subst c11; subst c9
  have hrr := q1.one hG c12
  have hE4 : ER m (ρ2 ++ [(⟨w.heap.size, n, 1⟩ : At)]) e4 env' := fun x a ha => by
    rcases q5 x a ha with ⟨hh, rfl⟩ | ⟨_, ha⟩
    · injection hh with hh
      subst hh
      exact ⟨_, hld2', by rw [← hrr]; exact ⟨rfl, q1.1, q1.2.1⟩⟩
    · exact c2 x a ha
  have hu2 : Up ρ0 (ρ2 ++ [(⟨w.heap.size, n, 1⟩ : At)]) := (hu.trans b2).trans (Up.snoc _ _)
  refine xs_monoH (fun env'' w3 hh => ?_) (s_regK hr (hih _) (hk _) hho hM0 hu2 hE4 c3 q2)
  obtain ⟨e5, σ5, ρ5, v1, v2, v3, v4⟩ := hh
  exact hK _ _ e5 σ5 ρ5 v1 (hu2.trans v2) v3 v4
/-- The block made ahead; the text may come. -/
theorem stB (hself2 : readsT (.buildSlice t nn ps) d2 = false) (hne : d ≠ d2) : ∀ {preB : List (Oper × Bool)} (_ : ∀ o ∈ preB.map Prod.fst, offF d (.buildSlice t nn ps) o = true) (_ : ∀ o ∈ preB.map Prod.fst, o.dst ≠ some d2) {e : En} {σ1 : Mem} {ρ1 : Pl} {env : Env} {w' : World} (_ : Up ρ0 ρ1) (_ : ER m ρ1 e env) (_ : MR (Fm.out hM hE1) ρ1 σ1 w') (_ : look env d = some (.slice (some ⟨w.heap.size, 0, none⟩) n n)) (_ : ∀ x ∈ (Op.buildSlice t nn ps).operands.toList, evo env0 x = evo env x)
    (_ : (regF m hs0 full d d2 preB).f ih e σ1 (fun e σ => (orH m hs0 full ⟨some d, .buildSlice t nn ps, ty, pos, af, none⟩).f ih e σ fun e σ => (orH m hs0 full ⟨some d2, .convert t u (.tmp d), ty2, pos2, af2, none⟩).f ih e σ fun e σ => (regH m hs0 full post).f ih e σ k) = res),
    xf hs0 (HH ρ0 nh) full.toArray K ⟨some d2, .convert t u (.tmp d), ty2, pos2, af2, none⟩ post preB env w'
  | [], hoff, hoff2, e, σ1, ρ1, env, w', hu, hE, c4, hld, hops, h => by
    obtain ⟨l, vs, e3, σ3, ob, c1, c2, c3, _⟩ := lateF hr hm hel hM hE1 hrun hE c4 hld hops (show (orH m hs0 full ⟨some d, .buildSlice t nn ps, ty, pos, af, none⟩).f ih e σ1 (fun e σ => (orH m hs0 full ⟨some d2, .convert t u (.tmp d), ty2, pos2, af2, none⟩).f ih e σ fun e σ => (regH m hs0 full post).f ih e σ k) = res from h)
    have hu2 : Up ρ0 (ρ1 ++ [(⟨w.heap.size, n, 1⟩ : At)]) := hu.trans (Up.snoc _ _)
    refine xs_monoH (fun env'' w3 hh => ?_) (s_regK hr (hih _) (hk _) hho hM0 (l := ⟨some d2, .convert t u (.tmp d), ty2, pos2, af2, none⟩ :: post) hu2 c2 c3 c1)
    obtain ⟨e5, σ5, ρ5, v1, v2, v3, v4⟩ := hh
    exact hK _ _ e5 σ5 ρ5 v1 (hu2.trans v2) v3 v4
  | (o, b) :: preB, hoff, hoff2, e, σ1, ρ1, env, w', hu, hE, c4, hld, hops, h => by
    refine ⟨fun _ _ => ?_, ?_⟩
    · -- the text now
      obtain ⟨envd, wd, ed, σd, ρd, d1, _, d3, d4, d5⟩ := dryF hr (hih _) hE c4 h
      have hops' : ∀ x ∈ (Op.buildSlice t nn ps).operands.toList, evo env0 x = evo envd x := fun x hx => (hops x hx).trans (by
        cases x with
        | tmp q => exact (d5 q fun o ho => (offF_spec (hoff o ho)).2 q hx).symm
        | _ => rfl)
      obtain ⟨l, vs, e3, σ3, ob, a1, _, _, a5, a6, a7, a8, a9, a10, a11, _⟩ := lateF hr hm hel hM hE1 hrun d3 d4 ((d5 d fun o ho => (offF_spec (hoff o ho)).1).trans hld) hops' d1
      obtain ⟨r, _, hG, _⟩ := g_inv hr hS hSt hel hk8 hmem a5 a6 a7 a8 a10 a1
      rw [← a11, ← a9] at hG
      obtain ⟨_, _, g3⟩ := hM.back hE1 (by simp) c4
      have hB : Bk w' w.heap.size el cs := g3 _ _ (Blk.bk (Blk.new _ _ _))
      have hcl : clsO isI isS hs0 ⟨some d2, .convert t u (.tmp d), ty2, pos2, af2, none⟩ = .r := by
        have : cls isI isS (.convert t u (.tmp d)) = .r := by simp [cls, isI_str hS, hS]
        simp [clsO, this, hmem]
      have hev : evo env (.tmp d) = some (.slice (some ⟨w.heap.size, 0, none⟩) n n) := hld
      refine x_gen rfl (by simp [opsOK, Op.operands, hev]) ?_
      rw [hcl]
      refine ⟨.string (su (uOf r)), by simp [execOp, ev_of hev, hG.2.2 _ _ hB], ?_⟩
      have h2 : (regF m hs0 full d d2 ((o, b) :: preB)).f ih (delE d (delE d2 e)) σ1 (fun e σ => (orH m hs0 full ⟨some d, .buildSlice t nn ps, ty, pos, af, none⟩).f ih e σ fun e σ => (orH m hs0 full ⟨some d2, .convert t u (.tmp d), ty2, pos2, af2, none⟩).f ih e σ fun e σ => (regH m hs0 full post).f ih e σ k) = res := by
        show (orH m hs0 full o).f ih (delE d (delE d2 (delE d (delE d2 e)))) σ1 _ = res
        rw [delE_two]; exact h
      refine stC hr hm hel hM hE1 hrun hih hk hho hM0 hS hSt hk8 hmem hK (preB := (o, b) :: preB) hoff hoff2 (e := delE d (delE d2 e)) hu hE.delput.del c4 ?_ look_put_eq (fun x hx => (hops x hx).trans ?_) hG h2
      · exact (look_put_ne (fun hh => hne (Option.some.inj hh).symm)).trans hld
      · cases x with
        | tmp q => exact (look_put_ne (fun hh => readsT_no hself2 (by rw [Option.some.inj hh]; exact hx))).symm
        | _ => rfl
    · refine xs_monoH (fun env' w'' hh => ?_) (xs_keep (s_regK hr (hih _) (Mono.regF hr (hih _) (Mono.op hr (hih _) (Mono.op hr (hih _) (Mono.reg hr (hih _) (hk _) post))) preB) hho hM0 (l := [o]) hu ((hE.del (d := d2)).del (d := d)) c4 h))
      obtain ⟨⟨e2, σ2, ρ2, k1, k2, k3, k4⟩, k5⟩ := hh
      have ho : o ∈ ((o, b) :: preB).map Prod.fst := by rw [List.map_cons]; exact List.mem_cons_self
      have hl : ∀ x, o.dst ≠ some x → look env' x = look env x := fun x hx => k5 x fun o' ho' => by rw [List.mem_singleton] at ho'; subst ho'; exact hx
      exact stB hself2 hne (preB := preB) (fun o' ho' => hoff o' (by rw [List.map_cons]; exact List.mem_cons_of_mem _ ho')) (fun o' ho' => hoff2 o' (by rw [List.map_cons]; exact List.mem_cons_of_mem _ ho')) (hu.trans k2) k3 k4 ((hl d (offF_spec (hoff o ho)).1).trans hld) (fun x hx => (hops x hx).trans (by
        cases x with
        | tmp q => exact (hl q ((offF_spec (hoff o ho)).2 q hx)).symm
        | _ => rfl)) k1
end
/-- The executor's run is all that such an order asks. -/
theorem run_xf2 {w0 w00 : Fm} {m : Nat} {ih : Cl} {res : Rs} {σ0 : Mem} {ρ0 : Pl} {ws : World} {nh : List Nt} {nm : List Mem} {k : Kr} (hr : res ≠ .no) (hih : ∀ F, CallS F ih) (hk : ∀ F, Mono F m res nh nm k) (hho : ∀ n ∈ nh, Hold σ0 nm n) (hM0 : MR w00 ρ0 σ0 ws) {hs0 : List Nat} {full post : List Oper} {d d2 : Tmp} {t u el0 : TypeId} {nn : Nat} {ps : Array (Nat × Operand)} {ty ty2 : TypeId} {pos pos2 : String} {af af2 : Array Edge} (hm : isMk (.buildSlice t nn ps) = true) (hel : elemOf t = some (el0, 1)) (hS : isS u = true) (hSt : isS t = false) (hk8 : kindOf el0 = some .u8) (hmem : memb hs0 (some d2) = false) (hself : readsT (.buildSlice t nn ps) d = false) (hself2 : readsT (.buildSlice t nn ps) d2 = false) (hne : d ≠ d2) {K : Env → World → Prop}
    (hK : ∀ env' w' e1 σ1 ρ', k e1 σ1 = res → Up ρ0 ρ' → ER m ρ' e1 env' → MR w0 ρ' σ1 w' → K env' w') : ∀ {preB : List (Oper × Bool)} {e : En} {σ : Mem} {ρ : Pl} {env : Env} {w : World}, farF d (.buildSlice t nn ps) preB = true → (∀ o ∈ preB.map Prod.fst, o.dst ≠ some d2) → Up ρ0 ρ → ER m ρ e env → MR w0 ρ σ w →
    (regF m hs0 full d d2 preB).f ih e σ (fun e σ => (orH m hs0 full ⟨some d, .buildSlice t nn ps, ty, pos, af, none⟩).f ih e σ fun e σ => (orH m hs0 full ⟨some d2, .convert t u (.tmp d), ty2, pos2, af2, none⟩).f ih e σ fun e σ => (regH m hs0 full post).f ih e σ k) = res → xf2 hs0 (HH ρ0 nh) full.toArray K ⟨some d, .buildSlice t nn ps, ty, pos, af, none⟩ ⟨some d2, .convert t u (.tmp d), ty2, pos2, af2, none⟩ post preB env w
  | [], e, σ, ρ, env, w, hf, hf2, hu, hE, hM, h => by
    refine xs_monoH (fun env' w' hh => ?_) (s_regK hr (hih w0) (hk w0) hho hM0 (l := ⟨some d, .buildSlice t nn ps, ty, pos, af, none⟩ :: ⟨some d2, .convert t u (.tmp d), ty2, pos2, af2, none⟩ :: post) hu hE hM h)
    obtain ⟨e1, σ1, ρ1, k1, k2, k3, k4⟩ := hh
    exact hK _ _ e1 σ1 ρ1 k1 (hu.trans k2) k3 k4
  | (o, b) :: preB, e, σ, ρ, env, w, hf, hf2, hu, hE, hM, h => by
    have hfar : farF d (.buildSlice t nn ps) preB = true := by
      cases b with
      | true =>
        have hf : (offF d (.buildSlice t nn ps) o && preB.all (fun x => offF d (.buildSlice t nn ps) x.1) && farF d (.buildSlice t nn ps) preB) = true := hf
        rw [Bool.and_eq_true] at hf
        exact hf.2
      | false => exact hf
    refine ⟨fun hb hH => ?_, ?_⟩
    · subst hb
      have hf : (offF d (.buildSlice t nn ps) o && preB.all (fun x => offF d (.buildSlice t nn ps) x.1) && farF d (.buildSlice t nn ps) preB) = true := hf
      rw [Bool.and_eq_true, Bool.and_eq_true] at hf
      have hoff : ∀ o' ∈ ((o, true) :: preB).map Prod.fst, offF d (.buildSlice t nn ps) o' = true := fun o' ho' => by
        rw [List.map_cons] at ho'
        rcases List.mem_cons.1 ho' with rfl | ho'
        · exact hf.1.1
        · obtain ⟨x, hx, rfl⟩ := List.mem_map.1 ho'
          exact List.all_eq_true.1 hf.1.2 x hx
      have h2 : (regF m hs0 full d d2 ((o, true) :: preB)).f ih (delE d (delE d2 e)) σ (fun e σ => (orH m hs0 full ⟨some d, .buildSlice t nn ps, ty, pos, af, none⟩).f ih e σ fun e σ => (orH m hs0 full ⟨some d2, .convert t u (.tmp d), ty2, pos2, af2, none⟩).f ih e σ fun e σ => (regH m hs0 full post).f ih e σ k) = res := by
        show (orH m hs0 full o).f ih (delE d (delE d2 (delE d (delE d2 e)))) σ _ = res
        rw [delE_two]; exact h
      -- what is made
      obtain ⟨envd, wd, ed, σd, ρd, d1, _, d3, _, d5⟩ := dryF hr (hih w0) hE.del.del hM h2
      obtain ⟨el, l, vs, cs, n, z, av, mv, _, _, _, _, _, b7, b6⟩ := mk_inv (d := d) (ty := ty) (pos := pos) (af := af) hr hm d3 (mkH_inv hr hm d1)
      obtain ⟨_, _, _, _, k5⟩ := b7 t nn ps rfl
      subst k5
      obtain ⟨r1, r2⟩ := b6 env w (fun x hxm => by
        cases x with
        | tmp q => exact (d5 q fun o' ho' => (offF_spec (hoff o' ho')).2 q hxm).symm
        | _ => rfl)
      have hE1 : Ext w (w.alloc (.cells cs el)) := Fr.alloc _ _ _
      refine xw r1 rfl r2 ?_ (HH.ext hH hE1)
      exact stB hr hm hel hM hE1 r2 hih hk hho hM0 hS hSt hk8 hmem hK hself2 hne (preB := (o, true) :: preB) hoff hf2 hu ((hE.del (d := d2)).delput (d := d)) (hM.keep hE1) look_put_eq (fun x hx => by
        cases x with
        | tmp q => exact (look_put_ne (fun hh => readsT_no hself (by rw [Option.some.inj hh]; exact hx))).symm
        | _ => rfl) h2
    · refine xs_monoH (fun env' w' hh => ?_) (s_regK hr (hih w0) (Mono.regF hr (hih w0) (Mono.op hr (hih w0) (Mono.op hr (hih w0) (Mono.reg hr (hih w0) (hk w0) post))) preB) hho hM0 (l := [o]) hu ((hE.del (d := d2)).del (d := d)) hM h)
      obtain ⟨e1, σ1, ρ1, k1, k2, k3, k4⟩ := hh
      exact run_xf2 hr hih hk hho hM0 hm hel hS hSt hk8 hmem hself hself2 hne hK hfar (fun o' ho' => hf2 o' (by rw [List.map_cons]; exact List.mem_cons_of_mem _ ho')) (hu.trans k2) k3 k4 k1
end Rn
end Eng
end Go.Proofs.YtalnkjpgnkfedaaGreatDoor
