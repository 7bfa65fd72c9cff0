/-
  Oracles: count and Codes of package huff; the counts of the lengths lie in one number, 16 bits each.
-/
import Derived.Test.YtalnkjpgnkfedaaGreatDoorEo
namespace Go.Proofs.YtalnkjpgnkfedaaGreatDoor
open Go.RowKit
namespace Eng
namespace Rn
noncomputable def dg (T j : Nat) : Nat := Nat.mod (Nat.shiftRight T (Nat.mul 16 j)) 65536
noncomputable def bitN (x : Nat) : Nat := Nat.shiftLeft 1 (Nat.mul 16 x)
noncomputable def pkN (l : List Nat) : Nat := List.rec (motive := fun _ => Nat) 0 (fun x _ ih => Nat.add ih (bitN x)) l
def ofD : List Nat → Nat
  | [] => 0
  | d :: r => d + 65536 * ofD r
theorem bitN_eq (x : Nat) : bitN x = 65536 ^ x := by
  show 1 <<< (16 * x) = _
  rw [Nat.shiftLeft_eq, Nat.one_mul, Nat.pow_mul]
theorem dg_eq (T j : Nat) : dg T j = T / 65536 ^ j % 65536 := by
  show (T >>> (16 * j)) % 65536 = _
  rw [Nat.shiftRight_eq_div_pow, Nat.pow_mul]
theorem dg_of : ∀ {ds : List Nat} {j : Nat}, (∀ d ∈ ds, d < 65536) → dg (ofD ds) j = ds[j]?.getD 0
  | [], j, _ => by rw [dg_eq]; simp [ofD]
  | d :: r, 0, h => by
    have hd := h d (by simp)
    rw [dg_eq]
    show (d + 65536 * ofD r) / 65536 ^ 0 % 65536 = d
    rw [Nat.pow_zero, Nat.div_one]
    omega
  | d :: r, j + 1, h => by
    have hd := h d (by simp)
    have ih := dg_of (ds := r) (j := j) (fun x hx => h x (List.mem_cons_of_mem _ hx))
    rw [dg_eq] at ih ⊢
    rw [List.getElem?_cons_succ, ← ih]
    show (d + 65536 * ofD r) / 65536 ^ (j + 1) % 65536 = _
    have e3 : (d + 65536 * ofD r) / 65536 = ofD r := by omega
    have e4 : (65536 : Nat) ^ (j + 1) = 65536 * 65536 ^ j := by rw [Nat.pow_succ, Nat.mul_comm]
    rw [e4, ← Nat.div_div_eq_div_mul, e3]
theorem ofD_modify : ∀ {ds : List Nat} {j : Nat}, j < ds.length → ofD (ds.modify j (· + 1)) = ofD ds + 65536 ^ j
  | [], j, h => by cases h
  | d :: r, 0, _ => by
    show d + 1 + 65536 * ofD r = d + 65536 * ofD r + 1
    omega
  | d :: r, j + 1, h => by
    have ih := ofD_modify (ds := r) (j := j) (Nat.lt_of_succ_lt_succ h)
    show d + 65536 * ofD (r.modify j (· + 1)) = d + 65536 * ofD r + 65536 ^ (j + 1)
    rw [ih, Nat.pow_succ]; omega
/-- The first codes and the counts so far. -/
def cnL (F : Nat → Nat) (l : List Nat) : List Nat := (List.range 13).map fun j => F j + l.count j
theorem cnL_snoc (F : Nat → Nat) (l : List Nat) {x : Nat} (hx : x ≤ 12) : ofD (cnL F (l ++ [x])) = ofD (cnL F l) + bitN x := by
  rw [bitN_eq, ← ofD_modify (by simp [cnL]; omega)]
  congr 1
  apply List.ext_getElem?
  intro i
  rw [List.getElem?_modify]
  unfold cnL
  rw [List.getElem?_map, List.getElem?_map]
  by_cases hi : i < 13
  · rw [List.getElem?_range hi]
    simp only [Option.map_some, List.count_append, List.count_singleton]
    by_cases hxi : x = i
    · subst hxi; simp; omega
    · have : (x == i) = false := by simpa using hxi
      rw [this]
      show _ = some (if x = i then _ else _)
      rw [if_neg hxi]; simp
  · rw [List.getElem?_eq_none (by simpa using hi)]
    simp
theorem count_rev (l : List Nat) (j : Nat) : l.reverse.count j = l.count j := by simp
theorem pkN_eq : ∀ {l : List Nat}, (∀ x ∈ l, x ≤ 12) → pkN l = ofD (cnL (fun _ => 0) l)
  | [], _ => by
    show (0 : Nat) = _
    decide
  | x :: l, h => by
    have ih := pkN_eq (l := l) fun y hy => h y (List.mem_cons_of_mem _ hy)
    show pkN l + bitN x = _
    rw [ih, ← cnL_snoc _ _ (h x (by simp))]
    congr 1
    unfold cnL
    refine List.map_congr_left fun j _ => ?_
    rw [List.count_append, List.count_singleton, List.count_cons]
theorem cnL_get {F : Nat → Nat} {l : List Nat} {j : Nat} (hj : j ≤ 12) (hF : ∀ i, i ≤ 12 → F i + l.count i < 65536) : dg (ofD (cnL F l)) j = F j + l.count j := by
  rw [dg_of fun d hd => ?_]
  · unfold cnL
    rw [List.getElem?_map, List.getElem?_range (by omega)]; rfl
  · unfold cnL at hd
    obtain ⟨i, hi, rfl⟩ := List.mem_map.1 hd
    rw [List.mem_range] at hi
    exact hF i (by omega)
noncomputable def mN (T j : Nat) : Nat := Nat.rec (motive := fun _ => Nat) 0 (fun _ _ => dg T j) j
noncomputable def fsK (T n j f : Nat) (k : List Nat → Rs) : Rs := Nat.rec (motive := fun _ => Nat → Nat → (List Nat → Rs) → Rs) (fun _ _ k => k []) (fun _ ih j f k => fN (Nat.mul (Nat.add f (mN T j)) 2) fun f' => fN (Nat.add j 1) fun j' => ih j' f' fun r => k (f :: r)) n j f k
noncomputable def msK (T n j : Nat) (k : List Nat → Rs) : Rs := Nat.rec (motive := fun _ => Nat → (List Nat → Rs) → Rs) (fun _ k => k []) (fun _ ih j k => fN (mN T j) fun x => fN (Nat.add j 1) fun j' => ih j' fun r => k (x :: r)) n j k
/-- Words, none of them too big. -/
noncomputable def uK (l : List Nat) (k : List SV → Rs) : Rs := List.rec (motive := fun _ => (List SV → Rs) → Rs) (fun k => k []) (fun x _ ih k => okK (Nat.ble x 60000) (ih fun r => k (.n .u64 x :: r))) l k
theorem uK_inv {res : Rs} (hr : res ≠ .no) : ∀ {l : List Nat} {k : List SV → Rs}, uK l k = res → (∀ x ∈ l, x ≤ 60000) ∧ k (l.map fun x => .n .u64 x) = res
  | [], k, h => ⟨fun x hx => (by cases hx), h⟩
  | x :: l, k, h => by
    obtain ⟨h1, h2⟩ := okK_inv (show okK (Nat.ble x 60000) (uK l fun r => k (.n .u64 x :: r)) = res from h) hr
    obtain ⟨h3, h4⟩ := uK_inv hr h2
    refine ⟨fun y hy => ?_, h4⟩
    rcases List.mem_cons.1 hy with rfl | hy
    · exact Nat.le_of_ble_eq_true h1
    · exact h3 y hy
theorem u_rel (ρ : Pl) : ∀ {l : List Nat}, (∀ x ∈ l, x ≤ 60000) → SRs ρ (l.map fun x => .n .u64 x) (l.map fun x => Value.int .u64 (Int.ofNat x))
  | [], _ => .nil
  | x :: l, h => .cons ⟨rfl, rfl, by
      have := h x (by simp)
      show x ≤ 18446744073709551615
      omega⟩ (u_rel ρ fun y hy => h y (List.mem_cons_of_mem _ hy))
theorem count_map (l : List Nat) (j : Nat) : (l.map Int.ofNat).count (j : Int) = l.count j := by
  induction l with
  | nil => rfl
  | cons x l ih =>
    rw [List.map_cons, List.count_cons, List.count_cons, ih]
    congr 1
    by_cases h : x = j
    · subst h; simp
    · have h1 : (Int.ofNat x == (j : Int)) = false := beq_eq_false_iff_ne.2 fun hh => h (Int.ofNat.inj hh)
      have h2 : (x == j) = false := beq_eq_false_iff_ne.2 h
      rw [h1, h2]
section
variable {l : List Nat} (hl : ∀ x ∈ l, x ≤ 12) (hn : l.length ≤ 400)
include hl hn
theorem mN_eq {j : Nat} (hj : j ≤ 12) : mN (pkN l) j = manyB (l.map Int.ofNat) j := by
  unfold manyB
  cases j with
  | zero => rfl
  | succ j =>
    rw [if_neg (by omega), count_map]
    show dg (pkN l) (j + 1) = _
    rw [pkN_eq hl, cnL_get (F := fun _ => 0) hj fun i _ => (by have := List.count_le_length (a := i) (l := l); omega)]
    exact Nat.zero_add _
theorem fsK_eq : ∀ (n j : Nat) (k : List Nat → Rs), j + n ≤ 13 → fsK (pkN l) n j (firstB (l.map Int.ofNat) j) k = k ((List.range' j n).map (firstB (l.map Int.ofNat)))
  | 0, _, _, _ => rfl
  | n + 1, j, k, h => by
    have e1 : fsK (pkN l) (n + 1) j (firstB (l.map Int.ofNat) j) k = fN (Nat.mul (Nat.add (firstB (l.map Int.ofNat) j) (mN (pkN l) j)) 2) fun f' => fN (Nat.add j 1) fun j' => fsK (pkN l) n j' f' fun r => k (firstB (l.map Int.ofNat) j :: r) := rfl
    rw [e1, fN_eq, fN_eq, mN_eq hl hn (by omega)]
    have e2 : Nat.mul (Nat.add (firstB (l.map Int.ofNat) j) (manyB (l.map Int.ofNat) j)) 2 = firstB (l.map Int.ofNat) (j + 1) := rfl
    rw [e2]
    exact fsK_eq n (j + 1) _ (by omega)
theorem msK_eq : ∀ (n j : Nat) (k : List Nat → Rs), j + n ≤ 13 → msK (pkN l) n j k = k ((List.range' j n).map (manyB (l.map Int.ofNat)))
  | 0, _, _, _ => rfl
  | n + 1, j, k, h => by
    have e1 : msK (pkN l) (n + 1) j k = fN (mN (pkN l) j) fun x => fN (Nat.add j 1) fun j' => msK (pkN l) n j' fun r => k (x :: r) := rfl
    rw [e1, fN_eq, fN_eq, mN_eq hl hn (by omega)]
    exact msK_eq n (j + 1) _ (by omega)
end
noncomputable def le12 (l : List Nat) : Bool := List.rec (motive := fun _ => Bool) true (fun x _ ih => an (Nat.ble x 12) ih) l
theorem le12_spec : ∀ {l : List Nat}, le12 l = true → ∀ x ∈ l, x ≤ 12
  | [], _, x, hx => by cases hx
  | y :: l, h, x, hx => by
    obtain ⟨h1, h2⟩ := an_inv (show an (Nat.ble y 12) (le12 l) = true from h)
    rcases List.mem_cons.1 hx with rfl | hx
    · exact Nat.le_of_ble_eq_true h1
    · exact le12_spec h2 x hx
theorem le_lens {l : List Nat} (h : ∀ x ∈ l, x ≤ 12) : Lens (l.map Int.ofNat) := fun z hz => by
  obtain ⟨x, hx, rfl⟩ := List.mem_map.1 hz
  have := h x hx
  exact ⟨Int.natCast_nonneg x, by show (x : Int) ≤ 12; omega⟩
noncomputable def tabK (l : List Nat) (k : List Nat → List Nat → Rs) : Rs := okK (le12 l) (okK (Nat.ble (lnN l) 400) (fN (pkN l) fun T => fsK T 13 0 0 fun F => msK T 13 0 fun M => k F M))
theorem tabK_inv {res : Rs} (hr : res ≠ .no) {l : List Nat} {k : List Nat → List Nat → Rs} (h : tabK l k = res) : (∀ x ∈ l, x ≤ 12) ∧ l.length ≤ 400 ∧ k ((List.range 13).map (firstB (l.map Int.ofNat))) ((List.range 13).map (manyB (l.map Int.ofNat))) = res := by
  obtain ⟨h1, h⟩ := okK_inv h hr
  obtain ⟨h2, h⟩ := okK_inv h hr
  have h1 := le12_spec h1
  have h2 := Nat.le_of_ble_eq_true h2
  rw [lnN_eq] at h2
  rw [fN_eq] at h
  have h : fsK (pkN l) 13 0 (firstB (l.map Int.ofNat) 0) (fun F => msK (pkN l) 13 0 fun M => k F M) = res := h
  rw [fsK_eq h1 h2 13 0 _ (by omega), msK_eq h1 h2 13 0 _ (by omega)] at h
  exact ⟨h1, h2, h⟩
noncomputable def countG (l : List Nat) (σ : Mem) : Rs := tabK l fun F M => uK (F ++ M) fun cs => .mk (.val (.g cs)) e0 σ
noncomputable def countO (al : List AV) (σ : Mem) : Rs := on1 al fun x => inK σ x fun l => countG l σ
theorem count_orc : OrcS 330 countO := orc_row (g := countG) (fun _ _ => rfl) fun r v σ w a e σ' hv h => by
  obtain ⟨h1, h2, h3⟩ := tabK_inv val_ne h
  obtain ⟨h4, h5⟩ := uK_inv val_ne h3
  injection h5 with h6 _ h8
  injection h6 with h6
  subst h8
  refine ⟨rfl, Does.mono (hcount_does w v _ hv (le_lens h1) (by rw [List.length_map]; exact h2)) fun val w' hh => ?_⟩
  obtain ⟨rfl, hE⟩ := hh
  refine ⟨fun ρ => ?_, hE⟩
  rw [← h6]
  refine ⟨_, u_rel ρ h4, ?_⟩
  unfold tabA tabL
  rw [List.map_append, List.map_map, List.map_map]
  rfl
/-! Codes. -/
noncomputable def pF (l : List Nat) : Nat := List.rec (motive := fun _ => Nat) 0 (fun x _ ih => Nat.add x (Nat.mul 65536 ih)) l
theorem pF_eq : ∀ l : List Nat, pF l = ofD l
  | [] => rfl
  | x :: l => by
    show x + 65536 * pF l = x + 65536 * ofD l
    rw [pF_eq l]
noncomputable def cdK (l : List Nat) (T : Nat) (k : List Nat → Rs) : Rs := List.rec (motive := fun _ => Nat → (List Nat → Rs) → Rs) (fun _ k => k []) (fun x _ ih T k => Nat.rec (motive := fun _ => Rs) (ih T fun r => k (0 :: r)) (fun _ _ => fN (dg T x) fun c => fN (Nat.add T (bitN x)) fun T => ih T fun r => k (c :: r)) x) l T k
theorem cdK_eq {zs : List Nat} (hz : ∀ x ∈ zs, x ≤ 12) (hF : ∀ i, i ≤ 12 → firstB (zs.map Int.ofNat) i ≤ 60000) (hn : zs.length ≤ 400) : ∀ {l pre q : List Nat} {k : List Nat → Rs}, zs = pre ++ l → (∀ j, 0 < j → q.count j = pre.count j) → q.length ≤ pre.length → cdK l (ofD (cnL (firstB (zs.map Int.ofNat)) q)) k = k ((List.range' pre.length l.length).map (codeB (zs.map Int.ofNat)))
  | [], _, _, _, _, _, _ => rfl
  | x :: l, pre, q, k, he, hq, hql => by
    have hget : zs[pre.length]? = some x := by rw [he]; simp
    have hx : x ≤ 12 := hz x (by rw [he]; simp)
    have htake : (zs.map Int.ofNat).take pre.length = pre.map Int.ofNat := by rw [he, List.map_append, List.take_left' (by simp)]
    have hlen : pre.length + l.length + 1 = zs.length := by rw [he]; simp; omega
    have hcode : codeB (zs.map Int.ofNat) pre.length = if 0 < x then firstB (zs.map Int.ofNat) x + pre.count x else 0 := by
      unfold codeB
      rw [List.getElem?_map, hget]
      show (if 0 < Int.ofNat x then firstB (zs.map Int.ofNat) (Int.ofNat x).toNat + ((zs.map Int.ofNat).take pre.length).count (Int.ofNat x) else 0) = _
      rw [htake]
      have := count_map pre x
      by_cases h0 : 0 < x
      · have h1 : (0 : Int) < Int.ofNat x := by show (0 : Int) < (x : Int); omega
        rw [if_pos h0, if_pos h1]
        show firstB (zs.map Int.ofNat) x + _ = _
        rw [← this]; rfl
      · have h1 : ¬ (0 : Int) < Int.ofNat x := by show ¬ (0 : Int) < (x : Int); omega
        rw [if_neg h0, if_neg h1]
    rw [List.length_cons, List.range'_succ, List.map_cons, hcode]
    have hne : pre.length + 1 = (pre ++ [x]).length := by simp
    cases x with
    | zero =>
      show cdK l (ofD (cnL (firstB (zs.map Int.ofNat)) q)) (fun r => k (0 :: r)) = _
      rw [cdK_eq hz hF hn (pre := pre ++ [0]) (q := q) (by rw [he]; simp) (fun j hj => by
        have h1 : (0 == j) = false := beq_eq_false_iff_ne.2 (by omega)
        rw [hq j hj, List.count_append, List.count_singleton, h1]; rfl) (by simp; omega), ← hne]
      rfl
    | succ m =>
      show fN (dg (ofD (cnL (firstB (zs.map Int.ofNat)) q)) (m + 1)) (fun c => fN (Nat.add (ofD (cnL (firstB (zs.map Int.ofNat)) q)) (bitN (m + 1))) fun T => cdK l T fun r => k (c :: r)) = _
      have hb : ∀ i, i ≤ 12 → firstB (zs.map Int.ofNat) i + q.count i < 65536 := fun i hi => by
        have h1 := hF i hi
        have h2 := List.count_le_length (a := i) (l := q)
        omega
      rw [fN_eq, fN_eq, cnL_get hx hb]
      · have e2 : Nat.add (ofD (cnL (firstB (zs.map Int.ofNat)) q)) (bitN (m + 1)) = ofD (cnL (firstB (zs.map Int.ofNat)) (q ++ [m + 1])) := (cnL_snoc _ _ hx).symm
        rw [e2, cdK_eq hz hF hn (pre := pre ++ [m + 1]) (q := q ++ [m + 1]) (by rw [he]; simp) (fun j hj => by rw [List.count_append, List.count_append, hq j hj]) (by simp; omega), ← hne, if_pos (Nat.succ_pos m), hq _ (Nat.succ_pos m)]
noncomputable def codesG (l : List Nat) (σ : Mem) : Rs := okK (mayN l) (tabK l fun F _ => uK F fun _ => fN (pF F) fun T => cdK l T fun c => uK c fun cs => fN (lnN l) fun n => newK σ 22 cs fun id σ => .mk (.val (.v (.lx id 1 0 n n))) e0 σ)
noncomputable def codesO (al : List AV) (σ : Mem) : Rs := on1 al fun x => inK σ x fun l => codesG l σ
theorem codes_sound {f : Nat} (hf : ∀ (w : World) (v : Value) (zs : List Int), IRow w v zs → mayB zs = true → Does Tryz.prog f #[v] w fun r w' => ∃ b, r = .slice (some ⟨b, 0, none⟩) zs.length zs.length ∧ w.heap.size ≤ b ∧ UB w' b (codesB zs) ∧ Ext w w') : OrcS f codesO := fun w0 al σ a e' σ' ρ vs w h ha hM => by
  obtain ⟨x, v, rfl, h1, h2⟩ := on1_inv val_ne ha h
  obtain ⟨l, h3, h4⟩ := inK_inv val_ne hM h1 h2
  obtain ⟨h5, h6⟩ := okK_inv (show okK (mayN l) _ = _ from h4) val_ne
  rw [mayN_eq] at h5
  obtain ⟨h7, h8, h9⟩ := tabK_inv val_ne h6
  obtain ⟨h10, h11⟩ := uK_inv val_ne h9
  rw [fN_eq, pF_eq] at h11
  have hF : ∀ i, i ≤ 12 → firstB (l.map Int.ofNat) i ≤ 60000 := fun i hi => h10 _ (List.mem_map.2 ⟨i, List.mem_range.2 (by omega), rfl⟩)
  have e0 : (List.range 13).map (firstB (l.map Int.ofNat)) = cnL (firstB (l.map Int.ofNat)) [] := by
    unfold cnL
    exact List.map_congr_left fun j _ => by simp
  rw [e0, cdK_eq h7 hF h8 (l := l) (pre := []) (q := []) rfl (fun _ _ => rfl) (Nat.le_refl _)] at h11
  obtain ⟨h12, h13⟩ := uK_inv val_ne h11
  rw [fN_eq, lnN_eq] at h13
  obtain ⟨ob, σ2, k1, k2, k3, k4, k5, k6, k7⟩ := newK_inv val_ne h13
  injection k7 with k8 _ k10
  injection k8 with k8
  subst k10
  refine Does.mono (hf w v _ h3 h5) fun val w' hh => ?_
  obtain ⟨b, rfl, hb, hU, hE⟩ := hh
  have hcs : (codesB (l.map Int.ofNat)).map (Value.int .u64) = ((List.range' 0 l.length).map (codeB (l.map Int.ofNat))).map fun x => Value.int .u64 (Int.ofNat x) := by
    unfold codesB
    rw [List.map_map, List.map_map, List.length_map, List.range_eq_range']
    rfl
  have hU' : Blk w' b 22 ((((List.range' 0 l.length).map (codeB (l.map Int.ofNat))).map fun x => Value.int .u64 (Int.ofNat x))).toArray := by
    have := hU
    unfold UB at this
    rwa [hcs] at this
  have hu := u_rel ρ h12
  have hM2 := hM.more (S := noneB) l.length 1 (by simp) k1 k2 (fun o ho => by rw [k4 o]; exact List.getElem?_eq_none (by omega)) (fun o x hx => by
    rw [k4 o] at hx
    obtain ⟨v, q1, q2⟩ := hu.get o x hx
    exact ⟨v, by simpa using q1, q2⟩) k5 k6 (Blk.bk hU') hE (fun id o p s1 s2 => ⟨by have := hM.below id o p s1 s2; omega, fun hh => hh⟩) (fun b hh => hh.elim) (.inl (Nat.le_trans hM.old.size hb))
  refine ⟨_, Up.snoc ρ _, ?_, hM2⟩
  rw [← k8]
  refine ⟨⟨b, l.length, 1⟩, ?_, Nat.le_refl _, by unfold maxLen; omega, by rw [List.length_map, Nat.zero_mul]⟩
  rw [← hM.len]; simp
theorem codes_orc : OrcS 310 codesO := codes_sound codes_does
end Rn
end Eng
end Go.Proofs.YtalnkjpgnkfedaaGreatDoor
