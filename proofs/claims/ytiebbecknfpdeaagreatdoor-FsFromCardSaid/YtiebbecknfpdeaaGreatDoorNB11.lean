/-
  Parts of the proof: Vc, Vd, Va, Ve, Vh, Vi, Vk, Zx, Zy, Kc, Kd, Yl.
-/
import Derived.Lib.BufferWrite
import Derived.Test.YtiebbecknfpdeaaGreatDoorNB0a
import Derived.Test.YtiebbecknfpdeaaGreatDoorNB0b
import Derived.Test.YtiebbecknfpdeaaGreatDoorNB10
import Derived.Test.YtiebbecknfpdeaaGreatDoorNB5a
import Derived.Test.YtiebbecknfpdeaaGreatDoorNB5b
import Derived.Test.YtiebbecknfpdeaaGreatDoorNB9
import Derived.Test.YtiebbecknfpdeaaGreatDoorNWh
import Derived.Test.YtiebbecknfpdeaaGreatDoorNWo
import Derived.Test.YtiebbecknfpdeaaGreatDoorNWt
import Derived.Test.YtiebbecknfpdeaaGreatDoorNWv
import Derived.Test.YtiebbecknfpdeaaGreatDoorNWy
import Derived.Test.YtiebbecknfpdeaaGreatDoorNZu
set_option maxRecDepth 100000
set_option maxHeartbeats 64000000
namespace Go.Proofs.YtiebbecknfpdeaaGreatDoor.Eng
open Go.RowKit
section
theorem idxF_first (p : En → Bool) : ∀ (l : List En) (k : Nat), (idxF p l k = -1 ∧ ∀ x ∈ l, p x = false) ∨ ∃ (i : Nat) (x : En), idxF p l k = ((k + i : Nat) : Int) ∧ l[i]? = some x ∧ p x = true ∧ ∀ y ∈ l.take i, p y = false
 | [], k => .inl ⟨rfl, fun x hx => by cases hx⟩
 | y :: l, k => by
  rw [idxF]
  cases h : p y with
  | true => exact .inr ⟨0, y, by rw [if_pos rfl]; rfl, rfl, h, fun z hz => by simp at hz⟩
  | false =>
   rw [if_neg (by decide)]
   rcases idxF_first p l (k + 1) with ⟨h1, h2⟩ | ⟨i, x, h1, h2, h3, h4⟩
   ·refine .inl ⟨h1, fun x hx => ?_⟩
    rcases List.mem_cons.1 hx with rfl | hx
    ·exact h
    ·exact h2 x hx
   ·refine .inr ⟨i + 1, x, by rw [h1]; congr 1; omega, h2, h3, fun z hz => ?_⟩
    rw [List.take_succ_cons] at hz
    rcases List.mem_cons.1 hz with rfl | hz
    ·exact h
    ·exact h4 z hz
theorem filter_step {α : Type} (p : α → Bool) {l : List α} {j : Nat} {x : α} (h : l[j]? = some x) : (l.take (j + 1)).filter p = (l.take j).filter p ++ if p x then [x] else [] := by
 rw [List.take_add_one, h, List.filter_append]
 cases hp : p x <;> simp [hp]
def nB (p : En → Bool) (e : En) : Bool := !p e
structure DfI (w0 : World) (B gE cE : Nat) (l : List En) (p : En → Bool) (x : Nat × Nat × List En) (w : World) : Prop where
 f : Fr (· = gE) w0 w
 o : Ow enC 2 w B 54 (.slice (some ⟨gE, 0, none⟩) l.length cE) x.2.2
 n : x.2.2.length = l.length
 ij : x.1 ≤ x.2.1
 jn : x.2.1 ≤ l.length
 a : x.2.2.take x.1 = (l.take x.2.1).filter (nB p)
 d : x.2.2.drop x.2.1 = l.drop x.2.1
attribute [local irreducible] xs T
theorem deleteFunc_does (w : World) (B gE cE : Nat) (l : List En) (fid : FuncId) (cap : Array Value) (p : En → Bool) (hO : Ow enC 2 w B 54 (.slice (some ⟨gE, 0, none⟩) l.length cE) l) (hl : l.length ≤ 1000000) (h0 : 0 < l.length) (hfid : bit m_cal fid = true)
  (hp : ∀ w', Fr (· = gE) w w' → ∀ x ∈ l, Does Tryz.prog fid (#[.agg (enC x).toArray] ++ cap) w' fun r w'' => r = .bool (p x) ∧ Ext w' w'') :
  Does Tryz.prog 68 #[.slice (some ⟨gE, 0, none⟩) l.length cE, .func (.func fid) #[] cap] w fun r w' => r = .slice (some ⟨gE, 0, none⟩) (l.filter (nB p)).length cE ∧ Ow enC 2 w' B 54 r (l.filter (nB p)) ∧ Fr (· = gE) w w' := by
 refine does2 Tryz.func68 rfl (by kernel_rfl) ?_
 obtain ⟨_, _, e0, hcE, hcE2⟩ := hO.form
 injection e0 with _ _ e0
 subst e0
 refine goL ?_
 refine xcall rfl rfl (indexFunc_does w _ l fid cap p hO.rw hfid fun w' hE x hx => hp w' hE.fr x hx) ?_
 rintro r w1 ⟨rfl, hE1⟩
 rcases idxF_first p l 0 with ⟨h1, h2⟩ | ⟨i0, x0, h1, hx0, hp0, h2⟩
 ·rw [h1]
  have hf : l.filter (nB p) = l := List.filter_eq_self.2 fun x hx => by unfold nB; rw [h2 x hx]; rfl
  rw [hf]
  refine goL ?_
  exact tret1 rfl rfl ⟨rfl, hO.ext hE1, hE1.fr⟩
 ·rw [h1, Nat.zero_add]
  have hi0 := (List.getElem?_eq_some_iff.1 hx0).1
  have hg0 : gE < w.heap.size := (hO.blk rfl).2
  refine goL ?_
  refine tloop (α := Nat × Nat × List En) (fun x => [(0, .slice (some ⟨gE, 0, none⟩) l.length cE), (1, .func (.func fid) #[] cap), (5, .int .i64 (x.1 : Int)), (6, .int .i64 (x.2.1 : Int))]) (DfI w B gE cE l p) (fun x => l.length - x.2.1) (i0, i0 + 1, l) (sub ⟨rfl, rfl, rfl, rfl⟩)
   ⟨hE1.fr, hO.ext hE1, rfl, Nat.le_succ _, hi0, by
    dsimp only
    rw [filter_step (nB p) hx0, show nB p x0 = false by unfold nB; rw [hp0]; rfl, if_neg (by decide), List.append_nil]
    exact (List.filter_eq_self.2 fun y hy => by unfold nB; rw [h2 y hy]; rfl).symm, rfl⟩ ?_
  rintro ⟨i, j, cur⟩ w2 ⟨hF2, hO2, hn2, hij, hjn, ha, hd⟩
  dsimp only at hF2 hO2 hn2 hij hjn ha hd ⊢
  have z2 := hF2.size
  by_cases hlt : j < l.length
  ·obtain ⟨x, hx⟩ : ∃ x, l[j]? = some x := ⟨_, List.getElem?_eq_getElem hlt⟩
   have hxm := List.mem_of_getElem? hx
   have hxc : cur[j]? = some x := by
    have h3 : (cur.drop j)[0]? = (l.drop j)[0]? := by rw [hd]
    rw [List.getElem?_drop, List.getElem?_drop, Nat.add_zero] at h3
    rw [h3, hx]
   obtain ⟨_, _, e3, _, _, _, _, hcell⟩ := OwnZ.go (show OwnZ w2 B 54 2 (.slice (some ⟨gE, 0, none⟩) l.length cE) cur.length (cur.flatMap enC) from hO2) (by omega)
   injection e3 with e3 _ _
   injection e3 with e3
   injection e3 with e3
   subst e3
   have hstep := filter_step (nB p) hx
   repeat' (first | refine xizq j (j * 2) rfl rfl rfl rfl (by omega) hlt ?_ | refine go1L ?_ | fail)
   refine xldz (cs := enC x) rfl (by kernel_rfl) (fun q u hu => hcell _ u (flat_get enC_len hxc hu)) ?_
   refine goL ?_
   refine xalloc (z := .agg #[.string ⟨#[]⟩, .int .i64 0]) (by kernel_rfl) (fun w3 hB3 hE3 hs3 => ?_)
   refine goL ?_
   refine xsta hB3 rfl rfl (by kernel_rfl) rfl (enC_all x) (fun w4 hB4 hF4 => ?_)
   have hE24 : Ext w2 w4 := hE3.trans hF4 fun j hj e => by have : j = w2.heap.size := e; omega
   refine goL ?_
   refine xlda (t := 54) hB4 rfl rfl ?_
   refine goL ?_
   refine xcallv (vs := [.agg (enC x).toArray]) rfl rfl hfid (hp w4 (hF2.te hE24) x hxm) ?_
   rintro r w5 ⟨rfl, hE5⟩
   have hE25 := hE24.t hE5
   have hO5 := hO2.ext hE25
   cases hpx : p x with
   | true =>
    have hnx : nB p x = false := by unfold nB; rw [hpx]; rfl
    rw [hnx, if_neg (by decide), List.append_nil] at hstep
    refine goL ?_
    exact tfin ⟨(i, j + 1, cur), sub ⟨rfl, rfl, rfl, rfl⟩, ⟨hF2.te hE25, hO5, hn2, by dsimp only; omega, hlt, by rw [ha, hstep], by dsimp only; rw [← List.drop_drop, hd, List.drop_drop]⟩, (by show l.length - (j + 1) < l.length - j; omega)⟩
   | false =>
    have hnx : nB p x = true := by unfold nB; rw [hpx]; rfl
    rw [hnx, if_pos rfl] at hstep
    refine goL ?_
    refine xlda (t := 54) (hB4.ext hE5) rfl rfl ?_
    refine gz14 ?_
    refine xstow enC_len i hO5 rfl rfl rfl (by kernel_rfl) (fun u hu => enC_one [x] u (by simpa using hu)) (by omega) (fun w6 hO6 hF6 => ?_)
    refine goL ?_
    refine tfin ⟨(i + 1, j + 1, cur.set i x), sub ⟨rfl, rfl, rfl, rfl⟩, ⟨(hF2.te hE25).t hF6, hO6, by dsimp only; rw [List.length_set]; exact hn2, by dsimp only; omega, hlt, ?_, ?_⟩, (by show l.length - (j + 1) < l.length - j; omega)⟩
    ·dsimp only
     rw [hstep, ← ha, List.take_add_one, List.getElem?_set_self (by omega), List.take_set_of_le (Nat.le_refl _)]
     rfl
    ·dsimp only
     rw [List.drop_set_of_lt (by omega), ← List.drop_drop, hd, List.drop_drop]
  ·obtain rfl : j = l.length := by omega
   rw [List.take_length] at ha
   have hin : i ≤ l.length := hij
   have hfl : (l.filter (nB p)).length = i := by rw [← ha, List.length_take]; omega
   have hpre : (cur.flatMap enC).take (i * 2) = (l.filter (nB p)).flatMap enC := by
    rw [← ha]
    have hsp : cur.flatMap enC = (cur.take i).flatMap enC ++ (cur.drop i).flatMap enC := by rw [← List.flatMap_append, List.take_append_drop]
    rw [hsp]
    exact List.take_left' (by rw [flat_len enC_len, List.length_take]; omega)
   have key : ∀ w3, OwnZ w3 B 54 2 (.slice (some ⟨gE, 0, none⟩) i cE) i ((cur.flatMap enC).take (i * 2)) → Ow enC 2 w3 B 54 (.slice (some ⟨gE, 0, none⟩) i cE) (l.filter (nB p)) := fun w3 h => by
    unfold Ow
    rw [hfl, ← hpre]
    exact h
   have hO2' : OwnZ w2 B 54 2 (.slice (some ⟨gE, 0, none⟩) l.length cE) l.length (cur.flatMap enC) := by
    unfold Ow at hO2
    rw [hn2] at hO2
    exact hO2
   rw [hfl]
   by_cases hic : i < l.length
   ·refine goL ?_
    refine xsl1e i rfl rfl rfl rfl (by omega) hcE (by omega) ?_
    refine goL ?_
    refine xclr (l := i) sl_ents rfl (by decide) (fun u hu => List.all_eq_true.1 (show ([Value.string ⟨#[]⟩, Value.int .i64 0] : List Value).all (·.oneCell') = true from rfl) u hu) hO2' rfl (by omega) (by omega) (fun w3 hO3 hF3 => ?_)
    refine goL ?_
    refine xsl0e i rfl rfl rfl rfl (by omega) (by omega) ?_
    refine goL ?_
    exact tret1 rfl rfl ⟨rfl, key _ hO3, hF2.t hF3⟩
   ·obtain rfl : i = l.length := by omega
    refine goL ?_
    refine xsl1 (l := (l.length : Int)) rfl rfl rfl (by omega) (by omega) hcE (fun A' _ => ?_)
    refine goL ?_
    refine xclr0 Tryz.underlying26 rfl (by rw [Int.toNat_natCast]; omega) ?_
    refine goL ?_
    refine xsl0e l.length rfl rfl rfl rfl hcE (by omega) ?_
    refine goL ?_
    exact tret1 rfl rfl ⟨rfl, key _ (by
     have e : (cur.flatMap enC).take (l.length * 2) = cur.flatMap enC := List.take_of_length_le (by rw [flat_len enC_len, hn2]; omega)
     rw [e]; exact hO2'), hF2⟩
theorem delete_does (w : World) (B gN cN : Nat) (l : List NdV) (n : Nat) (hO : Ow ndC 12 w B 67 (.slice (some ⟨gN, 0, none⟩) l.length cN) l) (hl : l.length ≤ 1000000) (hn : n < l.length) (hin : ∀ x ∈ l, NdIn w x) :
  Does Tryz.prog 124 #[.slice (some ⟨gN, 0, none⟩) l.length cN, .int .i64 (n : Int), .int .i64 ((n : Int) + 1)] w fun r w' => r = .slice (some ⟨gN, 0, none⟩) (l.length - 1) cN ∧ Ow ndC 12 w' B 67 r (l.eraseIdx n) ∧ Fr (· = gN) w w' := by
 refine does3 Tryz.func124 rfl (by kernel_rfl) ?_
 obtain ⟨_, _, e0, hcN, hcN2⟩ := hO.form
 injection e0 with _ _ e0
 subst e0
 have hO' : OwnZ w B 67 12 (.slice (some ⟨gN, 0, none⟩) l.length cN) l.length (l.flatMap ndC) := hO
 have hel : (l.eraseIdx n).length = l.length - 1 := by rw [List.length_eraseIdx, if_pos hn]
 have hee : l.eraseIdx n = l.take n ++ l.drop (n + 1) := List.eraseIdx_eq_take_drop_succ l n
 repeat' (first | refine xsl3 n (n + 1) l.length rfl rfl rfl rfl rfl rfl (by omega) rfl (by omega) (by omega) hcN (fun v => ?_) | refine go1L ?_ | fail)
 have hto : ((n : Int) + 1).toNat = n + 1 := by omega
 have hOd := hO.ext (Fr.drew noneB w)
 have hpre := Ow.pre ndC_len hOd (Nat.le_of_lt hn)
 unfold Ow at hpre
 have htl : (l.take n).length = n := by rw [List.length_take]; omega
 rw [htl] at hpre
 have hsp : l.flatMap ndC = (l.take (n + 1)).flatMap ndC ++ (l.drop (n + 1)).flatMap ndC := by rw [← List.flatMap_append, List.take_append_drop]
 have htl1 : ((l.take (n + 1)).flatMap ndC).length = (n + 1) * 12 := by rw [flat_len ndC_len, List.length_take]; omega
 have hdl : ((l.drop (n + 1)).flatMap ndC).length = (l.length - (n + 1)) * 12 := by rw [flat_len ndC_len, List.length_drop]
 obtain ⟨_, _, e3, _, hg2, _, _, hcell⟩ := OwnZ.go (show OwnZ w.drew B 67 12 (.slice (some ⟨gN, 0, none⟩) l.length cN) l.length (l.flatMap ndC) from hOd) (by omega)
 injection e3 with e3 _ _
 injection e3 with e3
 injection e3 with e3
 subst e3
 refine xsl0o n rfl rfl rfl rfl (by omega) hcN ?_
 refine goL ?_
 refine xsl1 (l := ((n : Int) + 1)) rfl rfl rfl (by omega) (by omega) hcN (fun A' hA' => ?_)
 rw [hto] at hA' ⊢
 have hrow : Row w.drew (.slice A' (l.length - (n + 1)) (cN - (n + 1))) (l.length - (n + 1)) ((l.drop (n + 1)).flatMap ndC) :=
  ⟨A', _, rfl, by omega, by unfold maxLen; omega, fun h0 => ⟨gN, 0 + (n + 1) * 12, hA' gN 0 rfl (by omega), hg2, fun j u hu => by
   rw [show 0 + (n + 1) * 12 + j = (n + 1) * 12 + j by omega]
   refine hcell _ u ?_
   rw [hsp, List.getElem?_append_right (by omega), htl1, show (n + 1) * 12 + j - (n + 1) * 12 = j by omega]
   exact hu⟩⟩
 have hone : ∀ u ∈ (l.drop (n + 1)).flatMap ndC, u.oneCell' = true := fun u hu => by
  obtain ⟨x, hx, hu⟩ := List.mem_flatMap.1 hu
  exact ndC_one (hin x (List.mem_of_mem_drop hx)) u hu
 refine goL ?_
 refine xapi sl_nds rfl hpre rfl hrow hdl hone (by omega) (fun w2 hO2 hF2 => ?_)
 have hF02 : Fr (· = gN) w w2 := (show Ext w w.drew from Fr.drew noneB w).fr.t hF2
 have hnm : n + (l.length - (n + 1)) = l.length - 1 := by omega
 rw [hnm] at hO2 ⊢
 refine goL ?_
 refine xsl2 (l := ((l.length - 1 : Nat) : Int)) (h := (l.length : Int)) rfl rfl rfl rfl (by omega) (by omega) (by omega) (fun A3 hA3 => ?_)
 simp only [Int.toNat_natCast] at hA3 ⊢
 obtain rfl := hA3 gN 0 rfl (by omega)
 obtain ⟨r, hG⟩ := OwnZ.grow hO2 (n' := l.length) (by omega) (by omega)
 refine goL ?_
 refine xclr (l := l.length - 1) sl_nds rfl (by decide) (fun u hu => List.all_eq_true.1 (show (ndC nilD).all (·.oneCell') = true from rfl) u hu) hG rfl (by omega) (by omega) (fun w3 hO3 hF3 => ?_)
 have hOr : Ow ndC 12 w3 B 67 (.slice (some ⟨gN, 0, none⟩) (l.length - 1) cN) (l.eraseIdx n) := by
  unfold Ow
  rw [hel, hee, List.flatMap_append]
  rw [List.take_left' (by rw [List.length_append, flat_len ndC_len, flat_len ndC_len, htl, List.length_drop, ← Nat.add_mul, hnm])] at hO3
  exact hO3
 refine goL ?_
 exact tret1 rfl rfl ⟨rfl, hOr, hF02.t hF3⟩
end
section
def decE (n : Int) (e : En) : En := if n < e.node then ⟨e.path, e.node - 1⟩ else e
theorem decE_path (n : Int) (e : En) : (decE n e).path = e.path := by unfold decE; split <;> rfl
def isP (p : Str) (e : En) : Bool := decide (e.path = p)
def goneE (m : FsM) (t : Tre) (p : Str) : Int :=
 if (begM m).2.1 ≠ 0 then (begM m).2.1 else if (findM t p).2 ≠ 0 then (findM t p).2 else if p = [] then 1 else if 0 < (kidsT t p).length then 10 else 0
def offT (t : Tre) (p : Str) (k : Int) : Tre :=
 if (classT t p).length = 1 then ⟨(t.es.filter (nB (isP p))).map (decE k), t.ns.eraseIdx k.toNat⟩ else ⟨t.es.filter (nB (isP p)), t.ns⟩
def goneT (m : FsM) (t : Tre) (p : Str) : Tre := if goneE m t p = 0 then stampT (offT t p (findM t p).1) p (begM m).2.2.calls else t
theorem map_step {α : Type} (f : α → α) {l : List α} {i : Nat} {x : α} (h : l[i]? = some x) : ((l.take i).map f ++ l.drop i).set i (f x) = (l.take (i + 1)).map f ++ l.drop (i + 1) := by
 have hi := (List.getElem?_eq_some_iff.1 h).1
 have hd : l.drop i = x :: l.drop (i + 1) := by rw [← (List.getElem?_eq_some_iff.1 h).2]; exact List.drop_eq_getElem_cons hi
 have hl : ((l.take i).map f).length = i := by rw [List.length_map, List.length_take]; omega
 rw [hd, List.set_append_right _ _ (by omega), hl, Nat.sub_self, List.set_cons_zero, List.take_add_one, h, List.map_append, List.append_assoc]
 rfl
theorem map_get {α : Type} (f : α → α) {l : List α} {i : Nat} {x : α} (h : l[i]? = some x) : ((l.take i).map f ++ l.drop i)[i]? = some x := by
 have hi := (List.getElem?_eq_some_iff.1 h).1
 have hl : ((l.take i).map f).length = i := by rw [List.length_map, List.length_take]; omega
 rw [List.getElem?_append_right (by omega), hl, Nat.sub_self, List.getElem?_drop, Nat.add_zero, h]
attribute [local irreducible] xs T
structure DrI (w0 : World) (B g gE cE gN cN : Nat) (m : FsM) (vf : Value) (nvs : List NdV) (es : List En) (n : Nat) (nl : Nat) (i : Nat) (w : World) : Prop where
 f : Fr (FsK g (.slice (some ⟨gE, 0, none⟩) es.length cE) (.slice (some ⟨gN, 0, none⟩) nl cN)) w0 w
 k : Blk w g 109 (fsC m vf (.slice (some ⟨gE, 0, none⟩) es.length cE) (.slice (some ⟨gN, 0, none⟩) (nl - 1) cN))
 e : Ow enC 2 w B 54 (.slice (some ⟨gE, 0, none⟩) es.length cE) ((es.take i).map (decE n) ++ es.drop i)
 n : Ow ndC 12 w B 67 (.slice (some ⟨gN, 0, none⟩) (nl - 1) cN) (nvs.eraseIdx n)
 i : i ≤ es.length
theorem drop_does (w : World) (B g : Nat) (m : FsM) (vf ve vn : Value) (nvs : List NdV) (t : Tre) (n : Nat) (h : FsO w B g m vf ve vn nvs t) (hn : n < t.ns.length) (hno : ∀ e ∈ t.es, e.node ≠ n) :
  Does Tryz.prog 70 #[.pointer (some ⟨g, 0, none⟩), .int .i64 (n : Int)] w fun r w' => r = .tuple #[] ∧ ∃ vn' nvs', FsS w B g vf ve vn nvs w' m ⟨t.es.map (decE n), t.ns.eraseIdx n⟩ ve vn' nvs' := by
 refine does2 Tryz.func70 rfl (by kernel_rfl) ?_
 have hlen := h.i.tr.len
 have h0 := h.i.h
 have hle := h.i.le
 have hln := h.i.ln
 obtain ⟨gE, cE, rfl, hgE, hgE2, hcE, hcE2, _⟩ := OwnZ.go h.o.e (by omega)
 obtain ⟨gN, cN, rfl, hgN, hgN2, hcN, hcN2, _⟩ := OwnZ.go h.o.n (by omega)
 have hggE : gE ≠ g := h.i.a gE (.inl rfl)
 have hggN : gN ≠ g := h.i.a gN (.inr (.inl rfl))
 have hgEN : gE ≠ gN := fun e => h.o.e.apart h.o.n (by decide) rfl (by rw [e]; rfl)
 refine tscope1 (α := Nat) 0 rfl (fun i => [(0, .pointer (some ⟨g, 0, none⟩)), (1, .int .i64 (n : Int)), (4, .int .i64 (i : Int))]) (DrI w B g gE cE gN cN m vf nvs t.es n nvs.length) (fun i => t.es.length - i) ?_ ?_
 ·rintro i w1 ⟨hF1, hk1, he1, hn1, hi⟩
  have k4 : w1.cell? ⟨g, 4, none⟩ = some (.slice (some ⟨gE, 0, none⟩) t.es.length cE) := hk1.cell 4
  by_cases hlt : i < t.es.length
  ·obtain ⟨x, hx⟩ : ∃ x, t.es[i]? = some x := ⟨_, List.getElem?_eq_getElem hlt⟩
   have hxm := List.mem_of_getElem? hx
   have hxr := h.i.r x hxm
   have hxn := hno x hxm
   have hxg := map_get (decE (n : Int)) hx
   have hms := map_step (decE (n : Int)) hx
   obtain ⟨_, _, e3, _, _, _, _, hcell⟩ := OwnZ.go he1 (by rw [List.length_append, List.length_map, List.length_take, List.length_drop]; omega)
   injection e3 with e3 _ _
   injection e3 with e3
   injection e3 with e3
   subst e3
   have q1 : w1.cell? ⟨gE, i * 2 + 1, none⟩ = some (.int .i64 x.node) := hcell _ _ (flat_get enC_len hxg rfl)
   by_cases hgt : (n : Int) < x.node
   ·have hdx : decE (n : Int) x = ⟨x.path, x.node - 1⟩ := by unfold decE; rw [if_pos hgt]
    rw [hdx] at hms
    repeat' (first | refine xizq i (i * 2) rfl rfl rfl rfl (by omega) hlt ?_ | refine go1L ?_ | fail)
    refine xstc enC_len i 1 he1 rfl rfl (by omega) (by omega) (by kernel_rfl) rfl hxg (show enC ⟨x.path, x.node - 1⟩ = (enC x).set 1 (.int .i64 (x.node - 1)) from rfl) (fun w2 hO2 hF2 => ?_)
    rw [hms] at hO2
    refine goL ?_
    exact tgoto rfl ⟨_, by dsimp only; omega, rfl, i + 1, sub ⟨rfl, rfl, rfl⟩, ⟨hF1.t (hF2.mono fun b _ hb => .inr (.inl (by have : b = gE := hb; rw [this]; rfl))), hk1.fr hF2 (fun e => hggE e.symm), hO2, hn1.fr hF2 fun b hb e => hgEN (by have h1 : gN = b := Option.some.inj hb; have h2 : b = gE := e; omega), hlt⟩, rfl⟩
   ·have hdx : decE (n : Int) x = x := by unfold decE; rw [if_neg hgt]
    rw [hdx, list_set_same hxg] at hms
    repeat' (first | refine xizq i (i * 2) rfl rfl rfl rfl (by omega) hlt ?_ | refine go1L ?_ | fail)
    exact tgoto rfl ⟨_, by dsimp only; omega, rfl, i + 1, sub ⟨rfl, rfl, rfl⟩, ⟨hF1, hk1, by rw [← hms]; exact he1, hn1, hlt⟩, rfl⟩
  ·obtain rfl : i = t.es.length := by omega
   rw [List.take_length, List.drop_length, List.append_nil] at he1
   have hel : (nvs.eraseIdx n).map (·.n) = t.ns.eraseIdx n := by rw [← h.o.m, List.eraseIdx_eq_take_drop_succ, List.eraseIdx_eq_take_drop_succ, List.map_append, List.map_take, List.map_drop]
   have hnl : (t.ns.eraseIdx n).length = t.ns.length - 1 := by rw [List.length_eraseIdx, if_pos hn]
   have hin : ∀ x ∈ t.ns.eraseIdx n, x ∈ t.ns := fun x hx => List.mem_of_mem_eraseIdx hx
   have key : FsS w B g vf (.slice (some ⟨gE, 0, none⟩) t.es.length cE) (.slice (some ⟨gN, 0, none⟩) nvs.length cN) nvs w1 m ⟨t.es.map (decE n), t.ns.eraseIdx n⟩ (.slice (some ⟨gE, 0, none⟩) t.es.length cE) (.slice (some ⟨gN, 0, none⟩) (nvs.length - 1) cN) (nvs.eraseIdx n) :=
    ⟨h.step hF1 rfl hk1 he1 hn1 (fun x hx => h.o.i x (List.mem_of_mem_eraseIdx hx)) hel (fun e he => by
     obtain ⟨x, hx, rfl⟩ := List.mem_map.1 he
     have h1 := h.i.r x hx
     have h2 := hno x hx
     rw [hnl]
     unfold decE
     split
     ·dsimp only; omega
     ·omega) (by rw [List.length_map]; exact h0) (fun x hx => h.i.l x (hin x hx)) (fun x hx => h.i.s x (hin x hx)) (by rw [List.length_map]; exact hle) (by rw [hnl]; omega), hF1, fun b hb => by
      rcases hb with hb | hb | hb
      ·exact .inl (.inl hb)
      ·exact .inl (.inr (.inl hb))
      ·exact .inl (.inr (.inr hb)), fun x hx _ hb => .inl ⟨x, List.mem_of_mem_eraseIdx hx, hb⟩⟩
   refine goL ?_
   refine tscpe ?_
   exact tend0 rfl ⟨rfl, _, _, key⟩
 ·intro H
  have k5 : w.cell? ⟨g, 5, none⟩ = some (.slice (some ⟨gN, 0, none⟩) nvs.length cN) := h.i.k.cell 5
  refine goL ?_
  refine xcall rfl rfl (delete_does w B gN cN nvs n h.o.n (by omega) (by omega) fun x hx => (h.o.i x hx).in) ?_
  rintro r w1 ⟨rfl, hO1, hF1⟩
  have hk1 := h.i.k.fr hF1 (fun e => hggN e.symm)
  refine goL ?_
  refine xstb hk1 rfl rfl (by kernel_rfl) rfl rfl (fun w2 hB2 hF2 => ?_)
  have hF02 : Fr (FsK g (.slice (some ⟨gE, 0, none⟩) t.es.length cE) (.slice (some ⟨gN, 0, none⟩) nvs.length cN)) w w2 := (hF1.mono fun b _ hb => .inr (.inr (by have : b = gN := hb; rw [this]; rfl))).t (hF2.mono fun b _ hb => .inl hb)
  have he2 := (h.o.e.fr hF1 fun b hb e => hgEN (by have h1 : gE = b := Option.some.inj hb; have h2 : b = gN := e; omega)).fr hF2 fun b hb => by have h1 : gE = b := Option.some.inj hb; show ¬ b = g; omega
  have hn2 := hO1.fr hF2 fun b hb => by have h1 : gN = b := Option.some.inj hb; show ¬ b = g; omega
  refine goL ?_
  refine tlabel ?_
  exact tweak (H 0 w2 ⟨hF02, hB2, by rw [List.take_zero, List.drop_zero]; exact he2, hn2, Nat.zero_le _⟩) (sub ⟨rfl, rfl, rfl⟩)
theorem gone1_does (w : World) (e : En) (g3 : Nat) (p : Str) (h3 : w.cell? ⟨g3, 0, none⟩ = some (.string (su p))) : Does Tryz.prog 69 #[.agg (enC e).toArray, .pointer (some ⟨g3, 0, none⟩)] w fun r w' => r = .bool (isP p e) ∧ Ext w w' := by
 refine does2 Tryz.func69 rfl (by kernel_rfl) ?_
 refine goL ?_
 refine xbox rfl (fun w1 hB1 hE1 hs1 => ?_)
 have k0 : w1.cell? ⟨w.heap.size, 0, none⟩ = some (.string (su e.path)) := Blk.cell hB1 0
 have k3 : w1.cell? ⟨g3, 0, none⟩ = some (.string (su p)) := hE1.cell h3
 repeat' (first | refine xucmp (op := .eql) rfl rfl rfl ?_ | refine go1L ?_ | fail)
 exact tret1 rfl rfl ⟨rfl, hE1⟩
theorem used_does (w : World) (g : Nat) (m : FsM) (vf ve vn : Value) (nvs : List NdV) (t : Tre) (h : FsI w g m vf ve vn nvs t) : Does Tryz.prog 29 #[.pointer (some ⟨g, 0, none⟩)] w fun r w' => r = .int .i64 (totalT t.ns : Int) ∧ Ext w w' := by
 refine does1 Tryz.func29 rfl (by kernel_rfl) ?_
 refine goL ?_
 refine xldz (cs := [ve, vn]) rfl (by kernel_rfl) (fs_tree h.k) ?_
 refine goL ?_
 refine xcall rfl rfl (tbytes_does w _ _ nvs t h.tr h.s h.ln) ?_
 rintro r w1 ⟨rfl, hE1⟩
 exact y44
theorem gone_does (w : World) (B g : Nat) (m : FsM) (vf ve vn : Value) (nvs : List NdV) (t : Tre) (p : Str) (h : FsO w B g m vf ve vn nvs t) (hc : 0 ≤ m.calls ∧ m.calls ≤ 4000000000000000000) (hroot : ∃ e ∈ t.es, e.path = []) :
  Does Tryz.prog 27 #[.pointer (some ⟨g, 0, none⟩), .string (su p)] w fun r w' => r = .int .i64 (goneE m t p) ∧ ∃ ve' vn' nvs', FsS w B g vf ve vn nvs w' (begM m).2.2 (goneT m t p) ve' vn' nvs' := by
 refine does2 Tryz.func27 rfl (by kernel_rfl) ?_
 have hlen := h.i.tr.len
 have hg := h.i.k.lt
 have h0 := h.i.h
 have hle := h.i.le
 obtain ⟨gE, cE, rfl, hgE, hgE2, hcE, hcE2, _⟩ := OwnZ.go h.o.e (by omega)
 have hggE : gE ≠ g := h.i.a gE (.inl rfl)
 refine goL ?_
 refine xbox rfl (fun w1 hB1 hE1 hs1 => ?_)
 have hB1' : Blk w1 w.heap.size 9 #[.string (su p)] := hB1
 have h1 := h.ext hE1
 refine goL ?_
 refine xcall rfl rfl (begin_does w1 g m vf _ _ _ cE h1.i.k h1.i.h h1.i.f hc h1.i.af) ?_
 rintro r w2 ⟨rfl, hB2, hF2⟩
 have hi2 := h1.i.put hF2 hB2 (begM_flts m)
 have hS2 := (FsS.ext h hE1).t (FsS.put h1 hF2 hi2 (begM_flts m))
 have hBx2 := hB1'.fr hF2 (show ¬ w.heap.size = g by omega)
 unfold goneT goneE
 by_cases e : (begM m).2.1 = 0
 ·rw [if_neg (fun h => h e), e]
  have k3 : w2.cell? ⟨w.heap.size, 0, none⟩ = some (.string (su p)) := hBx2.cell 0
  refine goL ?_
  refine xcall rfl rfl (fsfind_does w2 g _ vf _ _ nvs t p hi2) ?_
  rintro r w3 ⟨rfl, hE3⟩
  have hS3 := hS2.t (FsS.ext hS2.o hE3)
  have hBx3 := hBx2.ext hE3
  by_cases e1 : (findM t p).2 = 0
  ·rw [if_neg (fun h => h e1), e1]
   obtain ⟨i, hi, hil⟩ := find_range h.i.r e1
   rw [hi]
   have k33 : w3.cell? ⟨w.heap.size, 0, none⟩ = some (.string (su p)) := hBx3.cell 0
   by_cases hp0 : p = []
   ·rw [if_pos hp0]
    repeat' (first | refine xucmp (op := .eql) (b := []) (r := true) rfl rfl (by simp [cmpU, hp0]) ?_ | refine go1L ?_ | fail)
    exact tret1 rfl rfl ⟨rfl, _, _, _, hS3⟩
   ·rw [if_neg hp0]
    have hd3 := Fr.drew noneB w3
    have hS3d := hS3.t (FsS.ext hS3.o hd3)
    have k3d : w3.drew.cell? ⟨w.heap.size, 0, none⟩ = some (.string (su p)) := k33
    repeat' (first | refine xucmp (op := .eql) (b := []) (r := false) rfl rfl (by simp [cmpU, hp0]) ?_ | refine go1L ?_ | fail)
    refine xldz (cs := [.slice (some ⟨gE, 0, none⟩) t.es.length cE, vn]) rfl (by kernel_rfl) (fs_tree hS3d.o.i.k) ?_
    refine goL ?_
    refine xcall rfl rfl (kids_does w3.drew _ _ t p hS3d.o.i.tr.e h.i.le) ?_
    rintro r w4 ⟨hO4, hE4⟩
    obtain ⟨A4, c4, rfl, _, _⟩ := hO4.form
    have hS4 := hS3d.t (FsS.ext hS3d.o hE4)
    have hBx4 := (hBx3.ext hd3).ext hE4
    by_cases hk : 0 < (kidsT t p).length
    ·rw [if_pos hk]
     refine goL ?_
     exact tret1 rfl rfl ⟨rfl, _, _, _, hS4⟩
    ·rw [if_neg hk, if_pos rfl]
     have hd4 := Fr.drew noneB w4
     have hS4d := hS4.t (FsS.ext hS4.o hd4)
     have hBx4d := hBx4.ext hd4
     have k4d : w4.drew.cell? ⟨w.heap.size, 0, none⟩ = some (.string (su p)) := hBx4d.cell 0
     refine goL ?_
     refine xldz (cs := [.slice (some ⟨gE, 0, none⟩) t.es.length cE, vn]) rfl (by kernel_rfl) (fs_tree hS4d.o.i.k) ?_
     refine goL ?_
     refine xcall rfl rfl (class_does w4.drew _ _ t p hS4d.o.i.tr.e h.i.le) ?_
     rintro r w5 ⟨hO5, hE5⟩
     obtain ⟨A5, c5, rfl, _, _⟩ := hO5.form
     have hS5 := hS4d.t (FsS.ext hS4d.o hE5)
     have hBx5 := hBx4d.ext hE5
     have hO5e := hS5.o.o.e
     have hgE5 := (hS5.o.o.e.blk rfl).2
     have k45 : w5.cell? ⟨g, 4, none⟩ = some (.slice (some ⟨gE, 0, none⟩) t.es.length cE) := hS5.o.i.k.cell 4
     have hbx : w.heap.size < w5.heap.size := hBx5.lt
     have hbK : ¬ FsK g (.slice (some ⟨gE, 0, none⟩) t.es.length cE) vn w.heap.size := fun hS => by
      rcases hS with hS | hS | hS
      ·omega
      ·have : gE = w.heap.size := Option.some.inj hS; omega
      ·have := (h.o.n.blk hS).2; omega
     have hfm : ∀ e ∈ t.es.filter (nB (isP p)), e ∈ t.es ∧ e.path ≠ p := fun e he => by
      obtain ⟨h1, h2⟩ := List.mem_filter.1 he
      unfold nB isP at h2
      exact ⟨h1, by simpa using h2⟩
     have hne1 : 0 < (t.es.filter (nB (isP p))).length := by
      obtain ⟨e, he, hep⟩ := hroot
      refine List.length_pos_of_mem (a := e) (List.mem_filter.2 ⟨he, ?_⟩)
      unfold nB isP
      simp [hep, Ne.symm hp0]
     have hl1 : (t.es.filter (nB (isP p))).length ≤ t.es.length := List.length_filter_le _ _
     have core : ∀ w6 w7, Ow enC 2 w6 B 54 (.slice (some ⟨gE, 0, none⟩) (t.es.filter (nB (isP p))).length cE) (t.es.filter (nB (isP p))) → Fr (· = gE) w5 w6 → Blk w7 g 109 (fsC (begM m).2.2 vf (.slice (some ⟨gE, 0, none⟩) (t.es.filter (nB (isP p))).length cE) vn) → Fr (· = g) w6 w7 → FsS w5 B g vf (.slice (some ⟨gE, 0, none⟩) t.es.length cE) vn nvs w7 (begM m).2.2 ⟨t.es.filter (nB (isP p)), t.ns⟩ (.slice (some ⟨gE, 0, none⟩) (t.es.filter (nB (isP p))).length cE) vn nvs := fun w6 w7 hO6 hF6 hB7 hF7 => by
      have hF57 : Fr (FsK g (.slice (some ⟨gE, 0, none⟩) t.es.length cE) vn) w5 w7 := (hF6.mono fun b _ hb => .inr (.inl (by have : b = gE := hb; rw [this]; rfl))).t (hF7.mono fun b _ hb => .inl hb)
      have hn7 := (hS5.o.o.n.fr hF6 fun b hb e => hS5.o.o.n.apart hS5.o.o.e (by decide) hb (by have : b = gE := e; rw [this]; rfl)).fr hF7 fun b hb => h.i.a b (.inr (.inl hb))
      exact ⟨hS5.o.step hF57 rfl hB7 (hO6.fr hF7 fun b hb => by have h1 : gE = b := Option.some.inj hb; show ¬ b = g; omega) hn7 hS5.o.o.i h.o.m (fun e he => h.i.r e (hfm e he).1) hne1 h.i.l h.i.s (by omega) h.i.ln, hF57, fun b hb => by
       rcases hb with hb | hb | hb
       ·exact .inl (.inl hb)
       ·exact .inl (.inr (.inl hb))
       ·exact .inl (.inr (.inr hb)), fun x hx _ hb => .inl ⟨x, hx, hb⟩⟩
     have hfi : findT t.es p = some (i : Int) := by
      unfold findM at hi e1
      by_cases h0 : wrongM t p = 0
      ·rw [if_neg (fun h => h h0)] at hi e1
       cases hf : findT t.es p with
       | none => rw [hf] at e1; exact absurd e1 (by decide)
       | some k => rw [hf] at hi; exact congrArg some hi
      ·rw [if_pos h0] at e1; exact absurd e1 h0
     by_cases hlast : (classT t p).length = 1
     ·have hoff : offT t p (i : Int) = ⟨(t.es.filter (nB (isP p))).map (decE (i : Int)), t.ns.eraseIdx i⟩ := by unfold offT; rw [if_pos hlast, Int.toNat_natCast]
      have hno : ∀ e ∈ t.es.filter (nB (isP p)), e.node ≠ (i : Int) := fun e he hei => by
       obtain ⟨h1, h2⟩ := hfm e he
       obtain ⟨e0, h3, h4, h5⟩ := findT_mem hfi
       unfold classT at hlast
       rw [hfi] at hlast
       dsimp only at hlast
       rw [List.length_map] at hlast
       obtain ⟨a, ha⟩ := List.length_eq_one_iff.1 hlast
       have m1 : e ∈ t.es.filter fun e => decide (e.node = (i : Int)) := List.mem_filter.2 ⟨h1, decide_eq_true hei⟩
       have m0 : e0 ∈ t.es.filter fun e => decide (e.node = (i : Int)) := List.mem_filter.2 ⟨h3, decide_eq_true h5⟩
       rw [ha, List.mem_singleton] at m1 m0
       exact h2 (by rw [m1, ← m0]; exact h4)
      refine gz16 ?_
      refine xcall rfl rfl (deleteFunc_does w5 B gE cE t.es 69 #[.pointer (some ⟨w.heap.size, 0, none⟩)] (isP p) hO5e h.i.le h0 (by kernel_rfl) (fun w' hF x _ => gone1_does w' x w.heap.size p ((hBx5.fr hF (show ¬ w.heap.size = gE by omega)).cell 0))) ?_
      rintro r w6 ⟨rfl, hO6, hF6⟩
      have hk6 := hS5.o.i.k.fr hF6 (fun e => hggE e.symm)
      refine goL ?_
      refine xstb hk6 rfl rfl (by kernel_rfl) rfl rfl (fun w7 hB7 hF7 => ?_)
      have hS7 := core w6 w7 hO6 hF6 hB7 hF7
      refine goL ?_
      refine xcall rfl rfl (drop_does w7 B g _ vf _ _ nvs _ i hS7.o hil hno) ?_
      rintro r w8 ⟨rfl, vn8, nvs8, hS8⟩
      have hS58 := hS7.t hS8
      have hBx8 := hBx5.fr hS58.f hbK
      have k38 : w8.cell? ⟨w.heap.size, 0, none⟩ = some (.string (su p)) := hBx8.cell 0
      refine goL ?_
      refine xcall rfl rfl (stamp_does w8 B g _ vf _ _ nvs8 _ p hS58.o) ?_
      rintro r w9 ⟨rfl, nvs9, hS9⟩
      rw [hoff]
      refine goL ?_
      exact tret1 rfl rfl ⟨rfl, _, _, _, hS5.t (hS58.t hS9)⟩
     ·have hoff : offT t p (i : Int) = ⟨t.es.filter (nB (isP p)), t.ns⟩ := by unfold offT; rw [if_neg hlast]
      refine gz16 ?_
      refine xcall rfl rfl (deleteFunc_does w5 B gE cE t.es 69 #[.pointer (some ⟨w.heap.size, 0, none⟩)] (isP p) hO5e h.i.le h0 (by kernel_rfl) (fun w' hF x _ => gone1_does w' x w.heap.size p ((hBx5.fr hF (show ¬ w.heap.size = gE by omega)).cell 0))) ?_
      rintro r w6 ⟨rfl, hO6, hF6⟩
      have hk6 := hS5.o.i.k.fr hF6 (fun e => hggE e.symm)
      refine goL ?_
      refine xstb hk6 rfl rfl (by kernel_rfl) rfl rfl (fun w7 hB7 hF7 => ?_)
      have hS7 := core w6 w7 hO6 hF6 hB7 hF7
      have hBx8 := hBx5.fr hS7.f hbK
      have k38 : w7.cell? ⟨w.heap.size, 0, none⟩ = some (.string (su p)) := hBx8.cell 0
      refine goL ?_
      refine xcall rfl rfl (stamp_does w7 B g _ vf _ _ nvs _ p hS7.o) ?_
      rintro r w9 ⟨rfl, nvs9, hS9⟩
      rw [hoff]
      refine goL ?_
      exact tret1 rfl rfl ⟨rfl, _, _, _, hS5.t (hS7.t hS9)⟩
  ·rw [if_pos e1, if_neg e1]
   refine goL ?_
   exact tret1 rfl rfl ⟨rfl, _, _, _, hS3⟩
 ·rw [if_pos e, if_neg e]
  refine goL ?_
  exact tret1 rfl rfl ⟨rfl, _, _, _, hS2⟩
end
section
def linkE (m : FsM) (t : Tre) (p q : Str) : Int :=
 if (begM m).2.1 ≠ 0 then (begM m).2.1 else if (findM t q).2 ≠ 0 then (findM t q).2 else if (nodeAt t (findM t q).1).kind = 1 then 8 else if wrongM t p ≠ 0 then wrongM t p else roomM t p
def linkT (m : FsM) (t : Tre) (p q : Str) : Tre := if linkE m t p q = 0 then enterT t p (findM t q).1 (begM m).2.2.calls else t
def setE (m : FsM) (t : Tre) (p : Str) (e : Nd → Int) (d : Nd → Nd) : Int :=
 if (begM m).2.1 ≠ 0 then (begM m).2.1 else if (findM t p).2 ≠ 0 then (findM t p).2 else if e (nodeAt t (findM t p).1) ≠ 0 then e (nodeAt t (findM t p).1) else if metaOK (d (nodeAt t (findM t p).1)) = false then 1 else 0
def setT (m : FsM) (t : Tre) (p : Str) (e : Nd → Int) (d : Nd → Nd) : Tre := if setE m t p e d = 0 then ⟨t.es, t.ns.set (findM t p).1.toNat (d (nodeAt t (findM t p).1))⟩ else t
def EdC (w0 : World) (B g : Nat) (fid : FuncId) (cap : Array Value) (e : Nd → Int) (d : Nd → Nd) : Prop := ∀ (w : World) (b : Nat) (y : NdV), Fr (· = g) w0 w → w0.heap.size ≤ b → Blk w b 67 (ndC y).toArray → NdO w B y →
 Does Tryz.prog fid (#[.pointer (some ⟨b, 0, none⟩)] ++ cap) w fun r w' => ∃ y', r = .int .i64 (e y.n) ∧ (e y.n = 0 → y'.n = d y.n) ∧ Blk w' b 67 (ndC y').toArray ∧ (e y.n = 0 → NdO w' B y') ∧ (∀ b', NdB y' b' → NdB y b' ∨ w.heap.size ≤ b') ∧ Fr (· = b) w w'
attribute [local irreducible] xs T
theorem link_does (w : World) (B g : Nat) (m : FsM) (vf ve vn : Value) (nvs : List NdV) (t : Tre) (p q : Str) (h : FsO w B g m vf ve vn nvs t) (hc : 0 ≤ m.calls ∧ m.calls ≤ 4000000000000000000) (hl : t.es.length ≤ 900000) :
  Does Tryz.prog 36 #[.pointer (some ⟨g, 0, none⟩), .string (su p), .string (su q)] w fun r w' => r = .int .i64 (linkE m t p q) ∧ ∃ ve' nvs', FsS w B g vf ve vn nvs w' (begM m).2.2 (linkT m t p q) ve' vn nvs' := by
 refine does3 Tryz.func36 rfl (by kernel_rfl) ?_
 have hlen := h.i.tr.len
 obtain ⟨A, c, rfl, hc1, hc2, _⟩ := h.i.tr.e.op enC_len
 obtain ⟨A', c', rfl, hc1', hc2', hA'⟩ := h.i.tr.n.op ndC_len
 refine goL ?_
 refine xcall rfl rfl (begin_does w g m vf _ A _ c h.i.k h.i.h h.i.f hc h.i.af) ?_
 rintro r w2 ⟨rfl, hB2, hF2⟩
 have hi2 := h.i.put hF2 hB2 (begM_flts m)
 have hS2 := FsS.put h hF2 hi2 (begM_flts m)
 unfold linkT linkE
 by_cases e : (begM m).2.1 = 0
 ·rw [if_neg (fun h => h e), e]
  refine goL ?_
  refine xcall rfl rfl (fsfind_does w2 g _ vf _ _ nvs t q hi2) ?_
  rintro r w3 ⟨rfl, hE3⟩
  have hS3 := hS2.t (FsS.ext hS2.o hE3)
  by_cases e1 : (findM t q).2 = 0
  ·rw [if_neg (fun h => h e1), e1]
   obtain ⟨i, hi, hil⟩ := find_range h.i.r e1
   rw [hi]
   obtain ⟨b, o, y, rfl, hb, hy, _, hcell⟩ := hA'.at_ (i := i) (by omega)
   have hbg : b ≠ g := h.i.a b (.inr (.inl rfl))
   have hyn : nodeAt t (i : Int) = y.n := by unfold nodeAt; rw [Int.toNat_natCast]; exact h.i.tr.getD hy
   have k5 : w3.cell? ⟨g, 5, none⟩ = some (.slice (some ⟨b, o, none⟩) nvs.length c') := hS3.o.i.k.cell 5
   have hk0 : w3.cell? ⟨b, o + i * 12 + 0, none⟩ = some (.int .i64 y.n.kind) := (hF2.te hE3).cell (hcell 0 _ rfl) hbg
   rw [hyn]
   by_cases hk : y.n.kind = 1
   ·rw [if_pos hk]
    refine gz5 ?_
    exact tret1 rfl rfl ⟨rfl, _, _, hS3⟩
   ·rw [if_neg hk]
    refine gz5 ?_
    refine xcall rfl rfl (wrong_does w3 g _ vf _ _ nvs t p hS3.o.i) ?_
    rintro r w4 ⟨rfl, hE4⟩
    have hS4 := hS3.t (FsS.ext hS3.o hE4)
    by_cases e4 : wrongM t p = 0
    ·rw [if_neg (fun h => h e4), e4]
     refine goL ?_
     refine xcall rfl rfl (room_does w4 g _ vf _ _ nvs t p hS4.o.i) ?_
     rintro r w5 ⟨rfl, hE5⟩
     have hS5 := hS4.t (FsS.ext hS4.o hE5)
     by_cases e5 : roomM t p = 0
     ·rw [e5, if_pos rfl]
      refine goL ?_
      refine xcall rfl rfl (enter_does w5 B g _ vf _ _ nvs t p i hS5.o hil hl) ?_
      rintro r w6 ⟨rfl, ve6, nvs6, hS6⟩
      refine goL ?_
      exact tret1 rfl rfl ⟨rfl, _, _, hS5.t hS6⟩
     ·rw [if_neg e5]
      refine goL ?_
      exact tret1 rfl rfl ⟨rfl, _, _, hS5⟩
    ·rw [if_pos e4, if_neg e4]
     refine goL ?_
     exact tret1 rfl rfl ⟨rfl, _, _, hS4⟩
  ·rw [if_pos e1, if_neg e1]
   refine goL ?_
   exact tret1 rfl rfl ⟨rfl, _, _, hS3⟩
 ·rw [if_pos e, if_neg e]
  refine goL ?_
  exact tret1 rfl rfl ⟨rfl, _, _, hS2⟩
theorem set_does (w : World) (B g : Nat) (m : FsM) (vf ve vn : Value) (nvs : List NdV) (t : Tre) (p : Str) (fid : FuncId) (cap : Array Value) (ed : Nd → Int) (nd : Nd → Nd) (h : FsO w B g m vf ve vn nvs t) (hc : 0 ≤ m.calls ∧ m.calls ≤ 4000000000000000000) (hfid : bit m_cal fid = true) (hed : EdC w B g fid cap ed nd)
  (hL : ∀ n ∈ t.ns, ed n = 0 → NdL (nd n) ∧ bytesP (nd n).data ≤ 1000000) :
  Does Tryz.prog 77 #[.pointer (some ⟨g, 0, none⟩), .string (su p), .func (.func fid) #[] cap] w fun r w' => r = .int .i64 (setE m t p ed nd) ∧ ∃ nvs', FsS w B g vf ve vn nvs w' (begM m).2.2 (setT m t p ed nd) ve vn nvs' := by
 refine does3 Tryz.func77 rfl (by kernel_rfl) ?_
 have hlen := h.i.tr.len
 have hg := h.i.k.lt
 obtain ⟨A, c, rfl, hc1, hc2, _⟩ := h.i.tr.e.op enC_len
 refine goL ?_
 refine xcall rfl rfl (begin_does w g m vf _ A _ c h.i.k h.i.h h.i.f hc h.i.af) ?_
 rintro r w2 ⟨rfl, hB2, hF2⟩
 have hi2 := h.i.put hF2 hB2 (begM_flts m)
 have hS2 := FsS.put h hF2 hi2 (begM_flts m)
 unfold setT setE
 by_cases e : (begM m).2.1 = 0
 ·rw [if_neg (fun h => h e), e]
  refine goL ?_
  refine xcall rfl rfl (fsfind_does w2 g _ vf _ _ nvs t p hi2) ?_
  rintro r w3 ⟨rfl, hE3⟩
  have hS3 := hS2.t (FsS.ext hS2.o hE3)
  by_cases e1 : (findM t p).2 = 0
  ·rw [if_neg (fun h => h e1), e1]
   obtain ⟨i, hi, hil⟩ := find_range h.i.r e1
   rw [hi, Int.toNat_natCast]
   obtain ⟨gN, cN, rfl, hgN, hgN2, hcN, _, hcell⟩ := OwnZ.go h.o.n (by omega)
   obtain ⟨y, hy⟩ : ∃ y, nvs[i]? = some y := ⟨_, List.getElem?_eq_getElem (by omega)⟩
   have hyn : nodeAt t (i : Int) = y.n := by unfold nodeAt; rw [Int.toNat_natCast]; exact h.i.tr.getD hy
   rw [hyn]
   have hgg : gN ≠ g := h.i.a gN (.inr (.inl rfl))
   have k5 : w3.cell? ⟨g, 5, none⟩ = some (.slice (some ⟨gN, 0, none⟩) nvs.length cN) := hS3.o.i.k.cell 5
   have hyO := hS3.o.o.i y (List.mem_of_getElem? hy)
   have hF03 := hF2.te hE3
   refine gz22 ?_
   refine xldz (cs := ndC y) rfl (by kernel_rfl) (fun j u hu => hF03.cell (hcell _ u (flat_get ndC_len hy hu)) hgg) ?_
   refine goL ?_
   refine xalloc (z := .agg nd0) (by kernel_rfl) (fun w4 hB4 hE4 hs4 => ?_)
   refine goL ?_
   refine xsta hB4 rfl rfl (by kernel_rfl) rfl (one_cells (l := ndC y) (List.all_eq_true.2 (ndC_one hyO.in))) (fun w5 hB5 hF5 => ?_)
   have hE35 : Ext w3 w5 := hE4.trans hF5 fun j hj e => by have : j = w3.heap.size := e; omega
   have hS5 := hS3.t (FsS.ext hS3.o hE35)
   have z3 := hF03.size
   refine goL ?_
   refine xcallv (vs := [.pointer (some ⟨w3.heap.size, 0, none⟩)]) rfl rfl hfid (hed w5 w3.heap.size y (hF03.te hE35) z3 hB5 (hyO.ext hE35)) ?_
   rintro r w6 ⟨y', rfl, hyn', hB6, hO6, hbl, hF6⟩
   have hlt5 : ∀ b, b = g ∨ vf.ownBlock = some b ∨ TrK (.slice A t.es.length c) (.slice (some ⟨gN, 0, none⟩) nvs.length cN) nvs b → b < w3.heap.size := fun b hb => (hS3.o.blk hb).2
   have hE36 : Ext w3 w6 := hE35.trans hF6 fun j hj e => by have : j = w3.heap.size := e; omega
   have hS6 := hS3.t (FsS.ext hS3.o hE36)
   by_cases e6 : ed y.n = 0
   ·rw [if_neg (fun h => h e6), e6]
    have hyn6 := hyn' e6
    have hO6' := hO6 e6
    have hcm : ∀ j u, (mtC y')[j]? = some u → w6.cell? ⟨w3.heap.size, 1 + j, none⟩ = some u := fun j u hu => by
     rw [hB6.cell, List.getElem?_toArray]
     rcases j with _ | _ | _ | _ | _ | _ | j
     all_goals first | exact hu | simp [mtC] at hu
    refine goL ?_
    refine xldz (cs := mtC y') rfl (by kernel_rfl) hcm ?_
    refine goL ?_
    refine xcall rfl rfl (metamay_does w6 y' hO6'.in) ?_
    rintro r w7 ⟨rfl, hE7⟩
    rw [hyn6]
    have hS7 := hS6.t (FsS.ext hS6.o hE7)
    cases hmo : metaOK (nd y.n) with
    | false =>
     rw [if_pos rfl, if_neg (by decide)]
     refine goL ?_
     exact tret1 rfl rfl ⟨rfl, _, hS7⟩
    | true =>
     rw [if_neg (by decide), if_pos rfl]
     have hd := Fr.drew noneB w7
     have hS7d := hS7.t (FsS.ext hS7.o hd)
     have k5d : w7.drew.cell? ⟨g, 5, none⟩ = some (.slice (some ⟨gN, 0, none⟩) nvs.length cN) := hS7d.o.i.k.cell 5
     have hB7 := (hB6.ext hE7).ext hd
     have hO7 := (hO6'.ext hE7).ext hd
     refine goL ?_
     refine xlda (t := 67) hB7 rfl rfl ?_
     refine gz22 ?_
     refine xstow ndC_len i hS7d.o.o.n rfl rfl rfl (by kernel_rfl) (ndC_one hO7.in) (by omega) (fun w8 hO8 hF8 => ?_)
     have hF78 : Fr (FsK g (.slice A t.es.length c) (.slice (some ⟨gN, 0, none⟩) nvs.length cN)) w7.drew w8 := hF8.mono fun b _ hb => .inr (.inr (by have : b = gN := hb; rw [this]; rfl))
     have hnew : nd y.n ∈ t.ns.set i (nd y.n) := List.mem_iff_getElem?.2 ⟨i, by rw [List.getElem?_set_self (by omega)]⟩
     obtain ⟨hL1, hL2⟩ := hL y.n (List.mem_of_getElem? (h.i.tr.get hy)) e6
     have hxl : ∀ n ∈ t.ns.set i (nd y.n), n ∈ t.ns ∨ n = nd y.n := fun n hn => List.mem_or_eq_of_mem_set hn
     have hE37 : Ext w3 w7.drew := (hE36.t hE7).t hd
     have hS8 : FsS w3 B g vf (.slice A t.es.length c) (.slice (some ⟨gN, 0, none⟩) nvs.length cN) nvs w8 (begM m).2.2 ⟨t.es, t.ns.set i (nd y.n)⟩ (.slice A t.es.length c) (.slice (some ⟨gN, 0, none⟩) nvs.length cN) (nvs.set i y') :=
      ⟨hS7d.o.step hF78 rfl (hS7d.o.i.k.fr hF8 (fun e => hgg e.symm)) (hS7d.o.o.e.fr hF8 fun b hb e => hS7d.o.o.e.apart hS7d.o.o.n (by decide) hb (by have : b = gN := e; rw [this]; rfl)) hO8
       (fun x hx => (List.mem_or_eq_of_mem_set hx).elim (hS7d.o.o.i x) fun e => by rw [e]; exact hO7) (by rw [List.map_set, h.o.m, hyn6]) (by rw [List.length_set]; exact h.i.r) h.i.h
       (fun n hn => (hxl n hn).elim (h.i.l n) fun e => by rw [e]; exact hL1) (fun n hn => (hxl n hn).elim (h.i.s n) fun e => by rw [e]; exact hL2) h.i.le (by rw [List.length_set]; exact h.i.ln), hE37.fr.t hF78, fun _ hb => .inl hb, fun x hx b hb => ?_⟩
     ·refine goL ?_
      exact tret1 rfl rfl ⟨rfl, _, hS3.t hS8⟩
     ·rcases List.mem_or_eq_of_mem_set hx with hx | rfl
      ·exact .inl ⟨x, hx, hb⟩
      ·exact (hbl b hb).imp (fun hb => ⟨y, List.mem_of_getElem? hy, hb⟩) fun hb => by have := hE35.size; omega
   ·rw [if_pos e6, if_neg e6]
    refine goL ?_
    exact tret1 rfl rfl ⟨rfl, _, hS6⟩
  ·rw [if_pos e1, if_neg e1]
   exact y63
 ·rw [if_pos e, if_neg e]
  refine goL ?_
  exact tret1 rfl rfl ⟨rfl, _, hS2⟩
end
section
section
variable {hs : List Nat} {H : World → Prop} {full : Array Oper} {K : Env → World → Prop} {rest : List Oper} {env : Env} {w : World} {d : Tmp} {ty : TypeId} {pos : String} {af : Array Edge}
theorem xandn {t yt : TypeId} {x y : Operand} {k : IntKind} {a b : Int} (hx : evo env x = some (.int k a)) (hy : evo env y = some (.int k b)) (h : xs Tryz.prog isI isS hs H full K rest ((d, .int k (bits .andNot k a b)) :: env) w) :
  xs Tryz.prog isI isS hs H full K (⟨some d, .binOp .andNot t x y yt, ty, pos, af, none⟩ :: rest) env w := by
 refine x_bin hx hy (eqGuard_at_int ..) (fun w' => ?_) h
 rw [binOp_andNot, intBits_andNot]
 rfl
end
def clrM (z : Int) : Int := bits .andNot .i64 z 3584
def ownN (a b : Int) (n : Nd) : Nd := { n with uid := a, gid := b, mode := if n.kind = 1 then n.mode else clrM n.mode }
def modeN (a : Int) (n : Nd) : Nd := { n with mode := a }
attribute [local irreducible] xs T
theorem own1_does (w : World) (b b6 b7 : Nat) (y : NdV) (ua ub : Int) (hB : Blk w b 67 (ndC y).toArray) (h6 : w.cell? ⟨b6, 0, none⟩ = some (.int .i64 ua)) (h7 : w.cell? ⟨b7, 0, none⟩ = some (.int .i64 ub)) (hbb : ¬ b7 = b) :
  Does Tryz.prog 83 #[.pointer (some ⟨b, 0, none⟩), .pointer (some ⟨b6, 0, none⟩), .pointer (some ⟨b7, 0, none⟩)] w fun r w' => r = .int .i64 0 ∧ Blk w' b 67 (ndC ⟨ownN ua ub y.n, y.va, y.vc, y.vd⟩).toArray ∧ Fr (· = b) w w' := by
 refine does3 Tryz.func83 rfl (by kernel_rfl) ?_
 have hd := Fr.drew noneB w
 have k6 : w.drew.cell? ⟨b6, 0, none⟩ = some (.int .i64 ua) := h6
 have k7 : w.drew.cell? ⟨b7, 0, none⟩ = some (.int .i64 ub) := h7
 refine goL ?_
 refine tdrawH [8] (fun w' => w'.cell? ⟨b7, 0, none⟩ = some (.int .i64 ub)) (by kernel_rfl) (by decide +kernel) k7 ?_
 refine gz18 ?_
 refine xstb (hB.ext hd) rfl rfl (by kernel_rfl) rfl rfl (fun w1 hB1 hF1 => ?_) (fun w' hF => hF.cell k7 hbb)
 refine gz18 ?_
 refine xstb hB1 rfl rfl (by kernel_rfl) rfl rfl (fun w2 hB2 hF2 => ?_) (fun w' hF => hF.cell (hF1.cell k7 hbb) hbb)
 have hF02 : Fr (· = b) w w2 := ((show Ext w w.drew from hd).fr.t hF1).t hF2
 have q0 : w2.cell? ⟨b, 0, none⟩ = some (.int .i64 y.n.kind) := hB2.cell 0
 have q1 : w2.cell? ⟨b, 1, none⟩ = some (.int .i64 y.n.mode) := hB2.cell 1
 by_cases hk : y.n.kind = 1
 ·have e : ownN ua ub y.n = { y.n with uid := ua, gid := ub } := by unfold ownN; rw [if_pos hk]
  rw [e]
  refine goL ?_
  exact tret1 rfl rfl ⟨rfl, hB2, hF02⟩
 ·have e : ownN ua ub y.n = { y.n with uid := ua, gid := ub, mode := clrM y.n.mode } := by unfold ownN; rw [if_neg hk]
  rw [e]
  repeat' (first | refine xandn rfl rfl ?_ | refine go1L ?_ | fail)
  refine xstb hB2 rfl rfl (by kernel_rfl) rfl rfl (fun w3 hB3 hF3 => ?_)
  refine goL ?_
  exact tret1 rfl rfl ⟨rfl, hB3, hF02.t hF3⟩
theorem mode1_does (w : World) (b b6 : Nat) (y : NdV) (ua : Int) (hB : Blk w b 67 (ndC y).toArray) (h6 : w.cell? ⟨b6, 0, none⟩ = some (.int .i64 ua)) :
  Does Tryz.prog 84 #[.pointer (some ⟨b, 0, none⟩), .pointer (some ⟨b6, 0, none⟩)] w fun r w' => r = .int .i64 0 ∧ Blk w' b 67 (ndC ⟨modeN ua y.n, y.va, y.vc, y.vd⟩).toArray ∧ Fr (· = b) w w' := by
 refine does2 Tryz.func84 rfl (by kernel_rfl) ?_
 refine goL ?_
 refine xstb hB rfl rfl (by kernel_rfl) rfl rfl (fun w1 hB1 hF1 => ?_)
 refine goL ?_
 exact tret1 rfl rfl ⟨rfl, hB1, hF1⟩
theorem time1_does (w : World) (b b6 : Nat) (y : NdV) (ua : Int) (hB : Blk w b 67 (ndC y).toArray) (h6 : w.cell? ⟨b6, 0, none⟩ = some (.int .i64 ua)) :
  Does Tryz.prog 78 #[.pointer (some ⟨b, 0, none⟩), .pointer (some ⟨b6, 0, none⟩)] w fun r w' => r = .int .i64 0 ∧ Blk w' b 67 (ndC ⟨timeN y.n ua, y.va, y.vc, y.vd⟩).toArray ∧ Fr (· = b) w w' := by
 refine does2 Tryz.func78 rfl (by kernel_rfl) ?_
 refine goL ?_
 refine xstb hB rfl rfl (by kernel_rfl) rfl rfl (fun w1 hB1 hF1 => ?_)
 refine goL ?_
 exact tret1 rfl rfl ⟨rfl, hB1, hF1⟩
theorem edC_of {w0 : World} {B g : Nat} {fid : FuncId} {cap : Array Value} {d : Nd → Nd} (ha : ∀ n, (d n).attrs = n.attrs ∧ (d n).acl = n.acl ∧ (d n).data = n.data)
  (h : ∀ (w : World) (b : Nat) (y : NdV), Fr (· = g) w0 w → w0.heap.size ≤ b → Blk w b 67 (ndC y).toArray → Does Tryz.prog fid (#[.pointer (some ⟨b, 0, none⟩)] ++ cap) w fun r w' => r = .int .i64 0 ∧ Blk w' b 67 (ndC ⟨d y.n, y.va, y.vc, y.vd⟩).toArray ∧ Fr (· = b) w w') : EdC w0 B g fid cap (fun _ => 0) d := fun w b y hF hb hB hO => by
 refine Does.mono (h w b y hF hb hB) fun r w' ⟨h1, h2, h3⟩ => ⟨_, h1, fun _ => rfl, h2, fun _ => ?_, fun b' hb' => .inl hb', h3⟩
 obtain ⟨h4, h5, h6⟩ := ha y.n
 have hO' : NdO w B ⟨d y.n, y.va, y.vc, y.vd⟩ := ⟨by rw [h4]; exact hO.a, by rw [h5]; exact hO.c, by rw [h6]; exact hO.d⟩
 exact hO'.fr h3 fun b' hb' => hO'.ne hB (by decide) (by decide) (by decide) hb'
theorem own_does (w : World) (B g : Nat) (m : FsM) (vf ve vn : Value) (nvs : List NdV) (t : Tre) (p : Str) (ua ub : Int) (h : FsO w B g m vf ve vn nvs t) (hc : 0 ≤ m.calls ∧ m.calls ≤ 4000000000000000000) :
  Does Tryz.prog 37 #[.pointer (some ⟨g, 0, none⟩), .string (su p), .int .i64 ua, .int .i64 ub] w fun r w' => r = .int .i64 (setE m t p (fun _ => 0) (ownN ua ub)) ∧ ∃ nvs', FsS w B g vf ve vn nvs w' (begM m).2.2 (setT m t p (fun _ => 0) (ownN ua ub)) ve vn nvs' := by
 refine does4 Tryz.func37 rfl (by kernel_rfl) ?_
 have hg := h.i.k.lt
 refine goL ?_
 refine xbox rfl (fun w1 hB1 hE1 hs1 => ?_)
 refine goL ?_
 refine xbox rfl (fun w2 hB2 hE2 hs2 => ?_)
 have hE02 : Ext w w2 := hE1.t hE2
 have z1 := hE1.size
 have k6 := (Blk.ext hB1 hE2)
 refine gz16 ?_
 refine xcall rfl rfl (set_does w2 B g m vf ve vn nvs t p 83 #[.pointer (some ⟨w.heap.size, 0, none⟩), .pointer (some ⟨w1.heap.size, 0, none⟩)] (fun _ => 0) (ownN ua ub) (h.ext hE02) hc (by kernel_rfl)
  (edC_of (fun n => ⟨rfl, rfl, rfl⟩) fun w' b y hF hb hB => own1_does w' b w.heap.size w1.heap.size y ua ub hB ((k6.fr hF (show ¬ w.heap.size = g by omega)).cell 0) ((Blk.fr hB2 hF (show ¬ w1.heap.size = g by omega)).cell 0) (by omega))
  (fun n hn _ => ⟨⟨(h.i.l n hn).a, (h.i.l n hn).c, (h.i.l n hn).d⟩, h.i.s n hn⟩)) ?_
 rintro r w3 ⟨rfl, nvs', hS3⟩
 refine goL ?_
 exact tret1 rfl rfl ⟨rfl, nvs', (FsS.ext h hE02).t hS3⟩
theorem mode_does (w : World) (B g : Nat) (m : FsM) (vf ve vn : Value) (nvs : List NdV) (t : Tre) (p : Str) (ua : Int) (h : FsO w B g m vf ve vn nvs t) (hc : 0 ≤ m.calls ∧ m.calls ≤ 4000000000000000000) :
  Does Tryz.prog 38 #[.pointer (some ⟨g, 0, none⟩), .string (su p), .int .i64 ua] w fun r w' => r = .int .i64 (setE m t p (fun _ => 0) (modeN ua)) ∧ ∃ nvs', FsS w B g vf ve vn nvs w' (begM m).2.2 (setT m t p (fun _ => 0) (modeN ua)) ve vn nvs' := by
 refine does3 Tryz.func38 rfl (by kernel_rfl) ?_
 have hg := h.i.k.lt
 refine goL ?_
 refine xbox rfl (fun w1 hB1 hE1 hs1 => ?_)
 refine gz16 ?_
 refine xcall rfl rfl (set_does w1 B g m vf ve vn nvs t p 84 #[.pointer (some ⟨w.heap.size, 0, none⟩)] (fun _ => 0) (modeN ua) (h.ext hE1) hc (by kernel_rfl)
  (edC_of (fun n => ⟨rfl, rfl, rfl⟩) fun w' b y hF hb hB => mode1_does w' b w.heap.size y ua hB ((Blk.fr hB1 hF (show ¬ w.heap.size = g by omega)).cell 0))
  (fun n hn _ => ⟨⟨(h.i.l n hn).a, (h.i.l n hn).c, (h.i.l n hn).d⟩, h.i.s n hn⟩)) ?_
 exact y38
theorem time_does (w : World) (B g : Nat) (m : FsM) (vf ve vn : Value) (nvs : List NdV) (t : Tre) (p : Str) (ua : Int) (h : FsO w B g m vf ve vn nvs t) (hc : 0 ≤ m.calls ∧ m.calls ≤ 4000000000000000000) :
  Does Tryz.prog 33 #[.pointer (some ⟨g, 0, none⟩), .string (su p), .int .i64 ua] w fun r w' => r = .int .i64 (setE m t p (fun _ => 0) (fun n => timeN n ua)) ∧ ∃ nvs', FsS w B g vf ve vn nvs w' (begM m).2.2 (setT m t p (fun _ => 0) (fun n => timeN n ua)) ve vn nvs' := by
 refine does3 Tryz.func33 rfl (by kernel_rfl) ?_
 have hg := h.i.k.lt
 refine goL ?_
 refine xbox rfl (fun w1 hB1 hE1 hs1 => ?_)
 refine gz16 ?_
 refine xcall rfl rfl (set_does w1 B g m vf ve vn nvs t p 78 #[.pointer (some ⟨w.heap.size, 0, none⟩)] (fun _ => 0) (fun n => timeN n ua) (h.ext hE1) hc (by kernel_rfl)
  (edC_of (fun n => ⟨rfl, rfl, rfl⟩) fun w' b y hF hb hB => time1_does w' b w.heap.size y ua hB ((Blk.fr hB1 hF (show ¬ w.heap.size = g by omega)).cell 0))
  (fun n hn _ => ⟨⟨(h.i.l n hn).a, (h.i.l n hn).c, (h.i.l n hn).d⟩, h.i.s n hn⟩)) ?_
 exact y38
end
section
open Wr
attribute [local irreducible] xs T
theorem has_does (w : World) (v : Value) (p : Ext2) (a : Int) (hv : Rw exC w v [p]) (h1 : 0 < p.2) (h2 : p.1 + p.2 ≤ 1099511627776) : Does Tryz.prog 137 #[v, .int .i64 a] w fun r w' => r = .bool (decide ((p.1 : Int) ≤ a ∧ a < (p.1 : Int) + p.2)) ∧ Ext w w' := by
 refine does2 Tryz.func137 rfl (by kernel_rfl) ?_
 refine goL ?_
 refine xcallE rfl rfl (normX_does w v [p] hv (fun x hx => by rw [List.mem_singleton.1 hx]; exact ⟨h1, h2⟩) (by simp) (by simp)) (fun r w1 hr => ?_)
 obtain ⟨⟨s, hs, _, hO⟩, hE1⟩ := hr
 have hs : s = [p] := List.perm_singleton.1 hs
 subst hs
 have hO' : Ow exC 1 w1 w.heap.size 156 r [p] := hO
 obtain ⟨A, c, rfl, _, _, hA⟩ := hO'.rw.op exC_len
 obtain ⟨b, o, q, rfl, _, hq, _, hcell⟩ := hA.at_ (i := 0) (by simp)
 obtain rfl : p = q := by simpa using hq
 have k0 := hcell 0 _ rfl
 rw [Nat.mul_one, Nat.add_zero] at k0
 refine goL ?_
 refine tloop (α := Nat) (fun i => [(1, .int .i64 a), (8, .slice (some ⟨b, o, none⟩) 1 c), (9, .int .i64 1), (10, .int .i64 (i : Int))]) (fun i w' => Ext w1 w' ∧ i ≤ 1 ∧ (i = 1 → ¬ ((p.1 : Int) ≤ a ∧ a < (p.1 : Int) + p.2))) (fun i => 1 - i) 0 (sub ⟨rfl, rfl, rfl, rfl⟩) ⟨Fr.refl _ _, by omega, fun h => absurd h (by decide)⟩ ?_
 rintro i w2 ⟨hE2, hi, hno⟩
 by_cases hlt : i < 1
 ·obtain rfl : i = 0 := by omega
  have k2 := hE2.cell k0
  repeat' (first | refine xisq 0 (o + 0) rfl rfl rfl rfl rfl (by omega) ?_ | refine xldc rfl k2 ?_ | refine go1L ?_ | fail)
  refine xcallE rfl rfl (exat_does w2 p.1 p.2 (by omega)) (fun r w3 h3 => ?_)
  obtain ⟨rfl, rfl⟩ := h3
  by_cases g1 : (p.1 : Int) ≤ a
  ·refine goL ?_
   refine xcallE rfl rfl (exend_does w2 p.1 p.2 (by omega) (by omega)) (fun r w3 h3 => ?_)
   obtain ⟨rfl, rfl⟩ := h3
   by_cases g2 : a < (p.1 : Int) + p.2
   ·refine goL ?_
    exact tret1 rfl rfl ⟨by rw [decide_eq_true ⟨g1, g2⟩], hE1.t hE2⟩
   ·refine goL ?_
    exact tfin ⟨1, sub ⟨rfl, rfl, rfl, rfl⟩, ⟨hE2, by omega, fun _ h => g2 h.2⟩, (by show 1 - 1 < 1 - 0; omega)⟩
  ·refine goL ?_
   exact tfin ⟨1, sub ⟨rfl, rfl, rfl, rfl⟩, ⟨hE2, by omega, fun _ h => g1 h.1⟩, (by show 1 - 1 < 1 - 0; omega)⟩
 ·obtain rfl : i = 1 := by omega
  refine goL ?_
  exact tret1 rfl rfl ⟨by rw [decide_eq_false (hno rfl)], hE1.t hE2⟩
theorem isFile_does (w : World) (x : NdV) (hx : NdIn w x) (hb : bytesP x.n.data ≤ 1000000) : Does Tryz.prog 130 #[.agg (ndC x).toArray] w fun r w' => r = .bool (decide (x.n.kind = 2) && nodeOK x.n) ∧ Ext w w' := by
 refine does1 Tryz.func130 rfl (by kernel_rfl) ?_
 refine goL ?_
 refine xbox rfl (fun w1 hB1 hE1 hs1 => ?_)
 have hB : Blk w1 w.heap.size 67 (ndC x).toArray := hB1
 have q0 : w1.cell? ⟨w.heap.size, 0, none⟩ = some (.int .i64 x.n.kind) := hB.cell 0
 by_cases hk : x.n.kind = 2
 ·refine goL ?_
  refine xlda (t := 67) hB rfl rfl ?_
  refine goL ?_
  refine xcallE rfl rfl (nodemay_does w1 x (hx.ext hE1) hb) (fun r w2 h2 => ?_)
  obtain ⟨rfl, hE2⟩ := h2
  refine goL ?_
  exact tret1 rfl rfl ⟨by rw [decide_eq_true hk, Bool.true_and], hE1.t hE2⟩
 ·refine goL ?_
  exact tret1 rfl rfl ⟨by rw [decide_eq_false hk, Bool.false_and], hE1⟩
theorem ncopy_does (w : World) (x : NdV) (hx : NdIn w x) (hL : NdL x.n) : Does Tryz.prog 131 #[.agg (ndC x).toArray] w fun r w' => ∃ x', r = .agg (ndC x').toArray ∧ NdO w' w.heap.size x' ∧ x'.n = x.n ∧ Ext w w' := by
 refine does1 Tryz.func131 rfl (by kernel_rfl) ?_
 obtain ⟨A3, c3, hvd, _, _, _⟩ := hx.d.op pcC_len
 refine goL ?_
 refine xbox rfl (fun w1 hB1 hE1 hs1 => ?_)
 refine goL ?_
 refine xalloc (z := .agg nd0) (by kernel_rfl) (fun w2 hB2 hE2 hs2 => ?_)
 have hB : Blk w2 w.heap.size 67 (ndC x).toArray := Blk.ext hB1 hE2
 have hE02 : Ext w w2 := hE1.t hE2
 have hcell : ∀ j u, (mtC x)[j]? = some u → w2.cell? ⟨w.heap.size, 1 + j, none⟩ = some u := fun j u hu => by
  rw [hB.cell, List.getElem?_toArray]
  rcases j with _ | _ | _ | _ | _ | _ | j
  all_goals first | exact hu | simp [mtC] at hu
 refine goL ?_
 refine xldz (cs := mtC x) rfl (by kernel_rfl) hcell ?_
 have hx2 := hx.ext hE02
 refine xcallE rfl rfl (metacopy_does w2 x hx2.a hx2.c hL.a hL.c) (fun r w3 h3 => ?_)
 obtain ⟨va, vc, rfl, hOa, hOc, hE3⟩ := h3
 obtain ⟨A1, c1, rfl, _, _⟩ := hOa.form
 obtain ⟨A2, c2, rfl, _, _⟩ := hOc.form
 have hB3 := hB.ext hE3
 refine goL ?_
 refine xstk (q := 1) (vs := mtC ⟨x.n, .slice A1 x.n.attrs.length c1, .slice A2 x.n.acl.length c2, x.vd⟩) (nw := (ndC ⟨x.n, .slice A1 x.n.attrs.length c1, .slice A2 x.n.acl.length c2, x.vd⟩).toArray) hB3 rfl rfl (by kernel_rfl) (by show 7 ≤ 12; omega) (fun u hu => by
  simp only [mtC, List.mem_cons, List.not_mem_nil, or_false] at hu
  rcases hu with rfl | rfl | rfl | rfl | rfl | rfl <;> rfl) rfl (fun w4 hB4 hF4 => ?_)
 have k8 : w4.cell? ⟨w.heap.size, 8, none⟩ = some (.slice A3 x.n.data.length c3) := by rw [← hvd]; exact hB4.cell 8
 have z1 := hE1.size; have z2 := hE2.size; have z3 := hE3.size; have z4 := hF4.size
 have hE04 : Ext w w4 := (hE02.t hE3).trans hF4 fun j hj e => by have : j = w.heap.size := e; omega
 have hd4 := hx.d.ext hE04
 rw [hvd] at hd4
 refine goL ?_
 refine xapz (B := w4.heap.size) (news := x.n.data.flatMap pcC) sl_pcs rfl (by decide) rfl (OwnZ.nil _ _ _ _) rfl hd4 (flat_len pcC_len _) (pcC_one _) (by have := hL.d; unfold maxLen; omega) (by have := hL.d; omega) (Nat.le_refl _) (fun v5 w5 hO5 hF5 _ => ?_)
 have hE5 : Ext w4 w5 := hF5.mono fun _ _ h => by cases h
 rw [Nat.zero_add] at hO5
 obtain ⟨B3, d3, rfl, _, _⟩ := hO5.form
 refine goL ?_
 refine xstb (Blk.ext hB4 hE5) rfl rfl (by kernel_rfl) rfl rfl (fun w6 hB6 hF6 => ?_)
 have hB6' : Blk w6 w.heap.size 67 (ndC ⟨x.n, .slice A1 x.n.attrs.length c1, .slice A2 x.n.acl.length c2, .slice B3 x.n.data.length d3⟩).toArray := by
  simp only [Nat.zero_add] at hB6
  exact hB6
 have z5 := hE5.size; have z6 := hF6.size
 have hE06 : Ext w w6 := (hE04.t hE5).trans hF6 fun j hj e => by have : j = w.heap.size := e; omega
 refine goL ?_
 refine xlda (t := 67) hB6' rfl rfl ?_
 have hR6 := ((Blk.ext hB2 hE3).fr hF4 (show ¬ w1.heap.size = w.heap.size by omega)).ext hE5 |>.fr hF6 (show ¬ w1.heap.size = w.heap.size by omega)
 refine goL ?_
 refine xsta hR6 rfl rfl (by kernel_rfl) rfl (one_cells (l := ndC ⟨x.n, .slice A1 x.n.attrs.length c1, .slice A2 x.n.acl.length c2, .slice B3 x.n.data.length d3⟩) rfl) (fun w7 hB7 hF7 => ?_)
 have hOa' := (((hOa.fr hF4 fun b hb => by have := (hOa.blk hb).1; show ¬ b = w.heap.size; omega).ext hE5).fr hF6 fun b hb => by have := (hOa.blk hb).1; show ¬ b = w.heap.size; omega).fr hF7 fun b hb => by have := (hOa.blk hb).1; show ¬ b = w1.heap.size; omega
 have hOc' := (((hOc.fr hF4 fun b hb => by have := (hOc.blk hb).1; show ¬ b = w.heap.size; omega).ext hE5).fr hF6 fun b hb => by have := (hOc.blk hb).1; show ¬ b = w.heap.size; omega).fr hF7 fun b hb => by have := (hOc.blk hb).1; show ¬ b = w1.heap.size; omega
 have hOd' := (hO5.fr hF6 fun b hb => by have := (hO5.blk hb).1; show ¬ b = w.heap.size; omega).fr hF7 fun b hb => by have := (hO5.blk hb).1; show ¬ b = w1.heap.size; omega
 refine goL ?_
 exact tretc rfl rfl hB7 (by kernel_rfl) ⟨_, rfl, ⟨hOa'.mono (by omega), hOc'.mono (by omega), OwnZ.mono hOd' (by omega)⟩, rfl, hE06.trans hF7 fun j hj e => by have : j = w1.heap.size := e; omega⟩
end
section
open Wr
def byC (l : Str) : List Value := l.map fun x => .int .u8 (x.toNat : Int)
theorem byC_len (l : Str) : (byC l).length = l.length := by simp [byC]
theorem byC_one (l : Str) : ∀ u ∈ byC l, u.oneCell' = true := fun u hu => by
 obtain ⟨x, _, rfl⟩ := List.mem_map.1 hu; rfl
theorem byC_ovr (r : Str) (k : Nat) (d : Str) (hk : k ≤ r.length) : (byC r).take k ++ byC (d.take (r.length - k)) ++ (byC r).drop (k + (d.take (r.length - k)).length) = byC (ovr r k d) := by
 have e : byC (ovr r k d) = (byC r).take k ++ byC (d.take (r.length - k)) ++ (byC r).drop (k + d.length) := by unfold byC ovr; simp only [List.map_append, List.map_take, List.map_drop]
 rw [e]
 congr 1
 rw [List.length_take]
 by_cases h : r.length - k ≤ d.length
 ·rw [Nat.min_eq_left h, List.drop_eq_nil_of_le (by rw [byC_len]; omega), List.drop_eq_nil_of_le (by rw [byC_len]; omega)]
 ·rw [Nat.min_eq_right (by omega)]
theorem byC_zero (n : Nat) : (Array.replicate n (Value.int .u8 0)) = (byC (List.replicate n 0)).toArray := by
 unfold byC
 rw [List.map_replicate]
 simp
theorem sl_u8 : SlT 84 5 (.int .u8 0) 1 1 := slT Tryz.underlying84 (by kernel_rfl)
theorem nums_su (l : Str) : strOfNums (l.map fun x => (x.toNat : Int)) = su l := by
 unfold strOfNums su
 rw [List.map_map]
 congr 2
 conv => rhs; rw [← List.map_id l]
 exact List.map_congr_left fun x _ => by simp
section
variable {hs : List Nat} {H : World → Prop} {full : Array Oper} {K : Env → World → Prop} {rest : List Oper} {env : Env} {w : World} {d : Tmp} {dst : Option Tmp} {ty : TypeId} {pos : String} {af : Array Edge}
theorem xcps {sT : TypeId} {g k n c : Nat} {r s : Str} {x y : Operand} (hB : Blk w g 5 (byC r).toArray) (hx : evo env x = some (.slice (some ⟨g, k, none⟩) n c)) (hy : evo env y = some (.string (su s))) (hn : n = r.length - k) (hk : k ≤ r.length)
  (h : ∀ w', Blk w' g 5 (byC (ovr r k s)).toArray → Fr (· = g) w w' → xs Tryz.prog isI isS hs H full K rest (put env dst (goInt (min s.length n))) w') (hH : ∀ w', Fr (· = g) w w' → H w' := by intros; trivial) :
  xs Tryz.prog isI isS hs H full K (⟨dst, .call { callee := .builtin .copy, args := ⟨[x, y]⟩, argTypes := ⟨[84, sT]⟩ }, ty, pos, af, none⟩ :: rest) env w := by
 obtain ⟨hu, i, hi, hz, hs1, hby⟩ := sl_u8
 obtain ⟨cs, hcs⟩ : ∃ cs, cs = byC (s.take (r.length - k)) := ⟨_, rfl⟩
 have hl : cs.length = min s.length n := by rw [hcs, byC_len, List.length_take, hn]; omega
 have hr := run_storeCells_at (P := Tryz.prog) g k 5 cs 0 (byC r).toArray w hB (by rw [Nat.add_zero, hl, List.size_toArray, byC_len]; omega) (hcs ▸ byC_one _)
 rw [Nat.add_zero] at hr
 have hov := byC_ovr r k s hk
 have hle : (s.take (r.length - k)).length = cs.length := by rw [hcs, byC_len]
 rw [← hcs, hle] at hov
 have hnw : ((byC r).toArray.toList.take k ++ cs ++ (byC r).toArray.toList.drop (k + cs.length)).toArray = (byC (ovr r k s)).toArray := by rw [← hov]
 rw [hnw] at hr
 have hF : Fr (· = g) w (w.setRow g (byC (ovr r k s)).toArray) := ⟨rfl, rfl, rfl, by simp [World.setRow], fun k hk hn => by simp only [World.setRow, Array.getElem?_modify]; rw [if_neg (fun e => hn e.symm)]⟩
 have hN : Blk (w.setRow g (byC (ovr r k s)).toArray) g 5 (byC (ovr r k s)).toArray := by
  unfold Blk at hB ⊢
  simp [World.setRow, Array.getElem?_modify, hB]
 have htk : List.take (min s.length n) (List.map (fun b : UInt8 => Value.int IntKind.u8 (b.toNat : Int)) s) = cs := by
  rw [hcs, hn]
  unfold byC
  rw [List.map_take]
  by_cases h : r.length - k ≤ s.length
  ·rw [Nat.min_eq_right h]
  ·rw [Nat.min_eq_left (by omega), List.take_of_length_le (by rw [List.length_map]; exact Nat.le_refl _), List.take_of_length_le (by rw [List.length_map]; omega)]
 have hmin : Nat.min s.length n = min s.length n := rfl
 have hsz : (su s).size = s.length := su_size s
 have hdt : (su s).data.toList = s := by simp [su]
 have hrun : (Builtin.copy_ #[84, sT] ty #[.slice (some ⟨g, k, none⟩) n c, .string (su s)]).run Tryz.prog w = .ok (goInt (min s.length n)) (w.setRow g (byC (ovr r k s)).toArray) := by
  simp only [Builtin.copy_, Builtin.lenOf, Builtin.firstCells]
  simp [run_underlying hu, sizeOf, typeInfo, hi, hmin, hsz, hdt]
  rw [htk, hr]
  simp [Result.andThen]
  congr 1; omega
 refine xw (v := goInt (min s.length n)) (w' := w.setRow g (byC (ovr r k s)).toArray) (by simp [opsOK, Op.operands, Call.operands, hx, hy]) rfl ?_ (h _ hN hF) (hH _ hF)
 simp [execOp, resolve, invoke, builtin, ev_of hx, ev_of hy, hrun]
theorem xfld8 {x : Operand} {cs : Array Value} {v : Value} (hx : evo env x = some (.agg cs)) (hv : cs[8]? = some v)
  (h : xs Tryz.prog isI isS hs H full K rest ((d, v) :: env) w) : xs Tryz.prog isI isS hs H full K (⟨some d, .field 67 x 3, ty, pos, af, none⟩ :: rest) env w := by
 refine x_gen rfl (by simp [opsOK, Op.operands, hx]) ⟨v, fun w' => ?_, h⟩
 have hag : (isAgg 65).run Tryz.prog w' = .ok false w' := by
  unfold isAgg
  simp only [Sem.run_bind, run_underlying Tryz.underlying65, Result.andThen_ok]
  simp
 simp [execOp, ev_of hx, Instr.field, run_underlying Tryz.underlying67, asAgg, part, hag, hv]
theorem xcbu {x : Operand} {g n : Nat} {r : Str} (hB : Blk w g 5 (byC r).toArray) (hx : evo env x = some (.slice (some ⟨g, 0, none⟩) n n)) (hn : n = r.length) (hm : n ≤ maxLen)
  (h : xs Tryz.prog isI isS hs H full K rest ((d, .string (su r)) :: env) w) (hm1 : memb hs (some d) = false := by rfl) : xs Tryz.prog isI isS hs H full K (⟨some d, .convert 84 9 x, ty, pos, af, none⟩ :: rest) env w := by
 refine xcbs (zs := r.map fun x => (x.toNat : Int)) hx ?_ (by rw [nums_su]; exact h) hm1
 unfold BRow
 rw [List.map_map, List.length_map, ← hn]
 exact blk_row hB hm (by simp [byC])
end
end
section
open Wr
attribute [local irreducible] xs T
theorem cut_step {p : Pce} {r : List Pce} {size : Int} (h0 : 0 ≤ p.pos) (hd : p.data ≠ []) (h : p.pos < size) : clipP (p :: r) 0 size = ⟨p.pos, p.data.take (min (p.data.length : Int) (size - p.pos)).toNat⟩ :: clipP r 0 size := by
 have hl := List.length_pos_iff.2 hd
 have he : endP p = p.pos + (p.data.length : Int) := rfl
 have e : clip1 0 size p = some ⟨p.pos, p.data.take (min (p.data.length : Int) (size - p.pos)).toNat⟩ := by
  unfold clip1
  rw [if_pos (by omega), show max 0 p.pos = p.pos from by omega, show (p.pos - p.pos).toNat = 0 from by omega, List.drop_zero, show min size (endP p) - p.pos = min (p.data.length : Int) (size - p.pos) from by omega]
 unfold clipP
 rw [List.filterMap_cons, e]
theorem cut_stop {size : Int} : ∀ {l : List Pce}, (∀ p ∈ l, size ≤ p.pos) → clipP l 0 size = []
 | [], _ => rfl
 | p :: r, h => by
  have hp := h p (by simp)
  have e : clip1 0 size p = none := by unfold clip1; rw [if_neg (by omega)]
  unfold clipP
  rw [List.filterMap_cons, e]
  exact cut_stop fun q hq => h q (by simp [hq])
def CutR (w : World) (x : NdV) (size : Int) (r : Value) (w' : World) : Prop :=
 ∃ x', r = .tuple #[.agg (ndC x').toArray, .int .i64 (cutN x.n size).2] ∧ x'.n = (cutN x.n size).1 ∧ NdIn w' x' ∧ ((cutN x.n size).2 = 0 → NdO w' w.heap.size x') ∧ Ext w w'
structure CuS (Wb : World) (g : Nat) (fin : Nd) (va vc : Value) (L : List Pce) (size : Int) (x : Nat × Value × List Pce) (w' : World) : Prop where
 i : x.1 ≤ L.length
 b : Blk w' g 67 (ndC ⟨fin, va, vc, x.2.1⟩).toArray
 d : Ow pcC 2 w' Wb.heap.size 134 x.2.1 x.2.2
 n : x.2.2.length ≤ x.1
 f : Fr (· = g) Wb w'
 m : clipP L 0 size = x.2.2 ++ clipP (L.drop x.1) 0 size
theorem ncut_does (w : World) (x : NdV) (size : Int) (hx : NdIn w x) (hL : NdL x.n) (hb : bytesP x.n.data ≤ 1000000) : Does Tryz.prog 88 #[.agg (ndC x).toArray, .int .i64 size] w (CutR w x size) := by
 refine does2 Tryz.func88 rfl (by kernel_rfl) ?_
 unfold CutR
 refine goL ?_
 refine xbox rfl (fun w1 hB1 hE1 hs1 => ?_)
 refine goL ?_
 refine xalloc (z := .agg nd0) (by kernel_rfl) (fun w2 hB2 hE2 hs2 => ?_)
 have hB : Blk w2 w.heap.size 67 (ndC x).toArray := Blk.ext hB1 hE2
 have hE02 : Ext w w2 := hE1.t hE2
 have z1 := hE1.size; have z2 := hE2.size
 refine goL ?_
 refine xlda (t := 67) hB rfl rfl ?_
 refine goL ?_
 refine xcallE rfl rfl (isFile_does w2 x (hx.ext hE02) hb) (fun r w3 h3 => ?_)
 obtain ⟨rfl, hE3⟩ := h3
 have hB3 := hB.ext hE3
 have hR3 := Blk.ext hB2 hE3
 have hE03 := hE02.t hE3
 have hx3 := hx.ext hE03
 have z3 := hE3.size
 have hone : ∀ {w : World} {y : NdV}, NdIn w y → ∀ u ∈ ndC y, u.oneCell' = true := fun h => ndC_one h
 by_cases bad : nodeOK x.n = false ∨ x.n.kind ≠ 2 ∨ size < 0 ∨ 1099511627776 < size
 ·have hw : cutN x.n size = (x.n, 1) := by unfold cutN; rw [if_pos bad]
  rw [hw]
  have hgo : (decide (x.n.kind = 2) && nodeOK x.n) = false ∨ ((decide (x.n.kind = 2) && nodeOK x.n) = true ∧ (size < 0 ∨ 1099511627776 < size)) := by
   cases h1 : nodeOK x.n with
   | false => left; simp
   | true =>
    by_cases h2 : x.n.kind = 2
    ·right; refine ⟨by simp [h2], ?_⟩; rcases bad with h | h | h
     ·rw [h1] at h; cases h
     ·exact absurd h2 h
     ·exact h
    ·left; simp [h2]
  rcases hgo with hgo | ⟨hgo, hgp⟩
  ·rw [hgo]
   refine goL ?_
   exact y0
  ·rw [hgo]
   rcases hgp with hgp | hgp
   ·refine goL ?_
    exact y0
   ·refine goL ?_
    exact y0
 have hnk : nodeOK x.n = true := by cases h : nodeOK x.n with
  | true => rfl
  | false => exact absurd (.inl h) bad
 have hk2 : x.n.kind = 2 := by
  by_cases h : x.n.kind = 2
  ·exact h
  ·exact absurd (.inr (.inl h)) bad
 have hp0 : 0 ≤ size := by
  by_cases h : 0 ≤ size
  ·exact h
  ·exact absurd (.inr (.inr (.inl (by omega)))) bad
 have hp1 : size ≤ 1099511627776 := by
  by_cases h : size ≤ 1099511627776
  ·exact h
  ·exact absurd (.inr (.inr (.inr (by omega)))) bad
 rw [show (decide (x.n.kind = 2) && nodeOK x.n) = true from by rw [hk2, hnk]; rfl]
 have hfo : fileOK x.n = true := node_file hnk hk2
 obtain ⟨f1, f2, f3, f4, f5, f6⟩ := (file_iff x.n).1 hfo
 obtain ⟨fin, hfin⟩ : ∃ fin : Nd, fin = { x.n with data := clipP x.n.data 0 size, size := size } := ⟨_, rfl⟩
 have hwr : cutN x.n size = (fin, 0) := by unfold cutN; rw [if_neg bad, hfin]
 rw [hwr]
 refine goL ?_
 refine xlda (t := 67) hB3 rfl rfl ?_
 refine goL ?_
 refine xcallE rfl rfl (ncopy_does w3 x hx3 hL) (fun r w4 h4 => ?_)
 obtain ⟨⟨n1, va1, vc1, vd1⟩, rfl, hO4, hxn, hE4⟩ := h4
 dsimp only at hxn
 subst hxn
 have hB4 := hB3.ext hE4
 have hR4 := hR3.ext hE4
 have hE04 := hE03.t hE4
 have z4 := hE4.size
 refine goL ?_
 refine xalloc (z := .agg nd0) (by kernel_rfl) (fun w5 hB5 hE5 hs5 => ?_)
 refine goL ?_
 refine xsta hB5 rfl rfl (by kernel_rfl) rfl (one_cells (l := ndC ⟨x.n, va1, vc1, vd1⟩) (List.all_eq_true.2 (hone hO4.in))) (fun w6 hB6 hF6 => ?_)
 have z5 := hE5.size; have z6 := hF6.size
 refine goL ?_
 refine xstb hB6 rfl rfl (by kernel_rfl) rfl rfl (fun w11 hB11 hF11 => ?_)
 refine goL ?_
 refine xstb hB11 rfl rfl (by kernel_rfl) rfl rfl (fun w12 hB12 hF12 => ?_)
 have hB12' : Blk w12 w4.heap.size 67 (ndC ⟨fin, va1, vc1, .slice none 0 0⟩).toArray := by rw [hfin]; exact hB12
 have hE412 : Ext w4 w12 := hE5.trans ((hF6.t hF11).t hF12) fun j hj e => by have : j = w4.heap.size := e; omega
 have hE012 := hE04.t hE412
 have hB12n := hB4.ext hE412
 have z12 := hE412.size
 have hlt4 := hB12'.lt
 obtain ⟨L, hLd⟩ : ∃ L, L = x.n.data := ⟨_, rfl⟩
 obtain ⟨AL, cL, evd, hcL, hcL', hAL⟩ := (hx.d.ext hE012).op pcC_len
 rw [← hLd] at hAL f3 f4 f5 f6 hfin hcL evd
 have k8 : w12.cell? ⟨w.heap.size, 8, none⟩ = some (.slice AL L.length cL) := by rw [← evd]; exact hB12n.cell 8
 have hLb : ∀ b o, AL = some ⟨b, o, none⟩ → 0 < L.length → b ≠ w4.heap.size := fun b o e h0 => by
  obtain ⟨A0, c0, e0, _, _, h1⟩ := hx.d.op pcC_len
  rw [← hLd] at e0 h1
  rw [evd] at e0
  injection e0 with e1
  obtain ⟨b1, o1, e2, h2, _⟩ := h1 h0
  rw [← e1, e] at e2
  injection e2 with e2
  injection e2 with e2
  omega
 have hR12 := hR4.ext hE412
 have hne : ∀ b, b < w4.heap.size → ¬ b = w4.heap.size := fun b hb e => by omega
 have hOx : ∀ (v : Value) (w' : World), Ow pcC 2 w' w12.heap.size 134 v (clipP L 0 size) → Fr (· = w4.heap.size) w12 w' → NdO w' w3.heap.size ⟨fin, va1, vc1, v⟩ := fun v w' hO hF => by
  refine ⟨?_, ?_, ?_⟩
  ·have h := (hO4.a.ext hE412).fr hF fun b hb => hne b (hO4.a.blk hb).2
   rw [hfin]; exact h
  ·have h := (hO4.c.ext hE412).fr hF fun b hb => hne b (hO4.c.blk hb).2
   rw [hfin]; exact h
  ·rw [hfin]; exact hO.mono (by omega)
 have hend : ∀ (v : Value) (w' w'' : World), NdO w' w3.heap.size ⟨fin, va1, vc1, v⟩ → Fr (· = w4.heap.size) w12 w' → Fr (· = w1.heap.size) w' w'' → ∃ x', Value.tuple #[.agg (ndC ⟨fin, va1, vc1, v⟩).toArray, .int .i64 0] = .tuple #[.agg (ndC x').toArray, .int .i64 0] ∧ x'.n = fin ∧ NdIn w'' x' ∧ ((0 : Int) = 0 → NdO w'' w.heap.size x') ∧ Ext w w'' := fun v w' w'' hO hF hF2 => by
  have hO2 : NdO w'' w3.heap.size ⟨fin, va1, vc1, v⟩ := hO.fr hF2 fun b hb e => by have := hO.f b hb; have : b = w1.heap.size := e; omega
  exact ⟨⟨fin, va1, vc1, v⟩, rfl, rfl, hO2.in, (fun _ => hO2.mono (by omega)), (hE012.trans hF fun j hj e => by have : j = w4.heap.size := e; omega).trans hF2 fun j hj e => by have : j = w1.heap.size := e; omega⟩
 refine goL ?_
 refine tloop (α := Nat × Value × List Pce) (fun y => [(1, .int .i64 size), (4, .pointer (some ⟨w1.heap.size, 0, none⟩)), (6, .pointer (some ⟨w4.heap.size, 0, none⟩)), (28, .slice AL L.length cL), (29, .int .i64 (L.length : Int)), (30, .int .i64 (y.1 : Int))]) (CuS w12 w4.heap.size fin va1 vc1 L size) (fun y => L.length - y.1) (0, .slice none 0 0, []) (sub ⟨rfl, rfl, rfl, rfl, rfl, rfl⟩) ⟨Nat.zero_le _, hB12', Ow.nil _ _ _, Nat.le_refl _, Fr.refl _ _, rfl⟩ ?_
 rintro ⟨i, v, out⟩ w13 ⟨hi, hB13, hO13, hn13, hF13, hm13⟩
 dsimp only at hi hB13 hO13 hn13 hF13 hm13 ⊢
 have z13 := hF13.size
 have hR13 := hR12.fr hF13 (show ¬ w1.heap.size = w4.heap.size by omega)
 by_cases hlt : i < L.length
 ·obtain ⟨bp, op, p, rfl, hbp, hpj, hdrp, hcp⟩ := hAL.at_ (i := i) hlt
  have hp6 := f6 p (List.mem_of_getElem? hpj)
  have hpl := List.length_pos_iff.2 hp6.1
  have hpb := bytes_mem (List.mem_of_getElem? hpj)
  have hpc : ∀ k u, (pcC p)[k]? = some u → w13.cell? ⟨bp, op + i * 2 + k, none⟩ = some u := fun k u hu => hF13.cell (hcp k u hu) (hLb bp op rfl (by omega))
  repeat' (first | refine xizq i (op + i * 2) rfl rfl rfl rfl rfl hlt ?_ | refine go1L ?_ | fail)
  refine xldz (cs := pcC p) rfl rfl hpc ?_
  refine xalloc (z := .agg #[.int .i64 0, .string ⟨#[]⟩]) (by kernel_rfl) (fun w14 hB14 hE14 hs14 => ?_)
  refine xsta (cs := (pcC p).toArray) hB14 rfl rfl rfl rfl (pcC_all p) (fun w15 hB15 hF15 => ?_)
  have hE15 : Ext w13 w15 := Ext.te hE14 hF15 fun j hj e => by have e' : j = w13.heap.size := e; omega
  have q0 : w15.cell? ⟨w13.heap.size, 0, none⟩ = some (.int .i64 p.pos) := hB15.cell 0
  have q1 : w15.cell? ⟨w13.heap.size, 1, none⟩ = some (.string (su p.data)) := hB15.cell 1
  by_cases hge : size ≤ p.pos
  ·have hout : out = clipP L 0 size := by
    rw [hm13, cut_stop (l := L.drop i), List.append_nil]
    rw [hdrp]
    have hsp := f5
    unfold SepP at hsp
    rw [← List.take_append_drop i L, hdrp] at hsp
    have h2 := List.pairwise_cons.1 (List.pairwise_append.1 hsp).2.1
    intro r hr
    rcases List.mem_cons.1 hr with rfl | hr
    ·exact hge
    ·have := h2.1 r hr
     unfold endP at this
     omega
   rw [hout] at hO13
   have hON := hOx v w15 (hO13.ext hE15) (hF13.te hE15)
   refine goL ?_
   refine xlda (t := 67) (hB13.ext hE15) rfl rfl ?_
   refine goL ?_
   refine xsta (hR13.ext hE15) rfl rfl (by kernel_rfl) rfl (one_cells (l := ndC ⟨fin, va1, vc1, v⟩) (List.all_eq_true.2 (hone hON.in))) (fun w30 hB30 hF30 => ?_)
   refine goL ?_
   exact tretc2 rfl rfl rfl hB30 (by kernel_rfl) (hend v w15 w30 hON (hF13.te hE15) hF30)
  ·repeat' (first | refine xuln rfl rfl ?_ | refine go1LM ?_ | fail)
   obtain ⟨nl, hnl⟩ : ∃ nl : Nat, nl = (min (p.data.length : Int) (size - p.pos)).toNat := ⟨_, rfl⟩
   have hnl1 : nl ≤ p.data.length := by omega
   rw [show min (p.data.length : Int) (size - p.pos) = (nl : Int) from by omega]
   obtain ⟨pn, hpn⟩ : ∃ pn : Pce, pn = ⟨p.pos, p.data.take nl⟩ := ⟨_, rfl⟩
   have hd := Fr.drew noneB w15
   have hE15d : Ext w13 w15.drew := hE15.t hd
   have k47 : w15.drew.cell? ⟨w4.heap.size, 8, none⟩ = some v := (hB13.ext hE15d).cell 8
   have q0d : w15.drew.cell? ⟨w13.heap.size, 0, none⟩ = some (.int .i64 p.pos) := q0
   have q1d : w15.drew.cell? ⟨w13.heap.size, 1, none⟩ = some (.string (su p.data)) := q1
   refine tdrawC 11 [47] (fun w' => w'.cell? ⟨w4.heap.size, 8, none⟩ = some v) (by kernel_rfl) (by decide +kernel) k47 ?_
   repeat' (first | refine xusl0 nl rfl rfl rfl rfl hnl1 ?_ | refine xldh rfl rfl (fun _ h => h) ?_ | refine go1L ?_ | fail)
   refine xbd (parts := [(0, .tmp 49), (1, .tmp 53)]) (cells := (pcC pn).toArray) (vs := [(0, .int .i64 pn.pos), (1, .string (su pn.data))]) (by rw [hpn]; rfl) (by kernel_rfl) ?_
   refine goL ?_
   refine xbz1 sl_pcs rfl rfl (by decide) (by decide) (fun w16 hB16 hE16 hs16 => ?_) (fun w' he => he.cell k47)
   refine gz18 ?_
   have hE1316 : Ext w13 w16 := hE15d.t hE16
   refine xapz (B := w12.heap.size) (news := pcC pn) sl_pcs rfl (by decide) rfl (hO13.ext hE1316) rfl (blk_row hB16 (by decide) rfl) rfl (fun u hu => pcC_one [_] u (by simpa using hu)) (by unfold maxLen; omega) (by omega) (by have := hE1316.size; omega) (fun v17 w17 hO17 hF17 _ => ?_) (fun w' hF => hF.cell (hE16.cell k47) fun e => by have := (hO13.blk (b := w4.heap.size) e).1; omega)
   have hO17' : Ow pcC 2 w17 w12.heap.size 134 v17 (out ++ [pn]) := Ow.ext1 (l' := [pn]) (by simpa using hO17)
   obtain ⟨A17, c17, rfl, _, _⟩ := hO17'.form
   have hB17 : Blk w17 w4.heap.size 67 (ndC ⟨fin, va1, vc1, v⟩).toArray := (hB13.ext hE1316).fr hF17 fun e => by have := (hO13.blk e).1; omega
   refine xnil ?_
   refine goL ?_
   refine xstb hB17 rfl rfl (by kernel_rfl) rfl rfl (fun w18 hB18 hF18 => ?_)
   have hB18' : Blk w18 w4.heap.size 67 (ndC ⟨fin, va1, vc1, .slice A17 (out ++ [pn]).length c17⟩).toArray := hB18
   have hO18 : Ow pcC 2 w18 w12.heap.size 134 (.slice A17 (out ++ [pn]).length c17) (out ++ [pn]) := hO17'.fr hF18 fun b hb e => by have := (hO17'.blk hb).1; have : b = w4.heap.size := e; omega
   refine goL ?_
   exact tfin ⟨(i + 1, .slice A17 (out ++ [pn]).length c17, out ++ [pn]), sub ⟨rfl, rfl, rfl, rfl, rfl, rfl⟩, ⟨hlt, hB18', hO18, by simp only [List.length_append, List.length_singleton]; omega, ((hF13.te hE1316).trans hF17 fun j hj e => by have := (hO13.blk e).1; omega).t hF18, by rw [hm13, hdrp, cut_step hp6.2.1 hp6.1 (by omega), ← hnl, ← hpn]; simp⟩, (by show L.length - (i + 1) < L.length - i; omega)⟩
 ·obtain rfl : i = L.length := by omega
  have hout : out = clipP L 0 size := by rw [hm13, List.drop_length, cut_stop (l := []) (fun p hp => by simp at hp), List.append_nil]
  rw [hout] at hO13
  have hON := hOx v w13 hO13 hF13
  refine goL ?_
  refine xlda (t := 67) hB13 rfl rfl ?_
  refine goL ?_
  refine xsta hR13 rfl rfl (by kernel_rfl) rfl (one_cells (l := ndC ⟨fin, va1, vc1, v⟩) (List.all_eq_true.2 (hone hON.in))) (fun w30 hB30 hF30 => ?_)
  refine goL ?_
  exact tretc2 rfl rfl rfl hB30 (by kernel_rfl) (hend v w13 w30 hON hF13 hF30)
end
section
def kN (k : Int) : Nd := ⟨k, 0, 0, 0, 0, [], [], 0, [], [], 0, 0⟩
def kV (k : Int) : NdV := ⟨kN k, .slice none 0 0, .slice none 0 0, .slice none 0 0⟩
theorem kV_in (w : World) (k : Int) : NdIn w (kV k) := ⟨Rw.nil _ _ (by decide), Rw.nil _ _ (by decide), Rw.nil _ _ (by decide)⟩
theorem kV_no (k : Int) (b : Nat) : ¬ NdN (kV k) b := fun h => by rcases h with h | h | h <;> exact absurd h.1 (by show ¬ 0 < 0; decide)
attribute [local irreducible] xs T
end
section
theorem alikeT_same (a : Tre) : alikeT a a = true := by simp [alikeT]
attribute [local irreducible] xs T
end
section
def attN (l : List Att) (n : Nd) : Nd := { n with attrs := l }
def aclN (l : List Ac) (n : Nd) : Nd := { n with acl := l }
theorem nrmB_zero {l : List Ac} (h : (nrmB l).1 = 0) : nrmB l = nrmG acOK acLt 16 l ∧ (nrmG acOK acLt 16 l).1 = 0 := by
 unfold nrmB at *
 split at h
 ·rename_i h1; exact absurd h h1
 ·rename_i h1
  split at h
  ·cases h
  ·rename_i h2
   rw [if_neg h1, if_neg h2]
   exact ⟨rfl, h⟩
theorem nrmA_len {l : List Att} (h : (nrmA l).1 = 0) : (nrmA l).2.length ≤ 1000000 := by
 obtain ⟨h1, h2⟩ := nrm_zero h
 have := h1.length_eq
 unfold nrmA
 omega
theorem nrmB_len {l : List Ac} (h : (nrmB l).1 = 0) : (nrmB l).2.length ≤ 1000000 := by
 obtain ⟨h0, h⟩ := nrmB_zero h
 obtain ⟨h1, h2⟩ := nrm_zero h
 have := h1.length_eq
 rw [h0]
 omega
attribute [local irreducible] xs T
theorem a1_does (w : World) (b b6 : Nat) (y : NdV) (v : Value) (l : List Att) (hB : Blk w b 67 (ndC y).toArray) (h6 : w.cell? ⟨b6, 0, none⟩ = some v) (hv : Rw attC w v l) (hn : l.length ≤ 100000) :
  Does Tryz.prog 148 #[.pointer (some ⟨b, 0, none⟩), .pointer (some ⟨b6, 0, none⟩)] w fun r w' => ∃ vo, r = .int .i64 (nrmA l).1 ∧ Blk w' b 67 (ndC ⟨attN (nrmA l).2 y.n, vo, y.vc, y.vd⟩).toArray ∧ Ow attC 2 w' w.heap.size 101 vo (nrmA l).2 ∧ Fr (· = b) w w' := by
 refine does2 Tryz.func148 rfl (by kernel_rfl) ?_
 refine goL ?_
 refine xcallE rfl rfl (anorm_does w v l hv hn) (fun r w1 h1 => ?_)
 exact y32
theorem attrs_does (w : World) (B g : Nat) (m : FsM) (vf ve vn : Value) (nvs : List NdV) (t : Tre) (p : Str) (v : Value) (l : List Att) (h : FsO w B g m vf ve vn nvs t) (hc : 0 ≤ m.calls ∧ m.calls ≤ 4000000000000000000) (hv : Rw attC w v l) (hvg : ∀ b, RwK v l b → b ≠ g) (hn : l.length ≤ 100000) :
  Does Tryz.prog 97 #[.pointer (some ⟨g, 0, none⟩), .string (su p), v] w fun r w' => r = .int .i64 (setE m t p (fun _ => (nrmA l).1) (attN (nrmA l).2)) ∧ ∃ nvs', FsS w B g vf ve vn nvs w' (begM m).2.2 (setT m t p (fun _ => (nrmA l).1) (attN (nrmA l).2)) ve vn nvs' := by
 refine does3 Tryz.func97 rfl (by kernel_rfl) ?_
 have hg := h.i.k.lt
 have hbg := h.b
 obtain ⟨A, c, ev, hc1, hc2, _⟩ := hv.op attC_len
 refine goL ?_
 refine xbox rfl (fun w1 hB1 hE1 hs1 => ?_)
 have k1 : w1.cell? ⟨w.heap.size, 0, none⟩ = some v := by rw [ev] at hB1 ⊢; exact Blk.cell hB1 0
 refine gz16 ?_
 have hed : EdC w1 B g 148 #[.pointer (some ⟨w.heap.size, 0, none⟩)] (fun _ => (nrmA l).1) (attN (nrmA l).2) := fun w2 b y hF hb hB hO => by
  have z2 := hF.size
  refine Does.mono (a1_does w2 b w.heap.size y v l hB (hF.cell k1 (show ¬ w.heap.size = g by omega)) ((hv.ext hE1).frN hF fun b hb e => hvg b hb e) hn) fun r w3 ⟨vo, h1, h2, h3, h4⟩ => ⟨_, h1, fun _ => rfl, h2, fun _ => ?_, fun b' hb' => ?_, h4⟩
  ·have hne : ∀ b', (y.va.ownBlock = some b' ∨ y.vc.ownBlock = some b' ∨ y.vd.ownBlock = some b') → ¬ b' = b := fun b' hb' => hO.ne hB (by decide) (by decide) (by decide) hb'
   exact ⟨h3.mono (by omega), hO.c.fr h4 fun b' hb' => hne b' (.inr (.inl hb')), hO.d.fr h4 fun b' hb' => hne b' (.inr (.inr hb'))⟩
  ·rcases hb' with hb' | hb' | hb'
   ·exact .inr (h3.blk hb').1
   ·exact .inl (.inr (.inl hb'))
   ·exact .inl (.inr (.inr hb'))
 refine xcall rfl rfl (set_does w1 B g m vf ve vn nvs t p 148 #[.pointer (some ⟨w.heap.size, 0, none⟩)] _ _ (h.ext hE1) hc (by kernel_rfl) hed
  (fun n hn he => ⟨⟨nrmA_len he, (h.i.l n hn).c, (h.i.l n hn).d⟩, h.i.s n hn⟩)) ?_
 exact y38
theorem b1_does (w : World) (b b6 : Nat) (y : NdV) (v : Value) (l : List Ac) (hB : Blk w b 67 (ndC y).toArray) (h6 : w.cell? ⟨b6, 0, none⟩ = some v) (hv : Rw acC w v l) (hn : l.length ≤ 100000) :
  Does Tryz.prog 150 #[.pointer (some ⟨b, 0, none⟩), .pointer (some ⟨b6, 0, none⟩)] w fun r w' => ∃ vo, r = .int .i64 (nrmB l).1 ∧ Blk w' b 67 (ndC ⟨aclN (nrmB l).2 y.n, y.va, vo, y.vd⟩).toArray ∧ Ow acC 3 w' w.heap.size 103 vo (nrmB l).2 ∧ Fr (· = b) w w' := by
 refine does2 Tryz.func150 rfl (by kernel_rfl) ?_
 refine goL ?_
 refine xcallE rfl rfl (bnorm_does w v l hv hn) (fun r w1 h1 => ?_)
 exact y32
theorem acl_does (w : World) (B g : Nat) (m : FsM) (vf ve vn : Value) (nvs : List NdV) (t : Tre) (p : Str) (v : Value) (l : List Ac) (h : FsO w B g m vf ve vn nvs t) (hc : 0 ≤ m.calls ∧ m.calls ≤ 4000000000000000000) (hv : Rw acC w v l) (hvg : ∀ b, RwK v l b → b ≠ g) (hn : l.length ≤ 100000) :
  Does Tryz.prog 99 #[.pointer (some ⟨g, 0, none⟩), .string (su p), v] w fun r w' => r = .int .i64 (setE m t p (fun _ => (nrmB l).1) (aclN (nrmB l).2)) ∧ ∃ nvs', FsS w B g vf ve vn nvs w' (begM m).2.2 (setT m t p (fun _ => (nrmB l).1) (aclN (nrmB l).2)) ve vn nvs' := by
 refine does3 Tryz.func99 rfl (by kernel_rfl) ?_
 have hg := h.i.k.lt
 have hbg := h.b
 obtain ⟨A, c, ev, hc1, hc2, _⟩ := hv.op acC_len
 refine goL ?_
 refine xbox rfl (fun w1 hB1 hE1 hs1 => ?_)
 have k1 : w1.cell? ⟨w.heap.size, 0, none⟩ = some v := by rw [ev] at hB1 ⊢; exact Blk.cell hB1 0
 refine gz16 ?_
 have hed : EdC w1 B g 150 #[.pointer (some ⟨w.heap.size, 0, none⟩)] (fun _ => (nrmB l).1) (aclN (nrmB l).2) := fun w2 b y hF hb hB hO => by
  have z2 := hF.size
  refine Does.mono (b1_does w2 b w.heap.size y v l hB (hF.cell k1 (show ¬ w.heap.size = g by omega)) ((hv.ext hE1).frN hF fun b hb e => hvg b hb e) hn) fun r w3 ⟨vo, h1, h2, h3, h4⟩ => ⟨_, h1, fun _ => rfl, h2, fun _ => ?_, fun b' hb' => ?_, h4⟩
  ·have hne : ∀ b', (y.va.ownBlock = some b' ∨ y.vc.ownBlock = some b' ∨ y.vd.ownBlock = some b') → ¬ b' = b := fun b' hb' => hO.ne hB (by decide) (by decide) (by decide) hb'
   exact ⟨hO.a.fr h4 fun b' hb' => hne b' (.inl hb'), h3.mono (by omega), hO.d.fr h4 fun b' hb' => hne b' (.inr (.inr hb'))⟩
  ·rcases hb' with hb' | hb' | hb'
   ·exact .inl (.inl hb')
   ·exact .inr (h3.blk hb').1
   ·exact .inl (.inr (.inr hb'))
 refine xcall rfl rfl (set_does w1 B g m vf ve vn nvs t p 150 #[.pointer (some ⟨w.heap.size, 0, none⟩)] _ _ (h.ext hE1) hc (by kernel_rfl) hed
  (fun n hn he => ⟨⟨(h.i.l n hn).a, nrmB_len he, (h.i.l n hn).d⟩, h.i.s n hn⟩)) ?_
 exact y38
end
section
def OffB (w : World) (v : Value) : Prop := ∀ b, v.ownBlock = some b → w.heap.size ≤ b
theorem OffB.nil (w : World) (c : Nat) : OffB w (.slice none 0 c) := fun b hb => by cases hb
structure RnL {α : Type} (cf : α → List Value) (ok : α → Bool) (lt : α → α → Bool) (l : List α) (w : World) (x : Nat × Value × List α) (w' : World) : Prop where
 le : x.1 ≤ l.length
 rw : Rw cf w' x.2.1 x.2.2
 off : OffB w x.2.1
 perm : x.2.2.Perm (l.take x.1)
 wk : OrdL.Wk lt x.2.2
 ext : Ext w w'
 okk : (l.take x.1).all ok = true
theorem nrmB_needs {l m : List Ac} (h : nrmG acOK acLt 16 l = (0, m)) (hp : m.Perm l) (hn : needsP m = true) : nrmB l = (7, []) := by
 have hl := hp.length_eq
 unfold needsP at hn
 rw [any_perm hp, Bool.and_eq_true, decide_eq_true_eq] at hn
 unfold nrmB
 rw [h, if_neg (fun h => h rfl), if_pos]
 exact ⟨fun e => hn.2 (List.length_eq_zero_iff.1 (by omega)), by simpa using hn.1⟩
theorem nrmB_fine {l m : List Ac} (h : nrmG acOK acLt 16 l = (0, m)) (hp : m.Perm l) (hn : needsP m = false) : nrmB l = (0, m) := by
 have hl := hp.length_eq
 unfold needsP at hn
 rw [any_perm hp] at hn
 unfold nrmB
 rw [h, if_neg (fun h => h rfl), if_neg]
 rintro ⟨h1, h2⟩
 have hm : m ≠ [] := fun e => h1 (by rw [← hl, e]; rfl)
 rw [h2] at hn
 simp [hm] at hn
attribute [local irreducible] xs T
theorem ranorm_does (w : World) (v : Value) (l : List Att) (hv : Rw attC w v l) (hn : l.length ≤ 100000) : Does Tryz.prog 180 #[v] w fun r w' => ∃ vo, r = .tuple #[vo, .int .i64 (nrmA l).1] ∧ Rw attC w' vo (nrmA l).2 ∧ OffB w vo ∧ Ext w w' := by
 refine does1 Tryz.func180 rfl (by kernel_rfl) ?_
 obtain ⟨A, c, rfl, hc1, hc2, hA⟩ := hv.op attC_len
 refine gz0 ?_
 refine tcut (α := Value × List Att) (fun x => [(4, x.1)]) (fun x w' => Rw attC w' x.1 x.2 ∧ OffB w x.1 ∧ x.2.Perm l ∧ OrdL.Wk attLt x.2 ∧ Ext w w' ∧ l.all attOK = true) ?_ ?_
 ·refine goL ?_
  refine tloop (α := Nat × Value × List Att) (fun x => [(0, .slice A l.length c), (4, x.2.1), (5, .int .i64 (x.1 : Int))]) (RnL attC attOK attLt l w) (fun x => l.length - x.1) (0, .slice none 0 0, []) (sub ⟨rfl, rfl, rfl⟩) ⟨Nat.zero_le _, Rw.nil _ _ (by unfold maxLen; omega), OffB.nil w _, List.Perm.refl _, List.Pairwise.nil, Fr.refl _ _, rfl⟩ ?_
  rintro ⟨i, v4, m⟩ w3 ⟨hi, hrw, hoff, hp, hw, hE3, hok⟩
  dsimp only at hi hrw hoff hp hw hE3 hok ⊢
  have hml : m.length = i := by have := hp.length_eq; rw [List.length_take] at this; omega
  have hvl := hrw
  obtain ⟨AL, cL, rfl, _, _, hAL⟩ := hrw.op attC_len
  by_cases hlt : i < l.length
  ·obtain ⟨b, o, x, rfl, _, hx, hdr, hcell⟩ := hA.at_ hlt
   have hxc : ∀ j u, (attC x)[j]? = some u → w3.cell? ⟨b, o + i * 2 + j, none⟩ = some u := fun j u hu => hE3.cell (hcell j u hu)
   refine gz4 ?_
   refine xldz (cs := attC x) rfl rfl hxc ?_
   refine xcallE rfl rfl (rattr_does w3 x) (fun r w6 h6 => ?_)
   obtain ⟨rfl, hE6⟩ := h6
   have hE06 : Ext w w6 := hE3.t hE6
   cases hg : attOK x with
   | false =>
    have hb : l.all attOK = false := by
     cases e : l.all attOK with
     | false => rfl
     | true => rw [List.all_eq_true.1 e x (List.mem_of_getElem? hx)] at hg; cases hg
    have e : nrmA l = (1, []) := nrm_bad hb
    rw [e]
    refine goL ?_
    exact tret2 rfl rfl rfl ⟨_, rfl, Rw.nil _ _ (by unfold maxLen; omega), OffB.nil w _, hE06⟩
   | true =>
    refine gz0 ?_
    refine tcut (α := Nat) (fun k => [(0, .slice (some ⟨b, o, none⟩) l.length c), (4, .slice AL m.length cL), (5, .int .i64 (i : Int)), (6, .int .i64 (k : Int))]) (fun k w' => Ext w6 w' ∧ k ≤ m.length ∧ (∀ y ∈ m.drop k, attLt x y = true) ∧ ∀ y ∈ (m.take k).getLast?, attLt x y = false) ?_ ?_
    ·refine goL ?_
     refine tloop (α := Nat) (fun k => [(0, .slice (some ⟨b, o, none⟩) l.length c), (4, .slice AL m.length cL), (5, .int .i64 (i : Int)), (6, .int .i64 (k : Int))]) (fun k w' => Ext w6 w' ∧ k ≤ m.length ∧ ∀ y ∈ m.drop k, attLt x y = true) (fun k => k) m.length (sub ⟨rfl, rfl, rfl, rfl⟩) ⟨Fr.refl _ _, Nat.le_refl _, fun y hy => by rw [List.drop_length] at hy; cases hy⟩ ?_
     rintro k w7 ⟨hE7, hk, hgo⟩
     by_cases hk0 : 0 < k
     ·obtain ⟨k, rfl⟩ := Nat.exists_eq_succ_of_ne_zero (show k ≠ 0 by omega)
      obtain ⟨b4, o4, y, e4, _, hy, hdy, hcy⟩ := hAL.at_ (i := k) (by omega)
      subst e4
      have hE37 : Ext w3 w7 := hE6.t hE7
      have s0 : w7.drew.cell? ⟨b, o + i * 2 + 0, none⟩ = some (.string (su x.name)) := hE37.ed.cell (hxc 0 _ rfl)
      have s1 : w7.drew.cell? ⟨b4, o4 + k * 2 + 0, none⟩ = some (.string (su y.name)) := hE37.ed.cell (hcy 0 _ rfl)
      have hEz : Ext w6 w7.drew := hE7.d
      cases hls : attLt x y with
      | true =>
       repeat' (first | refine xizq i (o + i * 2) rfl rfl rfl rfl rfl hlt ?_ | refine xizq k (o4 + k * 2) rfl rfl rfl (by omega) rfl (by omega) ?_ | refine xucmp (op := .lss) (a := x.name) (b := y.name) (r := true) rfl rfl (by have : Op.bytesLess x.name y.name = true := hls; simp [cmpU, this]) ?_ | refine go1L ?_ | fail)
       exact tfin ⟨k, sub ⟨rfl, rfl, rfl, ieq (by omega)⟩, ⟨hEz, by omega, fun z hz => by
        rw [hdy] at hz
        rcases List.mem_cons.1 hz with e | hz
        ·rw [e]; exact hls
        ·exact hgo z hz⟩, (by show k < k + 1; omega)⟩
      | false =>
       repeat' (first | refine xizq i (o + i * 2) rfl rfl rfl rfl rfl hlt ?_ | refine xizq k (o4 + k * 2) rfl rfl rfl (by omega) rfl (by omega) ?_ | refine xucmp (op := .lss) (a := x.name) (b := y.name) (r := false) rfl rfl (by have : Op.bytesLess x.name y.name = false := hls; simp [cmpU, this]) ?_ | refine go1L ?_ | fail)
       exact tfin ⟨k + 1, sub ⟨rfl, rfl, rfl, rfl⟩, ⟨hEz, hk, hgo, fun z hz => by
        rw [List.take_add_one, hy] at hz
        have e : y = z := by simpa using hz
        rw [← e]; exact hls⟩⟩
     ·exact y76
    ·rintro k w7 ⟨hE7, hk, hbig, hsm⟩
     have hE37 : Ext w3 w7 := hE6.t hE7
     have hwk : OrdL.Wk attLt (m.take k ++ [x] ++ m.drop k) := attLt_ord.ins (by rw [List.take_append_drop]; exact hw) hsm hbig
     have hpm : (m.take k ++ [x] ++ m.drop k).Perm (l.take (i + 1)) := by
      exact y37
     refine goL ?_
     refine xbz0 sl_atts (fun w8 hO8 hE8 hs8 => ?_)
     refine goL ?_
     have hv8 := hvl.ext (hE37.t hE8)
     refine xrw0 attC_len k rfl hv8 rfl rfl rfl hk (fun A8 c8 hR8 => ?_)
     have hl8 : (m.take k).length = k := by rw [List.length_take]; omega
     have hR8' : Row w8 (.slice A8 k c8) k ((m.take k).flatMap attC) := by have := hR8; unfold Rw at this; rw [hl8] at this; exact this
     refine xapz (B := w7.heap.size) (news := (m.take k).flatMap attC) sl_atts rfl (by decide) rfl hO8 rfl hR8' (by rw [flat_len attC_len, hl8]) (attC_one _) (by unfold maxLen; omega) (by omega) (by omega) (fun v9 w9 hO9 hF9 _ => ?_)
     have hO9' : Ow attC 2 w9 w7.heap.size 101 v9 (m.take k) := by unfold Ow; rw [hl8]; simpa using hO9
     have hE79 : Ext w7 w9 := hE8.trans hF9 fun j hj h => by have := (OwnZ.blk hO8 h).1; omega
     have z9 := hE79.size
     have hxc9 : ∀ j u, (attC x)[j]? = some u → w9.drew.cell? ⟨b, o + i * 2 + j, none⟩ = some u := fun j u hu => (hE37.t hE79).ed.cell (hxc j u hu)
     refine gz4 ?_
     refine xldz (cs := attC x) rfl rfl hxc9 ?_
     refine goL ?_
     refine xbz1 sl_atts rfl rfl (by decide) (by decide) (fun w10 hB10 hE10 hs10 => ?_)
     have hE9d : Ext w9 w10 := (Fr.drew _ _).t hE10
     refine xapz (B := w7.heap.size) (news := attC x) sl_atts rfl (by decide) rfl (hO9'.ext hE9d) rfl (blk_row hB10 (by decide) rfl) rfl (fun u hu => attC_one [x] u (by simpa using hu)) (by unfold maxLen; rw [hl8]; omega) (by rw [hl8]; omega) (by have := hE9d.size; omega) (fun v11 w11 hO11 hF11 _ => ?_)
     have hO11' : Ow attC 2 w11 w7.heap.size 101 v11 (m.take k ++ [x]) := Ow.ext1 (l' := [x]) (by simpa using hO11)
     have hE711 : Ext w7 w11 := (hE79.t hE9d).trans hF11 fun j hj h => by have := (hO9'.blk h).1; omega
     have z11 := hE711.size
     refine goL ?_
     have hv11 := hvl.ext (hE37.t hE711)
     refine xrw1 attC_len k rfl hv11 rfl rfl rfl hk (fun A11 c11 hR11 => ?_)
     have hl11 : (m.drop k).length = m.length - k := by rw [List.length_drop]
     have hl12 : (m.take k ++ [x]).length = k + 1 := by rw [List.length_append, hl8]; rfl
     have hR11' : Row w11 (.slice A11 (m.length - k) c11) (m.length - k) ((m.drop k).flatMap attC) := by have := hR11; unfold Rw at this; rw [hl11] at this; exact this
     refine xapz (B := w7.heap.size) (news := (m.drop k).flatMap attC) sl_atts rfl (by decide) rfl hO11' rfl hR11' (by rw [flat_len attC_len, hl11]) (attC_one _) (by unfold maxLen; rw [hl12]; omega) (by rw [hl12]; omega) z11 (fun v12 w12 hO12 hF12 _ => ?_)
     have hO12' : Ow attC 2 w12 w7.heap.size 101 v12 (m.take k ++ [x] ++ m.drop k) := Ow.ext1 (l' := m.drop k) (by rw [hl11]; exact hO12)
     have hE712 : Ext w7 w12 := hE711.trans hF12 fun j hj h => by have := (hO11'.blk h).1; omega
     refine goL ?_
     refine tfin ⟨(i + 1, v12, m.take k ++ [x] ++ m.drop k), sub ⟨rfl, rfl, rfl⟩, ⟨hlt, hO12'.rw, fun b hb => Nat.le_trans (hE3.t hE37).size (hO12'.blk hb).1, hpm, hwk, hE3.t (hE37.t hE712), ?_⟩, (by show l.length - (i + 1) < l.length - i; omega)⟩
     rw [List.take_add_one, hx, List.all_append, hok, Bool.true_and]
     show (List.all [x] attOK) = true
     rw [List.all_cons, hg]
     rfl
  ·exact y83
 ·rintro ⟨v4, m⟩ w1 ⟨hrw, hoff, hp, hw, hE1, hall⟩
  dsimp only at hrw hoff hp hw hE1 hall ⊢
  have hml := hp.length_eq
  obtain ⟨A5, c5, rfl, hc3, hc4, hA5⟩ := id (hrw.op attC_len)
  refine gz0 ?_
  refine tcut (α := Unit) (fun _ => [(4, .slice A5 m.length c5)]) (fun _ w' => Ext w1 w' ∧ ascF attLt none m = true) ?_ ?_
  ·refine goL ?_
   refine tloop (α := Nat) (fun i => [(4, .slice A5 m.length c5), (8, .int .i64 (i : Int))]) (fun i w' => Ext w1 w' ∧ 1 ≤ i ∧ ascF attLt (prevO m i) (m.drop i) = ascF attLt none m) (fun i => m.length + 1 - i) 1 (sub ⟨rfl, rfl⟩) ⟨Fr.refl _ _, Nat.le_refl _, asc_first m⟩ ?_
   rintro i w2 ⟨hE2, hpos, hgo⟩
   by_cases hlt : i < m.length
   ·obtain ⟨k, rfl⟩ : ∃ k, i = k + 1 := ⟨i - 1, by omega⟩
    obtain ⟨b, o, x, rfl, _, hx, hdr, hcell⟩ := hA5.at_ hlt
    obtain ⟨b', o', y, e', _, hy, _, hcell'⟩ := hA5.at_ (i := k) (by omega)
    injection e' with e'
    injection e' with e1 e2
    subst e1; subst e2
    rw [asc_step hy hx] at hgo
    have hE12d : Ext w1 w2.drew := hE2.t (Fr.drew noneB w2)
    have k1 : w2.drew.cell? ⟨b, o + k * 2 + 0, none⟩ = some (.string (su y.name)) := hE12d.cell (hcell' 0 _ rfl)
    have k2 : w2.drew.cell? ⟨b, o + (k + 1) * 2 + 0, none⟩ = some (.string (su x.name)) := hE12d.cell (hcell 0 _ rfl)
    have hwk := wk_get hw hy hx (Nat.lt_succ_self k)
    by_cases hnm : x.name = y.name
    ·have hl2 : attLt y x = false := by unfold attLt; rw [hnm]; exact bl_irr _
     rw [hl2, Bool.false_and] at hgo
     have e : nrmA l = (6, []) := nrm_dup hall attLt_ord hp hw hgo.symm
     rw [e]
     repeat' (first | refine xizq k (o + k * 2) rfl rfl rfl (by omega) rfl (by omega) ?_ | refine xizq (k + 1) (o + (k + 1) * 2) rfl rfl rfl rfl rfl hlt ?_ | refine xucmp (op := .eql) (a := x.name) (b := y.name) (r := true) rfl rfl (by simp [cmpU, hnm]) ?_ | refine go1L ?_ | fail)
     exact tret2 rfl rfl rfl ⟨_, rfl, Rw.nil _ _ (by unfold maxLen; omega), OffB.nil w _, hE1.t hE12d⟩
    ·have hl2 : attLt y x = true := by
      rcases bl_tri _ _ hnm with g | g
      ·unfold attLt at hwk; rw [g] at hwk; cases hwk
      ·exact g
     rw [hl2, Bool.true_and] at hgo
     repeat' (first | refine xizq k (o + k * 2) rfl rfl rfl (by omega) rfl (by omega) ?_ | refine xizq (k + 1) (o + (k + 1) * 2) rfl rfl rfl rfl rfl hlt ?_ | refine xucmp (op := .eql) (a := x.name) (b := y.name) (r := false) rfl rfl (by simp [cmpU, hnm]) ?_ | refine go1L ?_ | fail)
     exact tfin ⟨k + 1 + 1, sub ⟨rfl, rfl⟩, ⟨hE12d, by omega, hgo⟩, (by show m.length + 1 - (k + 1 + 1) < m.length + 1 - (k + 1); omega)⟩
   ·rw [asc_done (by omega)] at hgo
    refine goL ?_
    exact tfin ⟨(), sub rfl, hE2, hgo.symm⟩
  ·rintro _ w2 ⟨hE2, hasc⟩
   have hE02 : Ext w w2 := hE1.t hE2
   by_cases h8 : 8 < m.length
   ·have e : nrmA l = (13, []) := nrm_long hall attLt_ord hp hw hasc h8
    exact y46
   ·have e : nrmA l = (0, m) := nrm_ok hall attLt_ord hp hw hasc h8
    rw [e]
    refine goL ?_
    exact tret2 rfl rfl rfl ⟨_, rfl, hrw.ext hE2, hoff, hE02⟩
theorem rbnorm_does (w : World) (v : Value) (l : List Ac) (hv : Rw acC w v l) (hn : l.length ≤ 100000) : Does Tryz.prog 181 #[v] w fun r w' => ∃ vo, r = .tuple #[vo, .int .i64 (nrmB l).1] ∧ Rw acC w' vo (nrmB l).2 ∧ OffB w vo ∧ Ext w w' := by
 refine does1 Tryz.func181 rfl (by kernel_rfl) ?_
 obtain ⟨A, c, rfl, hc1, hc2, hA⟩ := hv.op acC_len
 refine gz0 ?_
 refine tcut (α := Value × List Ac) (fun x => [(4, x.1)]) (fun x w' => Rw acC w' x.1 x.2 ∧ OffB w x.1 ∧ x.2.Perm l ∧ OrdL.Wk acLt x.2 ∧ Ext w w' ∧ l.all acOK = true) ?_ ?_
 ·refine goL ?_
  refine tloop (α := Nat × Value × List Ac) (fun x => [(0, .slice A l.length c), (4, x.2.1), (5, .int .i64 (x.1 : Int))]) (RnL acC acOK acLt l w) (fun x => l.length - x.1) (0, .slice none 0 0, []) (sub ⟨rfl, rfl, rfl⟩) ⟨Nat.zero_le _, Rw.nil _ _ (by unfold maxLen; omega), OffB.nil w _, List.Perm.refl _, List.Pairwise.nil, Fr.refl _ _, rfl⟩ ?_
  rintro ⟨i, v4, m⟩ w3 ⟨hi, hrw, hoff, hp, hw, hE3, hok⟩
  dsimp only at hi hrw hoff hp hw hE3 hok ⊢
  have hml : m.length = i := by have := hp.length_eq; rw [List.length_take] at this; omega
  have hvl := hrw
  obtain ⟨AL, cL, rfl, _, _, hAL⟩ := hrw.op acC_len
  by_cases hlt : i < l.length
  ·obtain ⟨b, o, x, rfl, _, hx, hdr, hcell⟩ := hA.at_ hlt
   have hxc : ∀ j u, (acC x)[j]? = some u → w3.cell? ⟨b, o + i * 3 + j, none⟩ = some u := fun j u hu => hE3.cell (hcell j u hu)
   refine gz8 ?_
   refine xldz (cs := acC x) rfl rfl hxc ?_
   refine xcallE rfl rfl (race_does w3 x) (fun r w6 h6 => ?_)
   obtain ⟨rfl, hE6⟩ := h6
   have hE06 : Ext w w6 := hE3.t hE6
   cases hg : acOK x with
   | false =>
    have hb : l.all acOK = false := by
     cases e : l.all acOK with
     | false => rfl
     | true => rw [List.all_eq_true.1 e x (List.mem_of_getElem? hx)] at hg; cases hg
    have e : nrmB l = (1, []) := nrmB_bad (nrm_bad hb) (by decide)
    rw [e]
    refine goL ?_
    exact tret2 rfl rfl rfl ⟨_, rfl, Rw.nil _ _ (by unfold maxLen; omega), OffB.nil w _, hE06⟩
   | true =>
    refine gz0 ?_
    refine tcut (α := Nat) (fun k => [(0, .slice (some ⟨b, o, none⟩) l.length c), (4, .slice AL m.length cL), (5, .int .i64 (i : Int)), (6, .int .i64 (k : Int))]) (fun k w' => Ext w6 w' ∧ k ≤ m.length ∧ (∀ y ∈ m.drop k, acLt x y = true) ∧ ∀ y ∈ (m.take k).getLast?, acLt x y = false) ?_ ?_
    ·refine goL ?_
     refine tloop (α := Nat) (fun k => [(0, .slice (some ⟨b, o, none⟩) l.length c), (4, .slice AL m.length cL), (5, .int .i64 (i : Int)), (6, .int .i64 (k : Int))]) (fun k w' => Ext w6 w' ∧ k ≤ m.length ∧ ∀ y ∈ m.drop k, acLt x y = true) (fun k => k) m.length (sub ⟨rfl, rfl, rfl, rfl⟩) ⟨Fr.refl _ _, Nat.le_refl _, fun y hy => by rw [List.drop_length] at hy; cases hy⟩ ?_
     rintro k w7 ⟨hE7, hk, hgo⟩
     by_cases hk0 : 0 < k
     ·obtain ⟨k, rfl⟩ := Nat.exists_eq_succ_of_ne_zero (show k ≠ 0 by omega)
      obtain ⟨b4, o4, y, e4, _, hy, hdy, hcy⟩ := hAL.at_ (i := k) (by omega)
      subst e4
      have hE37 : Ext w3 w7 := hE6.t hE7
      have s0 : ∀ j u, (acC x)[j]? = some u → w7.drew.cell? ⟨b, o + i * 3 + j, none⟩ = some u := fun j u hu => hE37.ed.cell (hxc j u hu)
      have s1 : ∀ j u, (acC y)[j]? = some u → w7.drew.cell? ⟨b4, o4 + k * 3 + j, none⟩ = some u := fun j u hu => hE37.ed.cell (hcy j u hu)
      repeat' (first | refine xizq i (o + i * 3) rfl rfl rfl rfl rfl hlt ?_ | refine xizq k (o4 + k * 3) rfl rfl rfl (by omega) rfl (by omega) ?_ | refine xldz (cs := acC x) rfl rfl s0 ?_ | refine xldz (cs := acC y) rfl rfl s1 ?_ | refine go1L ?_ | fail)
      refine xcallE rfl rfl (raceless_does w7.drew x y) (fun r w8 h8 => ?_)
      obtain ⟨rfl, hE8⟩ := h8
      have hEz : Ext w6 w8 := hE7.d.t hE8
      cases hls : acLt x y with
      | true =>
       refine goL ?_
       exact tfin ⟨k, sub ⟨rfl, rfl, rfl, ieq (by omega)⟩, ⟨hEz, by omega, fun z hz => by
        rw [hdy] at hz
        rcases List.mem_cons.1 hz with e | hz
        ·rw [e]; exact hls
        ·exact hgo z hz⟩, (by show k < k + 1; omega)⟩
      | false =>
       refine goL ?_
       exact tfin ⟨k + 1, sub ⟨rfl, rfl, rfl, rfl⟩, ⟨hEz, hk, hgo, fun z hz => by
        rw [List.take_add_one, hy] at hz
        have e : y = z := by simpa using hz
        rw [← e]; exact hls⟩⟩
     ·exact y76
    ·rintro k w7 ⟨hE7, hk, hbig, hsm⟩
     have hE37 : Ext w3 w7 := hE6.t hE7
     have hwk : OrdL.Wk acLt (m.take k ++ [x] ++ m.drop k) := acLt_ord.ins (by rw [List.take_append_drop]; exact hw) hsm hbig
     have hpm : (m.take k ++ [x] ++ m.drop k).Perm (l.take (i + 1)) := by
      exact y37
     refine goL ?_
     refine xbz0 sl_acs (fun w8 hO8 hE8 hs8 => ?_)
     refine goL ?_
     have hv8 := hvl.ext (hE37.t hE8)
     refine xrw0 acC_len k rfl hv8 rfl rfl rfl hk (fun A8 c8 hR8 => ?_)
     have hl8 : (m.take k).length = k := by rw [List.length_take]; omega
     have hR8' : Row w8 (.slice A8 k c8) k ((m.take k).flatMap acC) := by have := hR8; unfold Rw at this; rw [hl8] at this; exact this
     refine xapz (B := w7.heap.size) (news := (m.take k).flatMap acC) sl_acs rfl (by decide) rfl hO8 rfl hR8' (by rw [flat_len acC_len, hl8]) (acC_one _) (by unfold maxLen; omega) (by omega) (by omega) (fun v9 w9 hO9 hF9 _ => ?_)
     have hO9' : Ow acC 3 w9 w7.heap.size 103 v9 (m.take k) := by unfold Ow; rw [hl8]; simpa using hO9
     have hE79 : Ext w7 w9 := hE8.trans hF9 fun j hj h => by have := (OwnZ.blk hO8 h).1; omega
     have z9 := hE79.size
     have hxc9 : ∀ j u, (acC x)[j]? = some u → w9.drew.cell? ⟨b, o + i * 3 + j, none⟩ = some u := fun j u hu => (hE37.t hE79).ed.cell (hxc j u hu)
     refine gz8 ?_
     refine xldz (cs := acC x) rfl rfl hxc9 ?_
     refine goL ?_
     refine xbz1 sl_acs rfl rfl (by decide) (by decide) (fun w10 hB10 hE10 hs10 => ?_)
     have hE9d : Ext w9 w10 := (Fr.drew _ _).t hE10
     refine xapz (B := w7.heap.size) (news := acC x) sl_acs rfl (by decide) rfl (hO9'.ext hE9d) rfl (blk_row hB10 (by decide) rfl) rfl (fun u hu => acC_one [x] u (by simpa using hu)) (by unfold maxLen; rw [hl8]; omega) (by rw [hl8]; omega) (by have := hE9d.size; omega) (fun v11 w11 hO11 hF11 _ => ?_)
     have hO11' : Ow acC 3 w11 w7.heap.size 103 v11 (m.take k ++ [x]) := Ow.ext1 (l' := [x]) (by simpa using hO11)
     have hE711 : Ext w7 w11 := (hE79.t hE9d).trans hF11 fun j hj h => by have := (hO9'.blk h).1; omega
     have z11 := hE711.size
     refine goL ?_
     have hv11 := hvl.ext (hE37.t hE711)
     refine xrw1 acC_len k rfl hv11 rfl rfl rfl hk (fun A11 c11 hR11 => ?_)
     have hl11 : (m.drop k).length = m.length - k := by rw [List.length_drop]
     have hl12 : (m.take k ++ [x]).length = k + 1 := by rw [List.length_append, hl8]; rfl
     have hR11' : Row w11 (.slice A11 (m.length - k) c11) (m.length - k) ((m.drop k).flatMap acC) := by have := hR11; unfold Rw at this; rw [hl11] at this; exact this
     refine xapz (B := w7.heap.size) (news := (m.drop k).flatMap acC) sl_acs rfl (by decide) rfl hO11' rfl hR11' (by rw [flat_len acC_len, hl11]) (acC_one _) (by unfold maxLen; rw [hl12]; omega) (by rw [hl12]; omega) z11 (fun v12 w12 hO12 hF12 _ => ?_)
     have hO12' : Ow acC 3 w12 w7.heap.size 103 v12 (m.take k ++ [x] ++ m.drop k) := Ow.ext1 (l' := m.drop k) (by rw [hl11]; exact hO12)
     have hE712 : Ext w7 w12 := hE711.trans hF12 fun j hj h => by have := (hO11'.blk h).1; omega
     refine goL ?_
     refine tfin ⟨(i + 1, v12, m.take k ++ [x] ++ m.drop k), sub ⟨rfl, rfl, rfl⟩, ⟨hlt, hO12'.rw, fun b hb => Nat.le_trans (hE3.t hE37).size (hO12'.blk hb).1, hpm, hwk, hE3.t (hE37.t hE712), ?_⟩, (by show l.length - (i + 1) < l.length - i; omega)⟩
     rw [List.take_add_one, hx, List.all_append, hok, Bool.true_and]
     show (List.all [x] acOK) = true
     rw [List.all_cons, hg]
     rfl
  ·exact y83
 ·rintro ⟨v4, m⟩ w1 ⟨hrw, hoff, hp, hw, hE1, hall⟩
  dsimp only at hrw hoff hp hw hE1 hall ⊢
  have hml := hp.length_eq
  obtain ⟨A5, c5, rfl, hc3, hc4, hA5⟩ := id (hrw.op acC_len)
  refine gz0 ?_
  refine tcut (α := Unit) (fun _ => [(4, .slice A5 m.length c5)]) (fun _ w' => Ext w1 w' ∧ ascF acLt none m = true) ?_ ?_
  ·refine goL ?_
   refine tloop (α := Nat) (fun i => [(4, .slice A5 m.length c5), (8, .int .i64 (i : Int))]) (fun i w' => Ext w1 w' ∧ 1 ≤ i ∧ ascF acLt (prevO m i) (m.drop i) = ascF acLt none m) (fun i => m.length + 1 - i) 1 (sub ⟨rfl, rfl⟩) ⟨Fr.refl _ _, Nat.le_refl _, asc_first m⟩ ?_
   rintro i w2 ⟨hE2, hpos, hgo⟩
   by_cases hlt : i < m.length
   ·obtain ⟨k, rfl⟩ : ∃ k, i = k + 1 := ⟨i - 1, by omega⟩
    obtain ⟨b, o, x, rfl, _, hx, hdr, hcell⟩ := hA5.at_ hlt
    obtain ⟨b', o', y, e', _, hy, _, hcell'⟩ := hA5.at_ (i := k) (by omega)
    injection e' with e'
    injection e' with e1 e2
    subst e1; subst e2
    rw [asc_step hy hx] at hgo
    have hE12d : Ext w1 w2.drew := hE2.t (Fr.drew noneB w2)
    have k1 : ∀ j u, (acC y)[j]? = some u → w2.drew.cell? ⟨b, o + k * 3 + j, none⟩ = some u := fun j u hu => hE12d.cell (hcell' j u hu)
    have k2 : ∀ j u, (acC x)[j]? = some u → w2.drew.cell? ⟨b, o + (k + 1) * 3 + j, none⟩ = some u := fun j u hu => hE12d.cell (hcell j u hu)
    repeat' (first | refine xizq k (o + k * 3) rfl rfl rfl (by omega) rfl (by omega) ?_ | refine xizq (k + 1) (o + (k + 1) * 3) rfl rfl rfl rfl rfl hlt ?_ | refine xldz (cs := acC y) rfl rfl k1 ?_ | refine xldz (cs := acC x) rfl rfl k2 ?_ | refine go1L ?_ | fail)
    refine xcallE rfl rfl (raceless_does w2.drew y x) (fun r w3 h3 => ?_)
    obtain ⟨rfl, hE3⟩ := h3
    have hE13 : Ext w1 w3 := hE12d.t hE3
    cases hl2 : acLt y x with
    | false =>
     rw [hl2, Bool.false_and] at hgo
     have e : nrmB l = (6, []) := nrmB_bad (nrm_dup hall acLt_ord hp hw hgo.symm) (by decide)
     rw [e]
     refine goL ?_
     exact tret2 rfl rfl rfl ⟨_, rfl, Rw.nil _ _ (by unfold maxLen; omega), OffB.nil w _, hE1.t hE13⟩
    | true =>
     rw [hl2, Bool.true_and] at hgo
     refine goL ?_
     exact tfin ⟨k + 1 + 1, sub ⟨rfl, rfl⟩, ⟨hE13, by omega, hgo⟩, (by show m.length + 1 - (k + 1 + 1) < m.length + 1 - (k + 1); omega)⟩
   ·rw [asc_done (by omega)] at hgo
    refine goL ?_
    exact tfin ⟨(), sub rfl, hE2, hgo.symm⟩
  ·rintro _ w2 ⟨hE2, hasc⟩
   have hE02 : Ext w w2 := hE1.t hE2
   by_cases h8 : 16 < m.length
   ·have e : nrmB l = (13, []) := nrmB_bad (nrm_long hall acLt_ord hp hw hasc h8) (by decide)
    exact y46
   ·have hr : nrmG acOK acLt 16 l = (0, m) := nrm_ok hall acLt_ord hp hw hasc h8
    have hrw2 := hrw.ext hE2
    refine goL ?_
    refine xcallE rfl rfl (rneeds_does w2 _ m hrw2) (fun r w3 h3 => ?_)
    obtain ⟨rfl, rfl⟩ := h3
    cases hnd : needsP m with
    | true =>
     have e : nrmB l = (7, []) := nrmB_needs hr hp hnd
     exact y46
    | false =>
     have e : nrmB l = (0, m) := nrmB_fine hr hp hnd
     rw [e]
     refine goL ?_
     exact tret2 rfl rfl rfl ⟨_, rfl, hrw2, hoff, hE02⟩
end
section
theorem Fr.eel {a b : World} (h : Fr noneB a b) : Ext a b := h
attribute [local irreducible] xs T
def fewM (n : Nd) : Bool := n.attrs.all (fun a => decide (a.name.length ≤ 250) && decide (a.value.length ≤ 250)) && decide (n.attrs.length ≤ 12) && decide (n.acl.length ≤ 20)
def fewN (n : Nd) : Bool := n.data.all (fun p => decide (p.data.length ≤ 300)) && decide (n.data.length ≤ 20) && decide (n.target.length ≤ 300) && fewM n
def fewT (t : Tre) : Bool := t.es.all (fun e => decide (e.path.length ≤ 120)) && t.ns.all fewN && decide (t.es.length ≤ 30) && decide (t.ns.length ≤ 30)
theorem all_drop {α : Type} {p : α → Bool} {l : List α} {i : Nat} {x : α} (h : l[i]? = some x) : (l.drop i).all p = (p x && (l.drop (i + 1)).all p) := by
 rw [drop_get h, List.all_cons]
theorem few4_does (w : World) (x : NdV) (hx : NdIn w x) : Does Tryz.prog 140 #[.agg (mtC x).toArray] w fun r w' => r = .bool (fewM x.n) ∧ Ext w w' := by
 refine does1 Tryz.func140 rfl (by kernel_rfl) ?_
 obtain ⟨A, c, eva, hc1, hc2, hA⟩ := hx.a.op attC_len
 obtain ⟨A2, c2, evc, _, _, _⟩ := hx.c.op acC_len
 refine goL ?_
 refine xbox rfl (fun w1 hB1 hE1 hs1 => ?_)
 have hB : Blk w1 w.heap.size 64 (mtC x).toArray := hB1
 have k4 : w1.cell? ⟨w.heap.size, 4, none⟩ = some (.slice A x.n.attrs.length c) := by rw [← eva]; exact hB.cell 4
 have k5 : w1.cell? ⟨w.heap.size, 5, none⟩ = some (.slice A2 x.n.acl.length c2) := by rw [← evc]; exact hB.cell 5
 refine goL ?_
 refine tloop (α := Nat) (fun i => [(1, .pointer (some ⟨w.heap.size, 0, none⟩)), (3, .int .i64 (i : Int))]) (fun i w' => Ext w1 w' ∧ i ≤ x.n.attrs.length ∧ ((x.n.attrs.drop i).all (fun a => decide (a.name.length ≤ 250) && decide (a.value.length ≤ 250)) && decide (x.n.attrs.length ≤ 12) && decide (x.n.acl.length ≤ 20)) = fewM x.n) (fun i => x.n.attrs.length - i) 0 (sub ⟨rfl, rfl⟩) ⟨Fr.refl _ _, Nat.zero_le _, rfl⟩ ?_
 rintro i w2 ⟨hE2, hi, hgo⟩
 have m4 : w2.cell? ⟨w.heap.size, 4, none⟩ = some (.slice A x.n.attrs.length c) := hE2.cell k4
 have m5 : w2.cell? ⟨w.heap.size, 5, none⟩ = some (.slice A2 x.n.acl.length c2) := hE2.cell k5
 by_cases hlt : i < x.n.attrs.length
 ·obtain ⟨b, o, a, rfl, _, ha, _, hcell⟩ := hA.at_ hlt
  have c0 : w2.cell? ⟨b, o + i * 2 + 0, none⟩ = some (.string (su a.name)) := (hE1.t hE2).eel.cell (hcell 0 _ rfl)
  have c1 : w2.cell? ⟨b, o + i * 2 + 1, none⟩ = some (.string (su a.value)) := (hE1.t hE2).eel.cell (hcell 1 _ rfl)
  rw [all_drop ha] at hgo
  by_cases h1 : a.name.length ≤ 250
  ·rw [decide_eq_true h1] at hgo
   by_cases h2 : a.value.length ≤ 250
   ·rw [decide_eq_true h2] at hgo
    refine gz10 ?_
    exact tfin ⟨i + 1, sub ⟨rfl, rfl⟩, ⟨hE2, hlt, by rw [← hgo]; simp⟩, (by show x.n.attrs.length - (i + 1) < x.n.attrs.length - i; omega)⟩
   ·rw [decide_eq_false h2] at hgo
    exact y55
  ·rw [decide_eq_false h1] at hgo
   exact y55
 ·obtain rfl : i = x.n.attrs.length := by omega
  rw [List.drop_length, List.all_nil, Bool.true_and] at hgo
  by_cases h1 : x.n.attrs.length ≤ 12
  ·rw [decide_eq_true h1, Bool.true_and] at hgo
   by_cases h2 : x.n.acl.length ≤ 20
   ·rw [decide_eq_true h2] at hgo
    refine goL ?_
    exact y99
   ·rw [decide_eq_false h2] at hgo
    refine goL ?_
    exact y99
  ·rw [decide_eq_false h1, Bool.false_and] at hgo
   refine goL ?_
   exact y99
theorem few5_does (w : World) (x : NdV) (hx : NdIn w x) : Does Tryz.prog 89 #[.agg (ndC x).toArray] w fun r w' => r = .bool (fewN x.n) ∧ Ext w w' := by
 refine does1 Tryz.func89 rfl (by kernel_rfl) ?_
 obtain ⟨A, c, evd, hc1, hc2, hA⟩ := hx.d.op pcC_len
 refine goL ?_
 refine xbox rfl (fun w1 hB1 hE1 hs1 => ?_)
 have hB : Blk w1 w.heap.size 67 (ndC x).toArray := hB1
 have k8 : w1.cell? ⟨w.heap.size, 8, none⟩ = some (.slice A x.n.data.length c) := by rw [← evd]; exact hB.cell 8
 have k9 : w1.cell? ⟨w.heap.size, 9, none⟩ = some (.string (su x.n.target)) := hB.cell 9
 have hmt : ∀ j u, (mtC x)[j]? = some u → w1.cell? ⟨w.heap.size, 0 + 1 + j, none⟩ = some u := fun j u hu => by rw [Nat.zero_add, hB.cell]; exact mt_get hu
 refine goL ?_
 refine tloop (α := Nat) (fun i => [(1, .pointer (some ⟨w.heap.size, 0, none⟩)), (3, .int .i64 (i : Int))]) (fun i w' => Ext w1 w' ∧ i ≤ x.n.data.length ∧ ((x.n.data.drop i).all (fun p => decide (p.data.length ≤ 300)) && decide (x.n.data.length ≤ 20) && decide (x.n.target.length ≤ 300) && fewM x.n) = fewN x.n) (fun i => x.n.data.length - i) 0 (sub ⟨rfl, rfl⟩) ⟨Fr.refl _ _, Nat.zero_le _, rfl⟩ ?_
 rintro i w2 ⟨hE2, hi, hgo⟩
 have m8 : w2.cell? ⟨w.heap.size, 8, none⟩ = some (.slice A x.n.data.length c) := hE2.cell k8
 have m9 : w2.cell? ⟨w.heap.size, 9, none⟩ = some (.string (su x.n.target)) := hE2.cell k9
 by_cases hlt : i < x.n.data.length
 ·obtain ⟨b, o, a, rfl, _, ha, _, hcell⟩ := hA.at_ hlt
  have c1 : w2.cell? ⟨b, o + i * 2 + 1, none⟩ = some (.string (su a.data)) := (hE1.t hE2).eel.cell (hcell 1 _ rfl)
  rw [all_drop ha] at hgo
  by_cases h1 : a.data.length ≤ 300
  ·rw [decide_eq_true h1, Bool.true_and] at hgo
   refine gz10 ?_
   exact tfin ⟨i + 1, sub ⟨rfl, rfl⟩, ⟨hE2, hlt, hgo⟩, (by show x.n.data.length - (i + 1) < x.n.data.length - i; omega)⟩
  ·rw [decide_eq_false h1] at hgo
   exact y55
 ·obtain rfl : i = x.n.data.length := by omega
  rw [List.drop_length, List.all_nil, Bool.true_and] at hgo
  by_cases h1 : x.n.data.length ≤ 20
  ·rw [decide_eq_true h1, Bool.true_and] at hgo
   by_cases h2 : x.n.target.length ≤ 300
   ·rw [decide_eq_true h2, Bool.true_and] at hgo
    refine gz19 ?_
    refine xldz (cs := mtC x) rfl rfl (fun j u hu => hE2.cell (hmt j u hu)) ?_
    refine goL ?_
    refine xcallE rfl rfl (few4_does w2 x (hx.ext (hE1.t hE2))) (fun r w3 h3 => ?_)
    obtain ⟨rfl, hE3⟩ := h3
    refine goL ?_
    exact tret1 rfl rfl ⟨by rw [← hgo], (hE1.t hE2).t hE3⟩
   ·rw [decide_eq_false h2, Bool.false_and] at hgo
    refine gz19 ?_
    exact y99
  ·rw [decide_eq_false h1] at hgo
   refine gz19 ?_
   exact tret1 rfl rfl ⟨by rw [← hgo]; simp, hE1.t hE2⟩
theorem few6_does (w : World) (ve vn : Value) (nvs : List NdV) (t : Tre) (hv : TrV w ve vn nvs t) : Does Tryz.prog 42 #[.agg #[ve, vn]] w fun r w' => r = .bool (fewT t) ∧ Ext w w' := by
 refine does1 Tryz.func42 rfl (by kernel_rfl) ?_
 have hv0 := hv
 obtain ⟨A, c, rfl, hc1, hc2, hA⟩ := hv.e.op enC_len
 obtain ⟨A', c', rfl, hc1', hc2', hA'⟩ := hv.n.op ndC_len
 have hlen := hv.len
 refine goL ?_
 refine xbox rfl (fun w1 hB1 hE1 hs1 => ?_)
 have hB : Blk w1 w.heap.size 29 #[.slice A t.es.length c, .slice A' nvs.length c'] := hB1
 have k0 : w1.cell? ⟨w.heap.size, 0, none⟩ = some (.slice A t.es.length c) := hB.cell 0
 have k1 : w1.cell? ⟨w.heap.size, 1, none⟩ = some (.slice A' t.ns.length c') := by rw [← hlen]; exact hB.cell 1
 refine goL ?_
 refine tloop (α := Nat) (fun i => [(1, .pointer (some ⟨w.heap.size, 0, none⟩)), (3, .int .i64 (i : Int))]) (fun i w' => Ext w1 w' ∧ i ≤ t.es.length ∧ ((t.es.drop i).all (fun e => decide (e.path.length ≤ 120)) && t.ns.all fewN && decide (t.es.length ≤ 30) && decide (t.ns.length ≤ 30)) = fewT t) (fun i => t.es.length - i) 0 (sub ⟨rfl, rfl⟩) ⟨Fr.refl _ _, Nat.zero_le _, rfl⟩ ?_
 rintro i w2 ⟨hE2, hi, hgo⟩
 have m0 : w2.cell? ⟨w.heap.size, 0, none⟩ = some (.slice A t.es.length c) := hE2.cell k0
 by_cases hlt : i < t.es.length
 ·obtain ⟨b, o, e, rfl, _, he, _, hcell⟩ := hA.at_ hlt
  have c0 : w2.cell? ⟨b, o + i * 2 + 0, none⟩ = some (.string (su e.path)) := (hE1.t hE2).eel.cell (hcell 0 _ rfl)
  rw [all_drop he] at hgo
  by_cases h1 : e.path.length ≤ 120
  ·rw [decide_eq_true h1, Bool.true_and] at hgo
   refine gz10 ?_
   exact tfin ⟨i + 1, sub ⟨rfl, rfl⟩, ⟨hE2, hlt, hgo⟩, (by show t.es.length - (i + 1) < t.es.length - i; omega)⟩
  ·rw [decide_eq_false h1] at hgo
   exact y55
 ·obtain rfl : i = t.es.length := by omega
  rw [List.drop_length, List.all_nil, Bool.true_and] at hgo
  refine goL ?_
  refine tloop (α := Nat) (fun i => [(1, .pointer (some ⟨w.heap.size, 0, none⟩)), (4, .int .i64 (i : Int))]) (fun i w' => Ext w1 w' ∧ i ≤ t.ns.length ∧ ((t.ns.drop i).all fewN && decide (t.es.length ≤ 30) && decide (t.ns.length ≤ 30)) = fewT t) (fun i => t.ns.length - i) 0 (sub ⟨rfl, rfl⟩) ⟨hE2, Nat.zero_le _, hgo⟩ ?_
  clear hgo m0 hE2 hi
  rintro i w3 ⟨hE3, hi, hgo⟩
  have m0 : w3.cell? ⟨w.heap.size, 0, none⟩ = some (.slice A t.es.length c) := hE3.cell k0
  have m1 : w3.cell? ⟨w.heap.size, 1, none⟩ = some (.slice A' t.ns.length c') := hE3.cell k1
  by_cases hlt : i < t.ns.length
  ·obtain ⟨b, o, y, rfl, _, hy, _, hcell⟩ := hA'.at_ (i := i) (by omega)
   have hyn := hv0.get hy
   rw [all_drop hyn] at hgo
   refine gz5 ?_
   refine xldz (cs := ndC y) rfl rfl (fun j u hu => (hE1.t hE3).eel.cell (hcell j u hu)) ?_
   refine xcallE rfl rfl (few5_does w3 y ((hv0.i y (List.mem_of_getElem? hy)).ext (hE1.t hE3))) (fun r w4 h4 => ?_)
   obtain ⟨rfl, hE4⟩ := h4
   cases hf : fewN y.n with
   | true =>
    rw [hf, Bool.true_and] at hgo
    refine goL ?_
    exact tfin ⟨i + 1, sub ⟨rfl, rfl⟩, ⟨hE3.t hE4, hlt, hgo⟩, (by show t.ns.length - (i + 1) < t.ns.length - i; omega)⟩
   | false =>
    rw [hf] at hgo
    refine goL ?_
    exact tret1 rfl rfl ⟨by rw [← hgo]; simp, (hE1.t hE3).t hE4⟩
  ·obtain rfl : i = t.ns.length := by omega
   rw [List.drop_length, List.all_nil, Bool.true_and] at hgo
   by_cases h1 : t.es.length ≤ 30
   ·rw [decide_eq_true h1, Bool.true_and] at hgo
    by_cases h2 : t.ns.length ≤ 30
    ·rw [decide_eq_true h2] at hgo
     exact y100
    ·rw [decide_eq_false h2] at hgo
     exact y100
   ·rw [decide_eq_false h1, Bool.false_and] at hgo
    exact y100
theorem few_ok {t : Tre} (h : fewT t = true) : NsOK t.ns ∧ (∀ n ∈ t.ns, NdL n) ∧ TsOK t ∧ t.es.length ≤ 30 ∧ t.ns.length ≤ 30 := by
 unfold fewT at h
 simp only [Bool.and_eq_true, List.all_eq_true, decide_eq_true_eq] at h
 obtain ⟨⟨⟨h1, h2⟩, h3⟩, h4⟩ := h
 have hn : ∀ n ∈ t.ns, bytesP n.data ≤ 6000 ∧ n.target.length ≤ 300 ∧ NdL n := fun n hn => by
  have := h2 n hn
  unfold fewN fewM at this
  simp only [Bool.and_eq_true, List.all_eq_true, decide_eq_true_eq] at this
  obtain ⟨⟨⟨g1, g2⟩, g3⟩, ⟨g4, g5⟩, g6⟩ := this
  refine ⟨?_, g3, ⟨by omega, by omega, by omega⟩⟩
  have key : ∀ l : List Pce, (∀ p ∈ l, p.data.length ≤ 300) → bytesP l ≤ 300 * l.length := by
   intro l
   induction l with
   | nil => intro _; exact Nat.le_refl _
   | cons p l ih =>
    intro h
    have := ih fun q hq => h q (by simp [hq])
    have := h p (by simp)
    rw [bytesP, List.length_cons]
    omega
  have := key n.data g1
  omega
 exact ⟨fun n hnn => by have := (hn n hnn).1; omega, fun n hnn => (hn n hnn).2.2, ⟨fun n hnn => by have := (hn n hnn).1; omega, fun n hnn => by have := (hn n hnn).2.1; omega, fun e he => by have := h1 e he; omega⟩, h3, h4⟩
end
end Go.Proofs.YtiebbecknfpdeaaGreatDoor.Eng
