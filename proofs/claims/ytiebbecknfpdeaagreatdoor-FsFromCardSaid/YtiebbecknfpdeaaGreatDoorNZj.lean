/-
  Parts of the proof: Zj.
-/
import Derived.Lib.Overlaps
import Derived.Test.YtiebbecknfpdeaaGreatDoorNB4
set_option maxRecDepth 100000
set_option maxHeartbeats 64000000
namespace Go.Proofs.YtiebbecknfpdeaaGreatDoor.Eng
open Go.RowKit
section
section
variable {hs : List Nat} {H : World → Prop} {full : Array Oper} {K : Env → World → Prop} {rest : List Oper} {env : Env} {w : World} {d : Tmp} {ty : TypeId} {pos : String} {af : Array Edge}
theorem xsl1e {t : TypeId} {x lo : Operand} {k : IntKind} {b o n c z : Nat} {jl : Int} (l : Nat) (hz : es t = some z) (hx : evo env x = some (.slice (some ⟨b, o, none⟩) n c)) (hlo : evo env lo = some (.int k jl)) (el : jl = l) (h1 : l ≤ n) (h2 : n ≤ c) (h3 : l < c)
  (hc : xs Tryz.prog isI isS hs H full K rest ((d, .slice (some ⟨b, o + l * z, none⟩) (n - l) (c - l)) :: env) w) :
  xs Tryz.prog isI isS hs H full K (⟨some d, .slice t x (some lo) none none, ty, pos, af, none⟩ :: rest) env w := by
 subst el
 refine xsl1 hz hx hlo (by omega) (by omega) h2 (fun A' hA => ?_)
 have e1 := hA b o rfl (by omega)
 rw [Int.toNat_natCast] at e1 ⊢
 rw [e1]
 exact hc
theorem xsl0e {t : TypeId} {x hi : Operand} {k' : IntKind} {b o n c z : Nat} {jh : Int} (h : Nat) (hz : es t = some z) (hx : evo env x = some (.slice (some ⟨b, o, none⟩) n c)) (hhi : evo env hi = some (.int k' jh)) (eh : jh = h) (h2 : h ≤ c) (h3 : 0 < c)
  (hc : xs Tryz.prog isI isS hs H full K rest ((d, .slice (some ⟨b, o, none⟩) h c) :: env) w) :
  xs Tryz.prog isI isS hs H full K (⟨some d, .slice t x none (some hi) none, ty, pos, af, none⟩ :: rest) env w := by
 subst eh
 refine xsl0 hz hx hhi (by omega) (by omega) (fun A' hA => ?_)
 have e1 := hA b o rfl h3
 rw [Int.toNat_natCast, e1]
 exact hc
theorem xcap {t : TypeId} {x : Operand} {A : Option Addr} {n c z : Nat} (hz : es t = some z) (hx : evo env x = some (.slice A n c)) (h : xs Tryz.prog isI isS hs H full K rest ((d, .int .i64 c) :: env) w) (hH : H w := by trivial) :
  xs Tryz.prog isI isS hs H full K (⟨some d, .call { callee := .builtin .cap, args := ⟨[x]⟩, argTypes := ⟨[t]⟩ }, ty, pos, af, none⟩ :: rest) env w := by
 obtain ⟨e, i, hu, hi', hsz⟩ := es_spec hz
 have hrun : (Builtin.cap_ #[t] ty #[.slice A n c]).run Tryz.prog w = .ok (goInt c) w := by simp [Builtin.cap_, run_underlying hu]
 refine xw (v := goInt c) (w' := w) (by simp [opsOK, Op.operands, Call.operands, hx]) rfl ?_ h hH
 simp [execOp, resolve, invoke, builtin, ev_of hx, hrun]
end
theorem put_two {vs P X D : List Value} {a n : Nat} (hP : vs.take a = P) (ha : P.length = a) (hn : vs.length = n) (hX : a + X.length ≤ n) (hD : a + X.length + D.length = n) :
  (vs.take a ++ X ++ vs.drop (a + X.length)).take (a + X.length) ++ D ++ (vs.take a ++ X ++ vs.drop (a + X.length)).drop (a + X.length + D.length) = P ++ (X ++ D) := by
 have h1 : (vs.take a ++ X).length = a + X.length := by rw [List.length_append, hP, ha]
 rw [List.take_append_of_le_length (by omega), List.take_of_length_le (by omega), List.drop_eq_nil_of_le (by rw [List.length_append, h1, List.length_drop]; omega), hP, List.append_nil, List.append_assoc]
theorem put_back {vs P X D : List Value} {a n : Nat} (hP : vs.take a = P) (_ : P.length = a) (hn : vs.length = n) (hD : a + X.length + D.length = n) :
  (vs.take (a + X.length) ++ D ++ vs.drop (a + X.length + D.length)).take a ++ X ++ (vs.take (a + X.length) ++ D ++ vs.drop (a + X.length + D.length)).drop (a + X.length) = P ++ (X ++ D) := by
 have h1 : (vs.take (a + X.length)).length = a + X.length := by rw [List.length_take]; omega
 have h2 : vs.drop (a + X.length + D.length) = [] := List.drop_eq_nil_of_le (by omega)
 have h3 : (vs.take (a + X.length)).take a = P := by rw [List.take_take, show min a (a + X.length) = a from by omega, hP]
 rw [h2, List.append_nil]
 generalize vs.take (a + X.length) = Q at h1 h3 ⊢
 rw [List.take_append_of_le_length (by omega), h3, List.drop_left' h1, List.append_assoc]
theorem over_no {w : World} {g gv o c n m : Nat} {t t' : TypeId} {cs cs' : Array Value} {r : Array TypeId} (hV : Blk w gv t cs) (hB : Blk w g t' cs') (hne : gv ≠ g) (h0 : cs'.size ≠ 0) :
  (Extern.SlicesOverlaps.overlaps #[26, 26] r #[.slice (some ⟨gv, 0, none⟩) n n, .slice (some ⟨g, o, none⟩) m c]).run Tryz.prog w = .ok (.bool false) w := by
 have hsz : ∀ w, (Go.sizeOf 54).run Tryz.prog w = .ok 2 w := fun w => by
  have hz : (Tryz.prog.info? 54).map (·.size) = some 2 := by kernel_rfl
  cases hi : Tryz.prog.info? 54 with
  | none => rw [hi] at hz; cases hz
  | some i =>
   rw [hi] at hz
   simp only [Option.map_some, Option.some.injEq] at hz
   simp [sizeOf, typeInfo, hi, hz]
 have h1 : w.shape? gv = some (t, cs.size) := by
  have : w.heap[gv]? = some (.cells cs t (0, 0)) := hV
  simp [World.shape?, this]
 have h2 : w.shape? g = some (t', cs'.size) := by
  have : w.heap[g]? = some (.cells cs' t' (0, 0)) := hB
  simp [World.shape?, this]
 exact Lib.run_overlaps_apart w 26 4 54 Tryz.underlying26 2 hsz ⟨gv, 0, none⟩ ⟨g, o, none⟩ n n m c hne t t' cs.size cs'.size h1 h2 h0 (hV.frozen 0) (hV.frozen cs.size)
attribute [local irreducible] xs T
theorem insert_does (w : World) (B g gv c i : Nat) (l : List En) (x : En) (hO : Ow enC 2 w B 54 (.slice (some ⟨g, 0, none⟩) l.length c) l) (hV : Blk w gv 54 (enC x).toArray) (hne : gv ≠ g) (hi : i ≤ l.length) (h0 : 0 < l.length) (hl : l.length ≤ 1000000) :
  Does Tryz.prog 129 #[.slice (some ⟨g, 0, none⟩) l.length c, .int .i64 (i : Int), .slice (some ⟨gv, 0, none⟩) 1 1] w fun r w' => Ow enC 2 w' B 54 r (l.take i ++ x :: l.drop i) ∧ Fr (· = g) w w' ∧ ∀ b, r.ownBlock = some b → b = g ∨ w.heap.size ≤ b := by
 refine does3 Tryz.func129 rfl (by kernel_rfl) ?_
 obtain ⟨hlen, hO2⟩ := id hO
 rcases hO2 with ⟨e1, _⟩ | ⟨g', cap, cur, e1, hBg, hB0, hlc, hcm, hcs, htk⟩
 ·cases e1
 injection e1 with e1 _ e3
 injection e1 with e1
 injection e1 with e1
 subst e1; subst e3
 have hB : Blk w g 54 cur := hB0
 have hgs := hB.lt
 have hcm' : c ≤ 9223372036854775807 := hcm
 have hfl := flat_len enC_len l
 have hres : (l.take i ++ x :: l.drop i).length = l.length + 1 := by rw [List.length_append, List.length_take, List.length_cons, List.length_drop]; omega
 have hfm : (l.take i ++ x :: l.drop i).flatMap enC = (l.take i).flatMap enC ++ (enC x ++ (l.drop i).flatMap enC) := by rw [List.flatMap_append, List.flatMap_cons]
 have hPl : ((l.take i).flatMap enC).length = i * 2 := by rw [flat_len enC_len, List.length_take]; congr 1; omega
 have hDl : ((l.drop i).flatMap enC).length = (l.length - i) * 2 := by rw [flat_len enC_len, List.length_drop]
 have hsp : l.flatMap enC = (l.take i).flatMap enC ++ (l.drop i).flatMap enC := by rw [← List.flatMap_append, List.take_append_drop]
 have hrow : ∀ j u, (l.flatMap enC)[j]? = some u → w.cell? ⟨g, j, none⟩ = some u := fun j u hu => by
  rw [hB.cell, ← Array.getElem?_toList]
  rw [← htk] at hu
  exact (List.getElem?_take_of_lt (by have := (List.getElem?_eq_some_iff.1 hu).1; rw [List.length_take] at this; omega)).symm.trans hu
 have hP : ∀ j u, ((l.take i).flatMap enC)[j]? = some u → w.cell? ⟨g, 0 + j, none⟩ = some u := fun j u hu => by
  rw [Nat.zero_add]
  refine hrow j u ?_
  rw [hsp, List.getElem?_append_left (List.getElem?_eq_some_iff.1 hu).1]
  exact hu
 have hD : ∀ j u, ((l.drop i).flatMap enC)[j]? = some u → w.cell? ⟨g, i * 2 + j, none⟩ = some u := fun j u hu => by
  refine hrow _ u ?_
  rw [hsp, List.getElem?_append_right (by omega), hPl, Nat.add_sub_cancel_left]
  exact hu
 have hX : ∀ j u, (enC x)[j]? = some u → w.cell? ⟨gv, 0 + j, none⟩ = some u := fun j u hu => by
  rw [Nat.zero_add, hV.cell, List.getElem?_toArray]
  exact hu
 have hone : ∀ (l : List En), ∀ u ∈ l.flatMap enC, u.oneCell' = true := fun l => enC_one l
 have honx : ∀ u ∈ enC x, u.oneCell' = true := fun u hu => by have := enC_one [x] u; simp at this; exact this hu
 by_cases he : i = l.length
 ·subst he
  repeat' (first | refine xsl1 rfl rfl rfl (by omega) (by omega) hlc (fun A1 _ => ?_) | refine go1L ?_ | fail)
  have hO' := hO
  unfold Ow at hO'
  refine xapz (news := enC x) sl_ents rfl (by decide) rfl hO' rfl (blk_row hV (by decide) rfl) rfl honx (by unfold maxLen; omega) (by omega) (by omega) (fun v2 w2 hO2 hF2 hv2 => ?_)
  refine goL ?_
  refine tret1 rfl rfl ⟨?_, hF2.mono fun k _ h => by injection h with h; exact h.symm, fun b hb => ?_⟩
  ·rw [List.take_length, List.drop_length]
   exact Ow.ext1 (l' := [x]) (by simpa using hO2)
  ·rcases hv2 with h | h
   ·rw [h] at hb; injection hb with hb; exact .inl hb.symm
   ·rw [h] at hb; injection hb with hb; exact .inr (by omega)
 have hlt : i < l.length := by omega
 have hci : i < c := by omega
 by_cases hg : c < l.length + 1
 ·repeat' (first | refine xcap rfl rfl ?_ | refine xsl1e i rfl rfl rfl (by omega) hi hlc hci ?_ | refine xsl0e i rfl rfl rfl (by omega) (by omega) (by omega) ?_ | refine go1L ?_ | fail)
  refine xapq (k := l.length + 1 - i) (olds := (l.take i).flatMap enC) sl_ents Tryz.underlying3 rfl (by decide) rfl hPl hP rfl (by omega) (by omega) (by omega) (by unfold maxLen; omega) (by omega) (fun v2 w2 zs hO2 hzl hE2 => ?_)
  have hil : i + (l.length + 1 - i) = l.length + 1 := by omega
  rw [hil] at hO2
  obtain ⟨g2, c2, rfl, hg2, hgl2, hc21, hc22, _⟩ := hO2.go (by omega)
  repeat' (first | refine xsl1e i rfl rfl rfl (by omega) (by omega) hc21 (by omega) ?_ | refine go1L ?_ | fail)
  refine xcpz (z := 2) (cs := enC x) rfl hO2 rfl rfl (by show 2 = _; omega) (fun j u hu => hE2.cell (hX j u hu)) (by show _ + 2 ≤ _; omega) honx (fun w3 hO3 hF3 => ?_)
  repeat' (first | refine xsl1e (i + 1) rfl rfl rfl (by omega) (by omega) hc21 (by omega) ?_ | refine xsl1e i rfl rfl rfl (by omega) (by omega) hlc hci ?_ | refine go1L ?_ | fail)
  refine xcpz (z := 2) (cs := (l.drop i).flatMap enC) rfl hO3 rfl rfl (by rw [hDl]; omega) (fun j u hu => by rw [Nat.zero_add]; exact hF3.cell (hE2.cell (hD j u hu)) (show ¬ g = g2 by omega)) (by rw [hDl]; omega) (hone _) (fun w4 hO4 hF4 => ?_)
  refine goL ?_
  refine tret1 rfl rfl ⟨?_, ?_, fun b hb => .inr (by have h9 : g2 = b := Option.some.inj hb; omega)⟩
  ·unfold Ow
   rw [hres, hfm]
   have h5 := put_two (vs := (l.take i).flatMap enC ++ zs) (P := (l.take i).flatMap enC) (X := enC x) (D := (l.drop i).flatMap enC) (a := i * 2) (n := (l.length + 1) * 2) (by rw [← hPl, List.take_left]) hPl hO2.len (by show _ + 2 ≤ _; omega) (by show _ + 2 + _ = _; rw [hDl]; omega)
   have e1 : 0 + i * 2 = i * 2 := Nat.zero_add _
   have e2 : 0 + (i + 1) * 2 = i * 2 + (enC x).length := by show _ = i * 2 + 2; omega
   rw [e1, e2] at hO4
   rw [h5] at hO4
   exact hO4.mono (by omega)
  ·have hE4 : Ext w w4 := (hE2.trans hF3 fun j hj e => by have : j = g2 := e; omega).d.trans hF4 fun j hj e => by have : j = g2 := e; omega
   exact hE4.fr
 ·obtain ⟨rr, hOg⟩ := OwnZ.grow (n' := l.length + 1) hO (by omega) (by omega)
  have hcz : cur.size ≠ 0 := by omega
  repeat' (first | refine xcap rfl rfl ?_ | refine xsl1e i rfl rfl rfl (by omega) hi hlc hci ?_ | refine xsl0e (l.length + 1) rfl rfl rfl (by omega) (by omega) (by omega) ?_ | refine xsl1e (i + 1) rfl rfl rfl (by omega) (by omega) (by omega) (by omega) ?_ | refine go1L ?_ | fail)
  refine xext (e := Extern.SlicesOverlaps.overlaps #[26, 26] #[4]) Tryz.func167 (by kernel_rfl) (by kernel_rfl) (by kernel_rfl) (by kernel_rfl) rfl (over_no hV hB hne hcz) ?_
  repeat' (first | refine xsl1e (i + 1) rfl rfl rfl (by omega) (by omega) (by omega) (by omega) ?_ | refine xsl1e i rfl rfl rfl (by omega) (by omega) (by omega) (by omega) ?_ | refine go1L ?_ | fail)
  refine xcpz (z := 2) (cs := (l.drop i).flatMap enC) rfl hOg rfl rfl (by rw [hDl]; omega) (fun j u hu => by rw [Nat.zero_add]; exact hD j u hu) (by rw [hDl]; omega) (hone _) (fun w3 hO3 hF3 => ?_)
  repeat' (first | refine xsl1e i rfl rfl rfl (by omega) (by omega) (by omega) (by omega) ?_ | refine go1L ?_ | fail)
  refine xcpz (z := 2) (cs := enC x) rfl hO3 rfl rfl (by show 2 = _; omega) (fun j u hu => hF3.cell (hX j u hu) hne) (by show _ + 2 ≤ _; omega) honx (fun w4 hO4 hF4 => ?_)
  refine goL ?_
  refine tret1 rfl rfl ⟨?_, (Fr.drew _ w).t (hF3.t hF4), fun b hb => .inl (by have h9 : g = b := Option.some.inj hb; exact h9.symm)⟩
  unfold Ow
  rw [hres, hfm]
  have h5 := put_back (vs := l.flatMap enC ++ rr) (P := (l.take i).flatMap enC) (X := enC x) (D := (l.drop i).flatMap enC) (a := i * 2) (n := (l.length + 1) * 2) (by rw [hsp, List.append_assoc, ← hPl, List.take_left]) hPl hOg.len (by show _ + 2 + _ = _; rw [hDl]; omega)
  have e1 : 0 + i * 2 = i * 2 := Nat.zero_add _
  have e2 : 0 + (i + 1) * 2 = i * 2 + (enC x).length := by show _ = i * 2 + 2; omega
  rw [e1, e2] at hO4
  rw [h5] at hO4
  exact hO4
end
end Go.Proofs.YtiebbecknfpdeaaGreatDoor.Eng
