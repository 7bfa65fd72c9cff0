/-
  The filesystem's laws: FsLinks.
-/
import Derived.Test.YtiebbecknfpdeaaGreatDoorQB12b
import Derived.Test.YtiebbecknfpdeaaGreatDoorQFf
namespace Go.Proofs.YtiebbecknfpdeaaGreatDoor
open Go.RowKit
namespace Eng
/-- A row of strings lies beside a filesystem. -/
theorem FsO.apartS {w : World} {B g B' : Nat} {m : FsM} {vf ve vn v : Value} {nvs : List NdV} {t : Tre} {l : List Str} (h : FsO w B g m vf ve vn nvs t) (hv : Ow stC 1 w B' 9 v l) {b : Nat} (hb : FsA g vf ve vn nvs b) : ¬ v.ownBlock = some b := fun e => by
  obtain ⟨cm, hm⟩ := hv.typ e
  rcases hb with rfl | hb | hb | hb | ⟨x, hx, hb | hb | hb⟩
  · exact hm.ne_ h.i.k (by decide) rfl
  · exact hv.apart h.f (by decide) e hb
  · exact hv.apart h.o.e (by decide) e hb
  · exact hv.apart h.o.n (by decide) e hb
  · exact hv.apart (h.o.i x hx).a (by decide) e hb
  · exact hv.apart (h.o.i x hx).c (by decide) e hb
  · exact hv.apart (h.o.i x hx).d (by decide) e hb
theorem Ow.frS {w w' : World} {B g B' : Nat} {m m' : FsM} {vf ve vn ve' vn' v : Value} {nvs nvs' : List NdV} {t t' : Tre} {l : List Str} (hv : Ow stC 1 w B' 9 v l) (h : FsO w B g m vf ve vn nvs t) (hS : FsS w B g vf ve vn nvs w' m' t' ve' vn' nvs') : Ow stC 1 w' B' 9 v l :=
  hv.fr hS.f fun _ hb hK => h.apartS hv (FsA.of hK) hb
/-- Names, and paths linked so far. -/
structure LkI (w1 : World) (B g : Nat) (vf : Value) (k : Nat) (x : Nat × Value) (w' : World) : Prop where
  il : x.1 ≤ k
  xl : ∃ r ve vn nvs, FsO w' B g (qM 1000 ((x.1 : Int) + 1)) vf ve vn nvs (lkT x.1 r (lkF 1)) ∧ FsG (lkT x.1 r (lkF 1))
  ol : Ow stC 1 w' B 9 x.2 (lkN x.1)
  fl : Fr (B ≤ ·) w1 w'
structure LkJ (w1 : World) (B g : Nat) (vf va : Value) (k b : Nat) (s : Str) (r : Int) (j : Nat) (w' : World) : Prop where
  il : j ≤ k + 1
  xl : ∃ ve vn nvs, FsO w' B g (qM 1000 ((k : Int) + 6 + j)) vf ve vn nvs (lkG k b r (lkQ s))
  ol : Ow stC 1 w' B 9 va (lkN k)
  fl : Fr (B ≤ ·) w1 w'
attribute [local irreducible] xs T
set_option maxRecDepth 20000 in
set_option maxHeartbeats 32000000 in
theorem fsLinks_core (w : World) (s : Str) (zn zb zg : Int) : Does Tryz.prog 9 #[.string (su s), .int .i64 zn, .int .i64 zb, .int .i64 zg] w fun r w' => r = .bool true ∧ Ext w w' := by
  refine does4 Tryz.func9 rfl (by kernel_rfl) ?_
  have hub := uN_lt zn
  have hvb := uN_lt zb
  have hwb := uN_lt zg
  by_cases hs : 100 < s.length
  · repeat' (first | refine xuln rfl rfl ?_ | refine go1L ?_ | fail)
    refine xcall rfl rfl (told7_does w) ?_
    rintro r w1 ⟨rfl, hE1⟩
    refine goL ?_
    exact tret1 rfl rfl ⟨rfl, hE1⟩
  have hs1 : s.length ≤ 100 := by omega
  repeat' (first | refine xuln rfl rfl ?_ | refine go1L ?_ | fail)
  refine xcall rfl rfl (new_does w (.slice none 0 0) 1000 [] (Rw.nil _ _ (by decide)) (by decide)) ?_
  rintro r w1 ⟨hE1, hr⟩
  rcases hr with ⟨hr, _⟩ | ⟨_, g, vf, ve, vn, nvs, rfl, hO1⟩
  · exact absurd rfl hr
  have hO1 : FsO w1 w.heap.size g (qM 1000 0) vf ve vn nvs rootT := hO1
  refine goL ?_
  refine xbd (cells := (ndC (kV 2)).toArray) rfl (by kernel_rfl) ?_
  refine goL ?_
  refine xcall rfl rfl (make_does w1 w.heap.size g (qM 1000 0) vf ve vn nvs rootT [97] (kV 2) hO1 (kV_in _ _) (fun b hb => absurd hb (kV_no _ _)) (by decide) (by decide) (by decide) (by decide)) ?_
  rintro r w2 ⟨rfl, ve2, vn2, nvs2, hS2⟩
  rw [(lk_make 1000).2, (qM_beg _ _).2] at hS2
  rw [(lk_make 1000).1]
  have hG2 : FsG (lkT 0 1 (lkF 1)) := by rw [← (lk_make 1000).2]; exact make_fsg (may_fsg rootT_may) (by decide)
  have hO2 := hS2.o
  repeat' (first | refine xcv (r := ((uN zn : Nat) : Int)) rfl rfl rfl (uN_eq zn) ?_ | refine go1LU ?_ | fail)
  obtain ⟨k, hk⟩ : ∃ k : Nat, k = 1 + uN zn % 5 := ⟨_, rfl⟩
  have hkz : 1 + ((uN zn : Nat) : Int) % 5 = (k : Int) := by omega
  rw [hkz]
  have hk5 : 1 ≤ k ∧ k ≤ 5 := by omega
  clear hk hkz
  refine xbs (vs := stC [97]) sl_strs rfl rfl (by decide) (by decide) (fun u hu => by rw [List.mem_singleton.1 hu]; rfl) (fun w3 hB3 hE3 hs3 => ?_)
  have zw2 : w.heap.size ≤ w2.heap.size := by have := hE1.size; have := hS2.f.size; omega
  have hOv3 : Ow stC 1 w3 w.heap.size 9 (.slice (some ⟨w2.heap.size, 0, none⟩) 1 1) (lkN 0) := Ow.of_blk stC_len hB3 rfl zw2 rfl (by decide)
  refine goL ?_
  refine tloop (α := Nat × Value) (fun x => [(0, .string (su s)), (2, .int .i64 zb), (3, .int .i64 zg), (9, .pointer (some ⟨g, 0, none⟩)), (10, .int .i64 (k : Int)), (11, x.2), (12, .int .i64 (x.1 : Int))]) (LkI w1 w.heap.size g vf k) (fun x => k - x.1) (0, .slice (some ⟨w2.heap.size, 0, none⟩) 1 1) (sub ⟨rfl, rfl, rfl, rfl, rfl, rfl, rfl⟩)
    ⟨Nat.zero_le _, ⟨1, ve2, vn2, nvs2, hO2.ext hE3, hG2⟩, hOv3, (hS2.frB hO1).te hE3⟩ ?_
  rintro ⟨i, va⟩ y0 ⟨hi, ⟨r, v1, v2, n0, hO0, hG0⟩, hOv, hF0⟩
  dsimp only at hi hO0 hG0 hOv ⊢
  obtain ⟨A, c, rfl, hc1, hc2, hA⟩ := hOv.rw.op stC_len
  rw [lkN_len] at hc1 ⊢
  have hcell : ∀ j, j ≤ i → ∃ b o, A = some ⟨b, o, none⟩ ∧ y0.cell? ⟨b, o + j, none⟩ = some (.string (su ((lkN i).getD j []))) := fun j hj => by
    obtain ⟨b, o, q, e, _, hq, _, hcl⟩ := hA.at_ (i := j) (by rw [lkN_len]; omega)
    have := hcl 0 _ rfl
    rw [Nat.mul_one, Nat.add_zero] at this
    rw [lkN_get hj] at hq
    exact ⟨b, o, e, by rw [Option.some.inj hq]; exact this⟩
  by_cases hlt : i < k
  · obtain ⟨j, hj⟩ : ∃ j : Nat, j = uN zb % (i + 1) := ⟨_, rfl⟩
    have hji : j ≤ i := by rw [hj]; exact Nat.le_of_lt_succ (Nat.mod_lt _ (Nat.succ_pos i))
    have hjz : ((uN zb : Nat) : Int) % ((i + 1 : Nat) : Int) = (j : Int) := by rw [hj]; exact (Int.natCast_emod _ _).symm
    obtain ⟨b, o, rfl, hjc⟩ := hcell j hji
    refine goL ?_
    refine xcall rfl rfl (rdec_does y0 i (by omega)) ?_
    rintro r' y1 ⟨rfl, rfl⟩
    repeat' (first | refine xuadd (a := [108]) rfl rfl (by have := congrArg List.length (lk_dec (i := i) (by omega)); rw [List.length_append] at this; unfold lkP at this; simp only [List.length_cons, List.length_nil] at this ⊢; omega) ?_ | refine xcv (r := ((uN zb : Nat) : Int)) rfl rfl rfl (uN_eq zb) ?_ | refine go1LU ?_ | fail)
    rw [lk_dec (by omega), hjz]
    repeat' (first | refine xisq j (o + j) rfl rfl rfl rfl rfl (by omega) ?_ | refine go1L ?_ | fail)
    obtain ⟨l1, l2⟩ := lk_link (i := i) (j := j) (by omega) hji r ((i : Int) + 1)
    have hG1 := link_fsg (m := qM 1000 ((i : Int) + 1)) (p := lkP i) (q := (lkN i).getD j []) hG0 (by show 0 ≤ (i : Int) + 1 + 1; omega)
    rw [l2] at hG1
    refine xcall rfl rfl (link_does y0 w.heap.size g (qM 1000 ((i : Int) + 1)) vf v1 v2 n0 (lkT i r (lkF 1)) (lkP i) ((lkN i).getD j []) hO0 (by show 0 ≤ (i : Int) + 1 ∧ (i : Int) + 1 ≤ _; omega) (by simp [lkT, lkE]; omega)) ?_
    rintro r' y1 ⟨rfl, v3, n1, hS1⟩
    have hOv1 := hOv.frS hO0 hS1
    rw [l2, (qM_beg _ _).2] at hS1
    rw [l1]
    refine goL ?_
    refine xbs (vs := stC (lkP i)) sl_strs rfl rfl (by decide) (by decide) (fun u hu => by rw [List.mem_singleton.1 hu]; rfl) (fun y2 hB2 hE2 hs2 => ?_)
    have hO2' := hS1.o.ext hE2
    have zy : w.heap.size ≤ y2.heap.size := by have := hE2.size; have := hS1.f.size; have := hS1.o.b; have := hS1.o.i.k.lt; omega
    have h9 : OwnZ y2 w.heap.size 9 1 (.slice (some ⟨b, o, none⟩) (lkN i).length c) (lkN i).length ((lkN i).flatMap stC) := hOv1.ext hE2
    rw [lkN_len] at h9
    refine xapz (B := w.heap.size) (news := stC (lkP i)) sl_strs rfl (by decide) rfl h9 rfl (blk_row hB2 (by decide) rfl) rfl (fun u hu => by rw [List.mem_singleton.1 hu]; rfl) (by unfold maxLen; omega) (by omega) zy (fun vb y3 hOv3' hF3 _ => ?_)
    have hOv3'' : Ow stC 1 y3 w.heap.size 9 vb (lkN (i + 1)) := by rw [lkN_snoc]; exact Ow.ext1 (l' := [lkP i]) (by rw [lkN_len]; simpa using hOv3')
    have hO3' := hO2'.fr hF3 fun b hb hb' => hO2'.apartS (hOv1.ext hE2) hb hb'
    have hF3' : Fr (w.heap.size ≤ ·) y2 y3 := hF3.mono fun b _ hb => ((hOv1.ext hE2).blk hb).1
    refine goL ?_
    exact tfin ⟨(i + 1, vb), sub ⟨rfl, rfl, rfl, rfl, rfl, rfl, ieq (by dsimp only; omega)⟩, ⟨hlt, ⟨_, v3, v2, n1, by have := hO3'; rwa [show (((i + 1 : Nat) : Int) + 1) = (i : Int) + 1 + 1 by omega], hG1⟩, hOv3'', ((hF0.t (hS1.frB hO0)).te hE2).t hF3'⟩, by show k - (i + 1) < k - i; omega⟩
  obtain rfl : i = k := by omega
  obtain ⟨a, ha⟩ : ∃ a : Nat, a = uN zb % (i + 1) := ⟨_, rfl⟩
  obtain ⟨d, hd⟩ : ∃ d : Nat, d = uN zg % (i + 1) := ⟨_, rfl⟩
  have hai : a ≤ i := by rw [ha]; exact Nat.le_of_lt_succ (Nat.mod_lt _ (Nat.succ_pos i))
  have hdi : d ≤ i := by rw [hd]; exact Nat.le_of_lt_succ (Nat.mod_lt _ (Nat.succ_pos i))
  have haz : ((uN zb : Nat) : Int) % ((i + 1 : Nat) : Int) = (a : Int) := by rw [ha]; exact (Int.natCast_emod _ _).symm
  have hdz : ((uN zg : Nat) : Int) % ((i + 1 : Nat) : Int) = (d : Int) := by rw [hd]; exact (Int.natCast_emod _ _).symm
  obtain ⟨b, o, rfl, hac⟩ := hcell a hai
  obtain ⟨b', o', e', hdc⟩ := hcell d hdi
  injection e' with e'
  injection e' with e1 e2
  subst e1; subst e2
  have hd0 := Fr.drew noneB y0
  have hE0d : Ext y0 y0.drew := hd0
  have hacd : y0.drew.cell? ⟨b, o + a, none⟩ = some (.string (su ((lkN i).getD a []))) := hac
  have hdcd : y0.drew.cell? ⟨b, o + d, none⟩ = some (.string (su ((lkN i).getD d []))) := hdc
  clear ha hd
  repeat' (first | refine xcv (r := ((uN zb : Nat) : Int)) rfl rfl rfl (uN_eq zb) ?_ | refine xcv (r := ((uN zg : Nat) : Int)) rfl rfl rfl (uN_eq zg) ?_ | refine xisq a (o + a) rfl rfl rfl haz rfl (by omega) ?_ | refine xisq d (o + d) rfl rfl rfl hdz rfl (by omega) ?_ | refine go1LU ?_ | fail)
  obtain ⟨u, hu⟩ : ∃ u, u = (lkN i).getD a [] := ⟨_, rfl⟩
  obtain ⟨z, hz⟩ : ∃ z, z = (lkN i).getD d [] := ⟨_, rfl⟩
  rw [← hu, ← hz]
  obtain ⟨C, hC⟩ : ∃ C : Int, C = (i : Int) + 1 := ⟨_, rfl⟩
  have hC0 : 2 ≤ C ∧ C ≤ 6 := by omega
  have hcb : ∀ e : Int, 0 ≤ e → e ≤ 10 → 0 ≤ (qM 1000 (C + e)).calls ∧ (qM 1000 (C + e)).calls ≤ 4000000000000000000 := fun e h1 h2 => by show 0 ≤ C + e ∧ C + e ≤ _; omega
  rw [← hC] at hO0
  have hO0d := hO0.ext hE0d
  have hOvd := hOv.ext hE0d
  obtain ⟨p1, p2⟩ := lk_write (i := i) (j := a) hk5.2 hai (r := r) (c := C) hs1
  rw [← hu] at p1 p2
  have hG3 := change_fsg (m := qM 1000 (C + 1)) (p := u) (f := fun n => writeN n 0 s) hG0 (by show 0 ≤ C + 1; omega) (fun n hn _ => ⟨writeN_ok hn _ _, writeN_kind _ _ _⟩)
  have hwT : changeT (qM 1000 (C + 1)) (lkT i r (lkF 1)) u (fun n => writeN n 0 s) = lkT i r (lkW s (C + 1)) := p2
  rw [hwT] at hG3
  refine goL ?_
  refine xcall rfl rfl (write_does y0.drew w.heap.size g (qM 1000 C) vf v1 v2 n0 (lkT i r (lkF 1)) u 0 s hO0d (by show 0 ≤ C ∧ C ≤ _; omega) (by omega) (by decide)) ?_
  rintro r' y1 ⟨rfl, n1, hS1⟩
  have hOv1 := hOvd.frS hO0d hS1
  rw [p2, (qM_beg _ _).2] at hS1
  rw [p1]
  have hm := lk_meta (s := s) (d := C + 1) (by omega)
  obtain ⟨p3, p4⟩ := lk_set (i := i) (j := a) hk5.2 hai (r := r) (c := C + 1) (n := lkW s (C + 1)) (d := ownN 5 6) hm.1
  rw [← hu] at p3 p4
  refine goL ?_
  refine xcall rfl rfl (own_does y1 w.heap.size g (qM 1000 (C + 1)) vf v1 v2 n1 _ u 5 6 hS1.o (hcb 1 (by decide) (by decide))) ?_
  rintro r' y2 ⟨rfl, n2, hS2'⟩
  have hOv2 := hOv1.frS hS1.o hS2'
  have hG4 := set_fsg (m := qM 1000 (C + 1)) (p := u) (e := fun _ => 0) (d := ownN 5 6) hG3 (fun n hn _ hmm => own_node hn hmm)
  rw [p4] at hG4
  rw [p4, (qM_beg _ _).2] at hS2'
  rw [p3]
  obtain ⟨p5, p6⟩ := lk_set (i := i) (j := a) hk5.2 hai (r := r) (c := C + 1 + 1) (n := ownN 5 6 (lkW s (C + 1))) (d := modeN 416) hm.2.1
  rw [← hu] at p5 p6
  refine goL ?_
  refine xcall rfl rfl (mode_does y2 w.heap.size g (qM 1000 (C + 1 + 1)) vf v1 v2 n2 _ u 416 hS2'.o (by show 0 ≤ C + 1 + 1 ∧ C + 1 + 1 ≤ _; omega)) ?_
  rintro r' y3 ⟨rfl, n3, hS3⟩
  have hOv3' := hOv2.frS hS2'.o hS3
  have hG5 := set_fsg (m := qM 1000 (C + 1 + 1)) (p := u) (e := fun _ => 0) (d := modeN 416) hG4 (fun n hn _ hmm => mode_node hn hmm)
  rw [p6] at hG5
  rw [p6, (qM_beg _ _).2] at hS3
  rw [p5]
  obtain ⟨p7, p8⟩ := lk_set (i := i) (j := a) hk5.2 hai (r := r) (c := C + 1 + 1 + 1) (n := modeN 416 (ownN 5 6 (lkW s (C + 1)))) (d := fun n => timeN n 77) hm.2.2
  rw [← hu] at p7 p8
  refine goL ?_
  refine xcall rfl rfl (time_does y3 w.heap.size g (qM 1000 (C + 1 + 1 + 1)) vf v1 v2 n3 _ u 77 hS3.o (by show 0 ≤ C + 1 + 1 + 1 ∧ C + 1 + 1 + 1 ≤ _; omega)) ?_
  rintro r' y4 ⟨rfl, n4, hS4⟩
  have hOv4 := hOv3'.frS hS3.o hS4
  have hG6 := set_fsg (m := qM 1000 (C + 1 + 1 + 1)) (p := u) (e := fun _ => 0) (d := fun n => timeN n 77) hG5 (fun n hn _ hmm => time_node hn hmm)
  rw [p8] at hG6
  rw [p8, (qM_beg _ _).2] at hS4
  rw [p7]
  have htq : timeN (modeN 416 (ownN 5 6 (lkW s (C + 1)))) 77 = lkQ s := lk_time s (C + 1)
  have hG6 : FsG (lkT i r (lkQ s)) := by rw [← htq]; exact hG6
  have hO4 : FsO y4 w.heap.size g (qM 1000 (C + 1 + 1 + 1 + 1)) vf v1 v2 n4 (lkT i r (lkQ s)) := by rw [← htq]; exact hS4.o
  obtain ⟨p9, p10⟩ := lk_gone (i := i) (j := d) hk5.2 hk5.1 hdi r (C + 1 + 1 + 1 + 1) (lkQ s)
  rw [← hz] at p9 p10
  refine goL ?_
  refine xcall rfl rfl (gone_does y4 w.heap.size g (qM 1000 (C + 1 + 1 + 1 + 1)) vf v1 v2 n4 (lkT i r (lkQ s)) z hO4 (by show 0 ≤ C + 1 + 1 + 1 + 1 ∧ C + 1 + 1 + 1 + 1 ≤ _; omega) (fs_root hG6.f)) ?_
  rintro r' y5 ⟨rfl, v5, w5', n5, hS5⟩
  have hOv5 := hOv4.frS hO4 hS5
  have hG7 := gone_fsg (m := qM 1000 (C + 1 + 1 + 1 + 1)) (p := z) hG6 (by show 0 ≤ C + 1 + 1 + 1 + 1 + 1; omega)
  rw [p10] at hG7
  rw [p10, (qM_beg _ _).2] at hS5
  rw [p9]
  have hF5 : Fr (w.heap.size ≤ ·) w1 y5 := ((((((hF0.te hE0d).t (hS1.frB hO0d)).t (hS2'.frB hS1.o)).t (hS3.frB hS2'.o)).t (hS4.frB hS3.o)).t (hS5.frB hO4))
  obtain ⟨R, hR⟩ : ∃ R : Int, R = C + 1 + 1 + 1 + 1 + 1 := ⟨_, rfl⟩
  rw [← hR] at hG7 hS5
  have hqR : qM 1000 R = qM 1000 ((i : Int) + 6 + ((0 : Nat) : Int)) := by rw [show R = (i : Int) + 6 + ((0 : Nat) : Int) by omega]
  refine goL ?_
  refine tloop (α := Nat) (fun j => [(0, .string (su s)), (9, .pointer (some ⟨g, 0, none⟩)), (11, .slice (some ⟨b, o, none⟩) (i + 1) c), (15, .string (su z)), (16, .int .i64 (j : Int))]) (LkJ w1 w.heap.size g vf (.slice (some ⟨b, o, none⟩) (i + 1) c) i d s R) (fun j => i + 1 - j) 0 (sub ⟨rfl, rfl, rfl, rfl, rfl⟩) ⟨Nat.zero_le _, ⟨v5, w5', n5, by have := hS5.o; rwa [hqR] at this⟩, by have := hOv5; rwa [lkN_len] at this, hF5⟩ ?_
  rintro j q0 ⟨hj, ⟨x1, x2, m0, hOq⟩, hOvq, hFq⟩
  have hOvq' : Ow stC 1 q0 w.heap.size 9 (.slice (some ⟨b, o, none⟩) (lkN i).length c) (lkN i) := by rw [lkN_len]; exact hOvq
  obtain ⟨A2, c2, e2, _, _, hA2⟩ := hOvq'.rw.op stC_len
  injection e2 with e2 _ e3
  subst e2; subst e3
  by_cases hlt2 : j < i + 1
  · have hji : j ≤ i := by omega
    obtain ⟨b2, o2, q, e2, _, hq, _, hcl⟩ := hA2.at_ (i := j) (by rw [lkN_len]; omega)
    injection e2 with e2
    injection e2 with e2 e3
    subst e2; subst e3
    have hcj := hcl 0 _ rfl
    rw [Nat.mul_one, Nat.add_zero] at hcj
    rw [lkN_get hji] at hq
    rw [← Option.some.inj hq] at hcj
    obtain ⟨g1, g2⟩ := lk_get (i := i) (j := d) (x := j) hk5.2 hdi hji R ((i : Int) + 6 + j) (lkQ s)
    have hinj := lkN_inj (i := i) (j := d) (x := j) hk5.2 hdi hji
    rw [← hz] at hinj
    obtain ⟨p, hp⟩ : ∃ p, p = (lkN i).getD j [] := ⟨_, rfl⟩
    rw [← hp] at g1 g2 hcj hinj
    repeat' (first | refine xisq j (o + j) rfl rfl rfl rfl rfl (by omega) ?_ | refine go1L ?_ | fail)
    refine xcall rfl rfl (get_does q0 g (qM 1000 ((i : Int) + 6 + j)) vf x1 x2 m0 (lkG i d R (lkQ s)) p hOq.i (by show 0 ≤ (i : Int) + 6 + j ∧ (i : Int) + 6 + j ≤ _; omega)) ?_
    rintro r' q1 ⟨xg, rfl, hxg, hng, hIg, hFg⟩
    rw [(qM_beg _ _).2] at hIg
    have hOg := hOq.put hFg hIg rfl
    have hgB : Fr (w.heap.size ≤ ·) q0 q1 := hFg.mono fun b _ hb => by have : b = g := hb; have := hOq.b; show w.heap.size ≤ b; omega
    have hOvg := hOvq.fr hFg fun b hb e => hOq.apartS hOvq (.inl e) hb
    rw [g1] at hng ⊢
    refine goL ?_
    refine xalloc (z := .agg nd0) (by kernel_rfl) (fun q2 hB2 hE2 hs2 => ?_)
    refine xsta hB2 rfl rfl (by kernel_rfl) rfl (one_cells (l := ndC xg) (List.all_eq_true.2 (ndC_one hxg.in))) (fun q3 hB3 hF3 => ?_)
    have hE13 : Ext q1 q3 := hE2.trans hF3 fun j hj e => by have : j = q1.heap.size := e; omega
    have hcj3 : q3.cell? ⟨b, o + j, none⟩ = some (.string (su p)) := hE13.cell (hFg.cell hcj (fun e => hOq.apartS hOvq (.inl e) rfl))
    have fin : ∀ q4, Ext q3 q4 → LkJ w1 w.heap.size g vf (.slice (some ⟨b, o, none⟩) (i + 1) c) i d s R (j + 1) q4 := fun q4 hE4 => ⟨hlt2, ⟨x1, x2, m0, by have := (hOg.ext hE13).ext hE4; rwa [show ((i : Int) + 6 + ((j + 1 : Nat) : Int)) = (i : Int) + 6 + j + 1 by omega]⟩, (hOvg.ext hE13).ext hE4, ((hFq.t hgB).te hE13).te hE4⟩
    by_cases hjd : j = d
    · have hpz : p = z := hinj.2 hjd
      rw [if_pos hjd]
      repeat' (first | refine xisq j (o + j) rfl rfl rfl rfl rfl (by omega) ?_ | refine xucmp (op := .eql) (r := true) rfl rfl (by simp [cmpU, hpz]) ?_ | refine go1L ?_ | fail)
      exact tfin ⟨j + 1, sub ⟨rfl, rfl, rfl, rfl, ieq (by omega)⟩, fin q3 (show Ext q3 q3 from Fr.refl _ _), by show i + 1 - (j + 1) < i + 1 - j; omega⟩
    · have hpz : ¬ p = z := fun e => hjd (hinj.1 e)
      rw [if_neg hjd] at hng ⊢
      rw [if_pos rfl, g2 hjd] at hng
      have k1 : q3.cell? ⟨q1.heap.size, 1, none⟩ = some (.int .i64 xg.n.mode) := hB3.cell 1
      have k2 : q3.cell? ⟨q1.heap.size, 2, none⟩ = some (.int .i64 xg.n.uid) := hB3.cell 2
      have k4 : q3.cell? ⟨q1.heap.size, 4, none⟩ = some (.int .i64 xg.n.time) := hB3.cell 4
      rw [hng] at k1 k2 k4
      have k1 : q3.cell? ⟨q1.heap.size, 1, none⟩ = some (.int .i64 416) := k1
      have k2 : q3.cell? ⟨q1.heap.size, 2, none⟩ = some (.int .i64 5) := k2
      have k4 : q3.cell? ⟨q1.heap.size, 4, none⟩ = some (.int .i64 77) := k4
      have hbq : bytesP xg.n.data ≤ 1000000 ∧ xg.n.target.length ≤ 1000000 := by rw [hng]; have := node_small (lkQ_ok hs1); omega
      repeat' (first | refine xisq j (o + j) rfl rfl rfl rfl rfl (by omega) ?_ | refine xucmp (op := .eql) (r := false) rfl rfl (by simp [cmpU, hpz]) ?_ | refine go1L ?_ | fail)
      refine xlda (t := 67) hB3 rfl rfl ?_
      refine goL ?_
      refine xcall rfl rfl (rread_does q3 xg 0 200 (hxg.in.ext hE13) hbq.1 hbq.2 (by decide)) ?_
      rintro r' q4 ⟨rfl, hE4⟩
      rw [hng, lkQ_read hs1]
      have k1' := hE4.cell k1
      have k2' := hE4.cell k2
      have k4' := hE4.cell k4
      repeat' (first | refine xucmp (op := .neq) (r := false) rfl rfl (by simp [cmpU]) ?_ | refine go1L ?_ | fail)
      exact tfin ⟨j + 1, sub ⟨rfl, rfl, rfl, rfl, ieq (by omega)⟩, fin q4 hE4, by show i + 1 - (j + 1) < i + 1 - j; omega⟩
  obtain rfl : j = i + 1 := by omega
  have hnn := good_norm hG7.f.g
  have hn2 := lkG_nodes (i := i) (j := d) hk5.2 hk5.1 hdi R (lkQ s)
  refine goL ?_
  refine xcall rfl rfl (told7_does q0) ?_
  rintro r' q1 ⟨rfl, hE1'⟩
  have hOq1 := hOq.ext hE1'
  refine goL ?_
  refine xcall rfl rfl (used_does q1 g _ vf _ _ m0 _ hOq1.i) ?_
  rintro r' q2 ⟨rfl, hE2⟩
  have htot : totalT (lkG i d R (lkQ s)).ns = s.length := by
    show 0 + (bytesP (if s = [] then [] else [⟨0, s⟩]) + 0) = _
    by_cases h0 : s = []
    · rw [h0]; rfl
    · rw [if_neg h0]; show 0 + (s.length + 0 + 0) = _; omega
  rw [htot]
  repeat' (first | refine xuln rfl rfl ?_ | refine go1L ?_ | fail)
  refine xcall rfl rfl (tree_does q2 g _ vf _ _ m0 _ _ (hOq1.ext hE2).i hnn) ?_
  rintro r' q3 ⟨x3, x4, m3, rfl, hT3, hE3'⟩
  have hm3 := hT3.v.len
  obtain ⟨N3, d3, rfl, _, _⟩ := hT3.n.form
  rw [hn2] at hm3
  rw [hm3]
  have hEE : Ext w q3 := hE1.trans (((hFq.te hE1').te hE2).te hE3') fun j hj hb => by have : w.heap.size ≤ j := hb; omega
  repeat' (first | refine xfldn rfl ?_ | refine go1L ?_ | fail)
  exact tret1 rfl rfl ⟨rfl, hEE⟩
end Eng
end Go.Proofs.YtiebbecknfpdeaaGreatDoor
