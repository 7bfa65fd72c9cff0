/-
  Arguments read: strings, rows of strings, trees.
-/
import Derived.Test.YtleaanenpimanaaGreatDoorRow
import Derived.Test.YtleaanenpimanaaGreatDoorMx
import Derived.Deep.Strs
namespace Go.Proofs.YtleaanenpimanaaGreatDoor
open Go.ChangeShapes Go.WideShapes Go.ChangeAt Go.RowKit
namespace Eng
set_option maxRecDepth 100000

section
variable {H : Type} {enc : TypeId × Value → H} {P : Program} {W : World}

theorem list_lt {α : Type} {p : Nat → α → Prop} : ∀ {n : Nat}, (∀ i, i < n → ∃ x, p i x) → ∃ l : List α, l.length = n ∧ ∀ i x, l[i]? = some x → p i x
  | 0, _ => ⟨[], rfl, fun i x h => by simp at h⟩
  | n + 1, h => by
    obtain ⟨l, hl, hp⟩ := list_lt (n := n) fun i hi => h i (by omega)
    obtain ⟨x, hx⟩ := h n (Nat.lt_succ_self n)
    refine ⟨l ++ [x], by simp [hl], fun i y hy => ?_⟩
    by_cases hi : i < l.length
    · rw [List.getElem?_append_left hi] at hy
      exact hp i y hy
    · rw [List.getElem?_append_right (by omega)] at hy
      have h0 : i - l.length = 0 := by
        have := (List.getElem?_eq_some_iff.1 hy).1
        simp at this
        omega
      rw [h0] at hy
      have e : x = y := by simpa using hy
      obtain rfl : i = n := by omega
      rw [← e]; exact hx

theorem flat_inv {α : Type} {cf : α → List Value} {z : Nat} (hz : ∀ x, (cf x).length = z) {l : List α} {j : Nat} {u : Value} (h : (l.flatMap cf)[j]? = some u) : ∃ i k x, j = i * z + k ∧ l[i]? = some x ∧ (cf x)[k]? = some u := by
  have hj := (List.getElem?_eq_some_iff.1 h).1
  rw [flat_len hz] at hj
  have h0 : 0 < z := by
    rcases Nat.eq_zero_or_pos z with e | e
    · rw [e] at hj; omega
    · exact e
  have hi : j / z < l.length := Nat.div_lt_of_lt_mul (by rw [Nat.mul_comm]; exact hj)
  have hjk : j = j / z * z + j % z := by rw [Nat.mul_comm]; exact (Nat.div_add_mod j z).symm
  have hx := List.getElem?_eq_getElem hi
  have hk : j % z < (cf l[j / z]).length := by rw [hz]; exact Nat.mod_lt _ h0
  have hu := List.getElem?_eq_getElem hk
  have := flat_get hz hx hu
  rw [← hjk, h] at this
  exact ⟨j / z, j % z, l[j / z], hjk, hx, by rw [hu, ← this]⟩

theorem rw_of {α : Type} {cf : α → List Value} {Q : α → Prop} {t e : TypeId} {z fuel : Nat} {v : Value} {x : DataW H × List MemPlace} (ht : P.underlying t = some (.slice e)) (hc : P.cellsOf e = z) (h0 : 0 < z) (hz : ∀ x, (cf x).length = z)
    (hel : ∀ n cs y, DataW.trod enc P W 0 (fun _ => true) true n e cs = some y → ∃ x, cs = cf x ∧ Q x) (h : DataW.trod enc P W 0 (fun _ => true) true fuel t [v] = some x) : ∃ l : List α, Rw cf W v l ∧ ∀ x ∈ l, Q x := by
  rcases Go.Deep.open_slice ht h with ⟨hcs, _⟩ | ⟨a, len, cap, m, n, D, Pl, hcs, _, hl, hm, hmm, _, hx⟩
  · injection hcs with e1
    subst e1
    exact ⟨[], Rw.nil W 0 (Nat.zero_le _), fun x hx => by cases hx⟩
  · injection hcs with e1
    subst e1
    rw [if_pos rfl] at hmm
    subst hmm
    rw [hc] at hx
    obtain ⟨l, hlen, hp⟩ := list_lt (n := len) (p := fun i x => W.cells? 0 (a.add (i * z)) z = some (cf x) ∧ Q x) fun i hi => by
      obtain ⟨cs', h1, h2⟩ := hx i (by omega)
      obtain ⟨x, rfl, hq⟩ := hel _ _ _ h2
      exact ⟨x, h1, hq⟩
    refine ⟨l, ⟨some a, m, by rw [hlen], by rw [hlen]; exact hl, hm, fun hp0 => ?_⟩, fun x hx => by
      obtain ⟨i, hi⟩ := List.mem_iff_getElem?.1 hx
      exact (hp i x hi).2⟩
    have hcell : ∀ i k x u, l[i]? = some x → (cf x)[k]? = some u → W.cell? (a.add (i * z + k)) = some u := fun i k x u hi hk => by
      obtain ⟨_, _, h3⟩ := World.cells?_some (hp i x hi).1
      have hkl : k < z := by rw [← hz x]; exact (List.getElem?_eq_some_iff.1 hk).1
      have := h3 k hkl
      rw [Go.Deep.add_add, hk] at this
      exact this
    obtain ⟨y, hy⟩ : ∃ y, l[0]? = some y := ⟨_, List.getElem?_eq_getElem hp0⟩
    obtain ⟨u, hu⟩ : ∃ u, (cf y)[0]? = some u := ⟨_, List.getElem?_eq_getElem (by rw [hz]; exact h0)⟩
    have hc0 := hcell 0 0 y u hy hu
    obtain ⟨b, off, spot⟩ := a
    have hspot : spot = none := by simpa [Addr.add] using World.cell?_spot hc0
    subst hspot
    refine ⟨b, off, rfl, ?_, fun j u hu => ?_⟩
    · rw [Go.WideShapes.add_plain] at hc0
      exact World.block_lt_of_cell? W _ hc0
    · obtain ⟨i, k, x, rfl, hi, hk⟩ := flat_inv hz hu
      rw [← Go.WideShapes.add_plain]
      exact hcell i k x u hi hk

theorem su_ex (s : ByteArray) : ∃ l : Str, s = su l := ⟨s.data.toList, by cases s; simp [su]⟩

theorem fld_of {t : TypeId} {fs : Array Field} {fuel : Nat} {cs : List Value} {x : DataW H × List MemPlace} (ht : P.underlying t = some (.struct fs)) (h : DataW.trod enc P W 0 (fun _ => true) true fuel t cs = some x) :
    cs.length = P.cellsOf t ∧ ∃ n, ∀ (i : Nat) (f : Field), fs[i]? = some f → ∃ y, DataW.trod enc P W 0 (fun _ => true) true n f.type ((cs.drop f.offset).take (P.cellsOf f.type)) = some y := by
  obtain ⟨xs, n, _, _, hl, hn, hf⟩ := DataW.trod_struct ht h
  refine ⟨hl, n, fun i f hi => ?_⟩
  have hil : i < xs.length := by
    rw [hn]
    exact (Array.getElem?_eq_some_iff.1 hi).1
  exact ⟨xs[i], by rw [hf i f hi, List.getElem?_eq_getElem hil]⟩

theorem take_one {cs : List Value} {o : Nat} {v : Value} (h : (cs.drop o).take 1 = [v]) : cs[o]? = some v := by
  have := congrArg (fun l => l[0]?) h
  simpa [List.getElem?_take, List.getElem?_drop] using this

theorem fld_int {ft : TypeId} {k : IntKind} {o n : Nat} {cs : List Value} {y : DataW H × List MemPlace} (hu : P.underlying ft = some (.int k)) (hc : P.cellsOf ft = 1) (h : DataW.trod enc P W 0 (fun _ => true) true n ft ((cs.drop o).take (P.cellsOf ft)) = some y) : ∃ z, cs[o]? = some (.int k z) := by
  obtain ⟨z, h1, _⟩ := DataW.trod_int hu h
  rw [hc] at h1
  exact ⟨z, take_one h1⟩
theorem fld_str {ft : TypeId} {o n : Nat} {cs : List Value} {y : DataW H × List MemPlace} (hu : P.underlying ft = some .string) (hc : P.cellsOf ft = 1) (h : DataW.trod enc P W 0 (fun _ => true) true n ft ((cs.drop o).take (P.cellsOf ft)) = some y) : ∃ s : Str, cs[o]? = some (.string (su s)) := by
  obtain ⟨s, h1, _⟩ := DataW.trod_string hu h
  rw [hc] at h1
  obtain ⟨l, rfl⟩ := su_ex s
  exact ⟨l, take_one h1⟩
theorem fld_one {ft : TypeId} {o n : Nat} {cs : List Value} {y : DataW H × List MemPlace} (hc : P.cellsOf ft = 1) (ho : o < cs.length) (h : DataW.trod enc P W 0 (fun _ => true) true n ft ((cs.drop o).take (P.cellsOf ft)) = some y) : ∃ v, cs[o]? = some v ∧ DataW.trod enc P W 0 (fun _ => true) true n ft [v] = some y := by
  rw [hc] at h
  refine ⟨cs[o], List.getElem?_eq_getElem ho, ?_⟩
  rwa [List.drop_eq_getElem_cons ho, List.take_succ_cons, List.take_zero] at h
end

section
variable {H : Type} {enc : TypeId × Value → H} {W : World}
theorem cInt : Tryz.prog.cellsOf 3 = 1 := by kernel_rfl
theorem cI64 : Tryz.prog.cellsOf 2 = 1 := by kernel_rfl
theorem cStr : Tryz.prog.cellsOf 9 = 1 := by kernel_rfl

theorem st_of (n : Nat) (cs : List Value) (y : DataW H × List MemPlace) (h : DataW.trod enc Tryz.prog W 0 (fun _ => true) true n 9 cs = some y) : ∃ x : Str, cs = stC x ∧ True := by
  obtain ⟨s, h1, _⟩ := DataW.trod_string Tryz.underlying9 h
  obtain ⟨l, rfl⟩ := su_ex s
  exact ⟨l, h1, trivial⟩
theorem en_of (n : Nat) (cs : List Value) (y : DataW H × List MemPlace) (h : DataW.trod enc Tryz.prog W 0 (fun _ => true) true n 49 cs = some y) : ∃ x : En, cs = enC x ∧ True := by
  obtain ⟨hl, m, hf⟩ := fld_of Tryz.underlying49 h
  obtain ⟨y0, h0⟩ := hf 0 _ rfl
  obtain ⟨y1, h1⟩ := hf 1 _ rfl
  obtain ⟨a, ha⟩ := fld_str Tryz.underlying9 cStr h0
  obtain ⟨b, hb⟩ := fld_int Tryz.underlying3 cInt h1
  rw [show Tryz.prog.cellsOf 49 = 2 by kernel_rfl] at hl
  match cs, hl with
  | [x0, x1], _ =>
    obtain rfl : x0 = _ := Option.some.inj ha
    obtain rfl : x1 = _ := Option.some.inj hb
    exact ⟨⟨a, b⟩, rfl, trivial⟩
theorem att_of (n : Nat) (cs : List Value) (y : DataW H × List MemPlace) (h : DataW.trod enc Tryz.prog W 0 (fun _ => true) true n 93 cs = some y) : ∃ x : Att, cs = attC x ∧ True := by
  obtain ⟨hl, m, hf⟩ := fld_of Tryz.underlying93 h
  obtain ⟨y0, h0⟩ := hf 0 _ rfl
  obtain ⟨y1, h1⟩ := hf 1 _ rfl
  obtain ⟨a, ha⟩ := fld_str Tryz.underlying9 cStr h0
  obtain ⟨b, hb⟩ := fld_str Tryz.underlying9 cStr h1
  rw [show Tryz.prog.cellsOf 93 = 2 by kernel_rfl] at hl
  match cs, hl with
  | [x0, x1], _ =>
    obtain rfl : x0 = _ := Option.some.inj ha
    obtain rfl : x1 = _ := Option.some.inj hb
    exact ⟨⟨a, b⟩, rfl, trivial⟩
theorem pce_of (n : Nat) (cs : List Value) (y : DataW H × List MemPlace) (h : DataW.trod enc Tryz.prog W 0 (fun _ => true) true n 115 cs = some y) : ∃ x : Pce, cs = pcC x ∧ True := by
  obtain ⟨hl, m, hf⟩ := fld_of Tryz.underlying115 h
  obtain ⟨y0, h0⟩ := hf 0 _ rfl
  obtain ⟨y1, h1⟩ := hf 1 _ rfl
  obtain ⟨a, ha⟩ := fld_int Tryz.underlying2 cI64 h0
  obtain ⟨b, hb⟩ := fld_str Tryz.underlying9 cStr h1
  rw [show Tryz.prog.cellsOf 115 = 2 by kernel_rfl] at hl
  match cs, hl with
  | [x0, x1], _ =>
    obtain rfl : x0 = _ := Option.some.inj ha
    obtain rfl : x1 = _ := Option.some.inj hb
    exact ⟨⟨a, b⟩, rfl, trivial⟩
theorem ac_of (n : Nat) (cs : List Value) (y : DataW H × List MemPlace) (h : DataW.trod enc Tryz.prog W 0 (fun _ => true) true n 95 cs = some y) : ∃ x : Ac, cs = acC x ∧ True := by
  obtain ⟨hl, m, hf⟩ := fld_of Tryz.underlying95 h
  obtain ⟨y0, h0⟩ := hf 0 _ rfl
  obtain ⟨y1, h1⟩ := hf 1 _ rfl
  obtain ⟨y2, h2⟩ := hf 2 _ rfl
  obtain ⟨a, ha⟩ := fld_int Tryz.underlying3 cInt h0
  obtain ⟨b, hb⟩ := fld_int Tryz.underlying3 cInt h1
  obtain ⟨c, hc⟩ := fld_int Tryz.underlying3 cInt h2
  rw [show Tryz.prog.cellsOf 95 = 3 by kernel_rfl] at hl
  match cs, hl with
  | [x0, x1, x2], _ =>
    obtain rfl : x0 = _ := Option.some.inj ha
    obtain rfl : x1 = _ := Option.some.inj hb
    obtain rfl : x2 = _ := Option.some.inj hc
    exact ⟨⟨a, b, c⟩, rfl, trivial⟩
theorem meta_of (n : Nat) (cs : List Value) (y : DataW H × List MemPlace) (h : DataW.trod enc Tryz.prog W 0 (fun _ => true) true n 44 cs = some y) : ∃ (a b c d : Int) (va vc : Value) (la : List Att) (lc : List Ac), cs = [.int .i64 a, .int .i64 b, .int .i64 c, .int .i64 d, va, vc] ∧ Rw attC W va la ∧ Rw acC W vc lc := by
  obtain ⟨hl, m, hf⟩ := fld_of Tryz.underlying44 h
  obtain ⟨y0, h0⟩ := hf 0 _ rfl
  obtain ⟨y1, h1⟩ := hf 1 _ rfl
  obtain ⟨y2, h2⟩ := hf 2 _ rfl
  obtain ⟨y3, h3⟩ := hf 3 _ rfl
  obtain ⟨y4, h4⟩ := hf 4 _ rfl
  obtain ⟨y5, h5⟩ := hf 5 _ rfl
  rw [show Tryz.prog.cellsOf 44 = 6 by kernel_rfl] at hl
  obtain ⟨a, ha⟩ := fld_int Tryz.underlying3 cInt h0
  obtain ⟨b, hb⟩ := fld_int Tryz.underlying3 cInt h1
  obtain ⟨c, hc⟩ := fld_int Tryz.underlying3 cInt h2
  obtain ⟨d, hd⟩ := fld_int Tryz.underlying2 cI64 h3
  obtain ⟨va, hva, h4⟩ := fld_one (o := 4) (by kernel_rfl) (by omega) h4
  obtain ⟨vc, hvc, h5⟩ := fld_one (o := 5) (by kernel_rfl) (by omega) h5
  obtain ⟨la, hla, _⟩ := rw_of Tryz.underlying41 (by kernel_rfl) (by decide) attC_len att_of h4
  obtain ⟨lc, hlc, _⟩ := rw_of Tryz.underlying42 (by kernel_rfl) (by decide) acC_len ac_of h5
  match cs, hl with
  | [x0, x1, x2, x3, x4, x5], _ =>
    obtain rfl : x0 = _ := Option.some.inj ha
    obtain rfl : x1 = _ := Option.some.inj hb
    obtain rfl : x2 = _ := Option.some.inj hc
    obtain rfl : x3 = _ := Option.some.inj hd
    obtain rfl : x4 = _ := Option.some.inj hva
    obtain rfl : x5 = _ := Option.some.inj hvc
    exact ⟨a, b, c, d, _, _, la, lc, rfl, hla, hlc⟩
theorem nd_of (n : Nat) (cs : List Value) (y : DataW H × List MemPlace) (h : DataW.trod enc Tryz.prog W 0 (fun _ => true) true n 47 cs = some y) : ∃ x : NdV, cs = ndC x ∧ NdIn W x := by
  obtain ⟨hl, m, hf⟩ := fld_of Tryz.underlying47 h
  obtain ⟨y0, h0⟩ := hf 0 _ rfl
  obtain ⟨y1, h1⟩ := hf 1 _ rfl
  obtain ⟨y2, h2⟩ := hf 2 _ rfl
  obtain ⟨y3, h3⟩ := hf 3 _ rfl
  obtain ⟨y4, h4⟩ := hf 4 _ rfl
  obtain ⟨y5, h5⟩ := hf 5 _ rfl
  obtain ⟨y6, h6⟩ := hf 6 _ rfl
  rw [show Tryz.prog.cellsOf 47 = 12 by kernel_rfl] at hl
  obtain ⟨k, hk⟩ := fld_int Tryz.underlying3 cInt h0
  obtain ⟨a, b, c, d, va, vc, la, lc, hm, hla, hlc⟩ := meta_of _ _ _ h1
  obtain ⟨s, hs⟩ := fld_int Tryz.underlying2 cI64 h2
  obtain ⟨vd, hvd, h3⟩ := fld_one (o := 8) (by kernel_rfl) (by omega) h3
  obtain ⟨ld, hld, _⟩ := rw_of Tryz.underlying45 (by kernel_rfl) (by decide) pcC_len pce_of h3
  obtain ⟨g, hg⟩ := fld_str Tryz.underlying9 cStr h4
  obtain ⟨ma, hma⟩ := fld_int Tryz.underlying3 cInt h5
  obtain ⟨mi, hmi⟩ := fld_int Tryz.underlying3 cInt h6
  have hm6 : Tryz.prog.cellsOf 44 = 6 := by kernel_rfl
  have hm0 : List.take (Tryz.prog.cellsOf 44) (List.drop 1 cs) = [.int .i64 a, .int .i64 b, .int .i64 c, .int .i64 d, va, vc] := hm
  rw [hm6] at hm0
  clear hm
  match cs, hl with
  | [x0, x1, x2, x3, x4, x5, x6, x7, x8, x9, x10, x11], _ =>
    obtain rfl : x0 = _ := Option.some.inj hk
    have hm' : [x1, x2, x3, x4, x5, x6] = [.int .i64 a, .int .i64 b, .int .i64 c, .int .i64 d, va, vc] := hm0
    simp only [List.cons.injEq, and_true] at hm'
    obtain ⟨rfl, rfl, rfl, rfl, rfl, rfl⟩ := hm'
    obtain rfl : x7 = _ := Option.some.inj hs
    obtain rfl : x8 = _ := Option.some.inj hvd
    obtain rfl : x9 = _ := Option.some.inj hg
    obtain rfl : x10 = _ := Option.some.inj hma
    obtain rfl : x11 = _ := Option.some.inj hmi
    exact ⟨⟨⟨k, a, b, c, d, la, lc, s, ld, g, ma, mi⟩, x5, x6, x8⟩, rfl, ⟨hla, hlc, hld⟩⟩

variable {v : Value} {d : DataW H} {p : List MemPlace} {base : Nat}
theorem tree_of (hval : Value.okWide Tryz.prog W .any base 25 v) (h : DataW.Trod enc Tryz.prog W 0 (fun _ => true) true 25 v d p) : ∃ (ve vn : Value) (nvs : List NdV) (t : Tre), v = .agg #[ve, vn] ∧ TrV W ve vn nvs t := by
  obtain ⟨cs, rfl, hsz⟩ := okWide_struct Tryz.underlying25 hval
  obtain ⟨fuel, hf⟩ := h
  obtain ⟨hl, m, hf⟩ := fld_of Tryz.underlying25 hf
  obtain ⟨y0, h0⟩ := hf 0 _ rfl
  obtain ⟨y1, h1⟩ := hf 1 _ rfl
  rw [show Tryz.prog.cellsOf 25 = 2 by kernel_rfl] at hl
  obtain ⟨ve, hve, h0⟩ := fld_one (o := 0) (by kernel_rfl) (by omega) h0
  obtain ⟨vn, hvn, h1⟩ := fld_one (o := 1) (by kernel_rfl) (by omega) h1
  obtain ⟨es, hes, _⟩ := rw_of Tryz.underlying22 (by kernel_rfl) (by decide) enC_len en_of h0
  obtain ⟨nvs, hns, hin⟩ := rw_of Tryz.underlying23 (by kernel_rfl) (by decide) ndC_len nd_of h1
  refine ⟨ve, vn, nvs, ⟨es, nvs.map (·.n)⟩, ?_, ⟨hes, hns, hin, rfl⟩⟩
  obtain ⟨l, hl2⟩ : ∃ l, l = (Value.agg cs).cells.toList := ⟨_, rfl⟩
  rw [← hl2] at hl hve hvn
  match l, hl with
  | [x0, x1], _ =>
    have : cs.toList = [x0, x1] := hl2.symm
    obtain rfl : x0 = _ := Option.some.inj hve
    obtain rfl : x1 = _ := Option.some.inj hvn
    congr 1
    rw [← Array.toList_inj, this]
theorem srow_of (hval : Value.okWide Tryz.prog W .any base 26 v) (h : DataW.Trod enc Tryz.prog W 0 (fun _ => true) true 26 v d p) : ∃ l : List Str, Rw stC W v l := by
  obtain ⟨a0, len, cap, rfl⟩ := okWide_slice Tryz.underlying26 hval
  obtain ⟨fuel, hf⟩ := h
  obtain ⟨l, hl, _⟩ := rw_of Tryz.underlying26 (by kernel_rfl) (by decide) stC_len st_of (v := .slice a0 len cap) hf
  exact ⟨l, hl⟩
theorem str_of (hval : Value.okWide Tryz.prog W .any base 9 v) (_h : DataW.Trod enc Tryz.prog W 0 (fun _ => true) true 9 v d p) : ∃ s : Str, v = .string (su s) := by
  obtain ⟨s, rfl⟩ := okWide_string Tryz.underlying9 hval
  obtain ⟨l, rfl⟩ := su_ex s
  exact ⟨l, rfl⟩
end
end Eng
end Go.Proofs.YtleaanenpimanaaGreatDoor
