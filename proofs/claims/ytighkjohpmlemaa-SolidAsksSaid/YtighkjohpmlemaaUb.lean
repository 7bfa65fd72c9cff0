/-
  Package solid: Open, hold, Read, Unpacked.
-/
import Derived.Test.YtighkjohpmlemaaUa
import Derived.Test.YtighkjohpmlemaaEngQ
namespace Go.Proofs.Ytighkjohpmlemaa
open Go.RowKit
namespace Eng

section
variable {hs : List Nat} {H : World → Prop} {full : Array Oper} {K : Env → World → Prop} {rest : List Oper} {env : Env} {w : World} {d : Tmp} {ty : TypeId} {pos : String} {af : Array Edge}
/-- make with length 0. -/
theorem xmk0 {t e : TypeId} {z : Value} {bytes : Nat} {x y : Operand} {m : Nat} (hT : SlT t e z 1 bytes) (hzc : z.cells = #[z]) (hx : evo env x = some (.int .i64 0)) (hy : evo env y = some (.int .i64 (m : Int))) (hb : bytes * m ≤ 281474976710656) (hn : m ≤ 9223372036854775807)
    (h : ∀ w', Own w' w.heap.size e (.slice (some ⟨w.heap.size, 0, none⟩) 0 m) [] → Ext w w' → w'.heap.size = w.heap.size + 1 → xs Try.prog isI isS hs H full K rest ((d, .slice (some ⟨w.heap.size, 0, none⟩) 0 m) :: env) w') (hH : ∀ w', Ext w w' → H w' := by intros; trivial) :
    xs Try.prog isI isS hs H full K (⟨some d, .makeSlice t x y, ty, pos, af, none⟩ :: rest) env w := by
  obtain ⟨hu, i, hi, hz, hs, hby⟩ := hT
  have hr := run_make (P := Try.prog) w t e i z hu hi hz .i64 .i64 0 m (by omega) (by omega) (by
    rw [hby]
    have hh : ((bytes * m : Nat) : Int) ≤ 281474976710656 := by omega
    rwa [Int.natCast_mul] at hh) (by omega)
  simp only [Int.toNat_natCast] at hr
  have hB := Blk.new w e (Array.replicate m z)
  refine xw (by simp [opsOK, Op.operands, hx, hy]) rfl (v := .slice (some ⟨w.heap.size, 0, none⟩) 0 m) (w' := w.alloc (.cells (Array.replicate m z) e)) ?_ (h _ ⟨by simp, .inr ⟨_, m, Array.replicate m z, rfl, Nat.le_refl _, hB, Nat.zero_le _, hn, by simp, by simp⟩⟩ (Fr.alloc _ _ _) (by simp)) (hH _ (Fr.alloc _ _ _))
  have hm : madeCells z.cells (m * i.size) = Array.replicate m z := by
    rw [hzc, hs, Nat.mul_one]
    apply Array.ext'
    rw [toList_madeCells_one]; simp
  rw [hm] at hr
  simp [execOp, ev_of hx, ev_of hy, hr]
end
attribute [local irreducible] xs T

/-- A row of slices of bytes whose blocks all lie below U. -/
structure BsU (w : World) (B U : Nat) (v : Value) (bss : List (List Int)) : Prop where
  ex : ∃ vs, Own w B 23 v vs ∧ vs.length = bss.length ∧ (∀ b, v.ownBlock = some b → b < U) ∧ ∀ (i : Nat) (u : Value) (zs : List Int), vs[i]? = some u → bss[i]? = some zs → Own w B 5 u (zs.map (Value.int .u8)) ∧ ∀ b, u.ownBlock = some b → b < U
theorem BsO.up {w : World} {B : Nat} {v : Value} {bss : List (List Int)} (h : BsO w B v bss) : BsU w B w.heap.size v bss := by
  obtain ⟨vs, h1, h2, h3⟩ := h.ex
  exact ⟨vs, h1, h2, fun b hb => (h1.blk hb).2, fun i u zs hu hz => ⟨h3 i u zs hu hz, fun b hb => ((h3 i u zs hu hz).blk hb).2⟩⟩
theorem BsU.bs {w : World} {B U : Nat} {v : Value} {bss : List (List Int)} (h : BsU w B U v bss) : BsO w B v bss := by
  obtain ⟨vs, h1, h2, _, h3⟩ := h.ex
  exact ⟨vs, h1, h2, fun i u zs hu hz => (h3 i u zs hu hz).1⟩
theorem BsU.fr {S : Nat → Prop} {w w' : World} {B U : Nat} {v : Value} {bss : List (List Int)} (h : BsU w B U v bss) (hf : Fr S w w') (hS : ∀ b, B ≤ b → b < U → ¬ S b) : BsU w' B U v bss := by
  obtain ⟨vs, h1, h2, h4, h3⟩ := h.ex
  exact ⟨vs, h1.fr hf fun b hb => hS b (h1.blk hb).1 (h4 b hb), h2, h4, fun i u zs hu hz => ⟨(h3 i u zs hu hz).1.fr hf fun b hb => hS b ((h3 i u zs hu hz).1.blk hb).1 ((h3 i u zs hu hz).2 b hb), (h3 i u zs hu hz).2⟩⟩

/-- Block g is a reader of L bytes that are packed in blocks. -/
structure SoX (w : World) (g : Nat) (bss : List (List Int)) (L U : Nat) (vb vk : Value) (kept : List Int) (which count : Nat) : Prop where
  blk : Blk w g 111 #[vb, .int .i64 (L : Int), vk, .int .i64 (which : Int), .int .i64 (count : Int)]
  bs : BsU w (g + 1) U vb bss
  kp : Own w (g + 1) 5 vk (kept.map (Value.int .u8))
  up : U ≤ w.heap.size
theorem SoX.fr {S : Nat → Prop} {w w' : World} {g : Nat} {bss : List (List Int)} {L U : Nat} {vb vk : Value} {kept : List Int} {which count : Nat} (h : SoX w g bss L U vb vk kept which count) (hf : Fr S w w') (hg : ¬ S g) (hS : ∀ b, g < b → b < U → ¬ S b) (hk : ∀ b, vk.ownBlock = some b → ¬ S b) : SoX w' g bss L U vb vk kept which count :=
  ⟨h.blk.fr hf hg, h.bs.fr hf fun b hb => hS b (by omega), h.kp.fr hf hk, Nat.le_trans h.up hf.size⟩
theorem SoX.ext {w w' : World} {g : Nat} {bss : List (List Int)} {L U : Nat} {vb vk : Value} {kept : List Int} {which count : Nat} (h : SoX w g bss L U vb vk kept which count) (hf : Ext w w') : SoX w' g bss L U vb vk kept which count := h.fr hf (fun h => h) (fun _ _ _ h => h) (fun _ _ h => h)
/-- The same, where the parts lie left open. -/
def SoR (w : World) (g : Nat) (bss : List (List Int)) (L : Nat) (kept : List Int) (which count : Nat) : Prop := ∃ U vb vk, SoX w g bss L U vb vk kept which count
theorem SoR.ext {w w' : World} {g : Nat} {bss : List (List Int)} {L : Nat} {kept : List Int} {which count : Nat} (h : SoR w g bss L kept which count) (hf : Ext w w') : SoR w' g bss L kept which count := by
  obtain ⟨U, vb, vk, h⟩ := h
  exact ⟨U, vb, vk, h.ext hf⟩
theorem SoR.lt {w : World} {g : Nat} {bss : List (List Int)} {L : Nat} {kept : List Int} {which count : Nat} (h : SoR w g bss L kept which count) : g < w.heap.size := by
  obtain ⟨U, vb, vk, h⟩ := h
  exact h.blk.lt

set_option maxRecDepth 20000 in
set_option maxHeartbeats 2000000 in
theorem sopen_no (w : World) (B : Nat) (v : Value) (bss : List (List Int)) (L : Nat) (hv : BsO w B v bss) (hL : L ≤ 400000) (hn : bss.length ≠ blkN L) :
    Does Try.prog 44 #[v, .int .i64 (L : Int)] w fun r w' => r = .tuple #[.pointer none, .int .i64 1] ∧ w = w' := by
  refine does2 Try.func44 rfl (by kernel_rfl) ?_
  obtain ⟨A, c, rfl, hcc, hcm⟩ := hv.form
  have hN : blkN L = (L + 255) / 256 := rfl
  refine goL ?_
  refine tscope1 (α := Unit) 0 rfl (fun _ => []) (fun _ _ => False) (fun _ => 0) (fun _ _ h => h.elim) ?_
  intro H
  refine goL ?_
  exact tret2 rfl rfl rfl ⟨rfl, rfl⟩

structure SnI (bss : List (List Int)) (L g : Nat) (w0 : World) (x : Nat × Value) (w : World) : Prop where
  le : x.1 ≤ bss.length
  blk : Blk w g 111 #[x.2, .int .i64 (L : Int), .slice none 0 0, .int .i64 0, .int .i64 0]
  own : BsO w (g + 1) x.2 (bss.take x.1)
  ext : Ext w0 w

set_option maxRecDepth 20000 in
set_option maxHeartbeats 4000000 in
theorem sopen_does (w : World) (B : Nat) (v : Value) (bss : List (List Int)) (L : Nat) (hv : BsO w B v bss) (hL : L ≤ 400000) (hn : bss.length = blkN L) (hbl : ∀ zs ∈ bss, zs.length ≤ 2 ^ 30) :
    Does Try.prog 44 #[v, .int .i64 (L : Int)] w fun r w' => r = .tuple #[.pointer (some ⟨w.heap.size, 0, none⟩), .int .i64 0] ∧ SoR w' w.heap.size bss L [] 0 0 ∧ Ext w w' := by
  refine does2 Try.func44 rfl (by kernel_rfl) ?_
  have hvo := hv
  obtain ⟨A, c, rfl, hcc, hcm⟩ := hv.form
  have hN : blkN L = (L + 255) / 256 := rfl
  refine goL ?_
  refine tscope1 (α := Nat × Value) 0 rfl (fun x => [(0, .slice A bss.length c), (6, .pointer (some ⟨w.heap.size, 0, none⟩)), (7, .int .i64 (x.1 : Int))]) (SnI bss L w.heap.size w) (fun x => bss.length - x.1) ?_ ?_
  · rintro ⟨k, vb⟩ w1 ⟨hk, hblk, hown, hE⟩
    dsimp only at hk hblk hown hE ⊢
    have hglt := hblk.lt
    by_cases hlt : k < bss.length
    · obtain ⟨gs, c1, e1, hgs, hgslt, hc1, hm1, hcells⟩ := (hvo.ext hE).go (by omega)
      injection e1 with e1 _ e3
      subst e1; subst e3
      obtain ⟨zs, hz⟩ : ∃ zs, bss[k]? = some zs := ⟨_, List.getElem?_eq_getElem hlt⟩
      obtain ⟨u, hu, huo⟩ := hcells k zs hz
      have c0 : w1.cell? ⟨w.heap.size, 0, none⟩ = some vb := hblk.cell 0
      obtain ⟨Ab, cb, eb, hcb, hmb⟩ := hown.form
      have hbk : ∀ b, vb.ownBlock = some b → w.heap.size + 1 ≤ b := fun b hb => (hown.blk hb).1
      have htl : (bss.take k).length = k := by rw [List.length_take]; omega
      refine goL ?_
      refine tdrawQ 15 [] noH rfl (by kernel_rfl) (by decide +kernel) trivial (fun hR => ?_)
      obtain ⟨a0, ha0⟩ : ∃ a, a = w1.drew := ⟨_, rfl⟩
      have fa0 : Ext w1 a0 := by rw [ha0]; exact Fr.drew _ _
      rw [← ha0]
      refine grun [0, 1, 2, 3, 5, 6, 7, 8] [4, 9, 10, 11, 12, 13, 14] hR (by decide +kernel) (by decide +kernel) rfl ?_
      have d1 : a0.cell? ⟨gs, k, none⟩ = some u := fa0.cell hu
      repeat' (first | refine xisq k k rfl rfl rfl rfl (by omega) (by omega) ?_ | refine go1L ?_ | fail)
      repeat' (first | refine xisq k k rfl rfl rfl rfl (by omega) (by omega) ?_ | refine go1L ?_ | fail)
      refine gbr2 4 9 [9, 10, 11, 12, 13, 14] [4, 10, 11, 12, 13, 14] hR (by decide +kernel) rfl rfl rfl rfl ?_ ?_
      · skip
        have d2 : a0.cell? ⟨w.heap.size, 0, none⟩ = some vb := fa0.cell c0
        repeat' (first | refine xisq k k rfl rfl rfl rfl (by omega) (by omega) ?_ | refine go1L ?_ | fail)
        repeat' (first | refine xisq k k rfl rfl rfl rfl (by omega) (by omega) ?_ | refine go1L ?_ | fail)
        refine grun [9, 10, 11, 12, 13, 14] [] hR (by decide +kernel) (by decide +kernel) rfl ?_
        repeat' (first | refine xisq k k rfl rfl rfl rfl (by omega) (by omega) ?_ | refine go1L ?_ | fail)
        refine xcall rfl rfl (clone8_does a0 _ zs (huo.brow.ext fa0) (hbl zs (List.mem_of_getElem? hz))) (fun r a3 ha3 => ?_)
        obtain ⟨hoa3, hEa3⟩ := ha3
        have fa3 : Ext w1 a3 := fa0.t hEa3
        have hsza0 := fa0.size
        have hown2 : Own a3 (w.heap.size + 1) 5 r (zs.map (Value.int .u8)) := hoa3.mono (by omega)
        have hform : ∃ A c, r = .slice A zs.length c := by obtain ⟨A2, c2, e2, _, _⟩ := hoa3.bform; exact ⟨A2, c2, e2⟩
        obtain ⟨A2, c2, rfl⟩ := hform
        repeat' (first | refine xisq k k rfl rfl rfl rfl (by omega) (by omega) ?_ | refine go1L ?_ | fail)
        refine xbs sl_bss rfl rfl (by decide) (by decide) (fun u hu => by rw [List.mem_singleton.1 hu]; rfl) (fun a4 hBa4 hEa4 hsa4 => ?_)
        have fa4 : Ext w1 a4 := fa3.t hEa4
        repeat' (first | refine xisq k k rfl rfl rfl rfl (by omega) (by omega) ?_ | refine go1L ?_ | fail)
        obtain ⟨vs, ho1, ho2, ho3⟩ := BsO.snoc (hown.ext fa4) (hown2.ext hEa4)
        rw [htl] at ho2
        have hszb := fa4.size
        refine xap sl_bss rfl rfl ho1 rfl (blk_row hBa4 (by decide) rfl) rfl (fun u hu => by rw [List.mem_singleton.1 hu]; rfl) (by unfold maxLen; omega) (by omega) (by omega) (fun v4 w4 hown4 hF4 hv4 => ?_)
        have hB4 := ho3 v4 w4 hown4 hF4
        have hblk4 := (hblk.ext fa4).fr hF4 fun e => by have := hbk _ e; omega
        have hE4 : Ext w w4 := Ext.te (hE.t fa4) hF4 fun j hj e => by have := hbk _ e; omega
        repeat' (first | refine xisq k k rfl rfl rfl rfl (by omega) (by omega) ?_ | refine go1L ?_ | fail)
        refine xstb hblk4 rfl rfl rfl (by obtain ⟨A5, c5, e5, _, _⟩ := hB4.form; rw [e5]; rfl) rfl (fun w5 hB5 hF5 => ?_)
        have hblk5 : Blk w5 w.heap.size 111 #[v4, .int .i64 (L : Int), .slice none 0 0, .int .i64 0, .int .i64 0] := hB5
        repeat' (first | refine xisq k k rfl rfl rfl rfl (by omega) (by omega) ?_ | refine go1L ?_ | fail)
        refine xg_end ?_
        refine goL ?_
        refine tgoto rfl ⟨_, (by show bss.length - (k + 1) < bss.length - k; omega), rfl, (k + 1, v4), sub ⟨rfl, rfl, rfl⟩, ⟨by dsimp only; omega, hblk5, ?_, Ext.te hE4 hF5 fun j hj e => by have e' : j = w.heap.size := e; omega⟩, rfl⟩
        dsimp only
        rw [List.take_add_one, hz]
        exact hB4.fr hF5 fun b hb e => by have e' : b = w.heap.size := e; omega
      · skip
        repeat' (first | refine xisq k k rfl rfl rfl rfl (by omega) (by omega) ?_ | refine go1L ?_ | fail)
        refine xcall rfl rfl (clone8_does a0 _ zs (huo.brow.ext fa0) (hbl zs (List.mem_of_getElem? hz))) (fun r a7 ha7 => ?_)
        obtain ⟨hoa7, hEa7⟩ := ha7
        have fa7 : Ext w1 a7 := fa0.t hEa7
        have hsza0 := fa0.size
        have hown2 : Own a7 (w.heap.size + 1) 5 r (zs.map (Value.int .u8)) := hoa7.mono (by omega)
        have hform : ∃ A c, r = .slice A zs.length c := by obtain ⟨A2, c2, e2, _, _⟩ := hoa7.bform; exact ⟨A2, c2, e2⟩
        obtain ⟨A2, c2, rfl⟩ := hform
        repeat' (first | refine xisq k k rfl rfl rfl rfl (by omega) (by omega) ?_ | refine go1L ?_ | fail)
        refine gbr2 4 10 [10, 11, 12, 13, 14] [4, 11, 12, 13, 14] hR (by decide +kernel) rfl rfl rfl rfl ?_ ?_
        · skip
          have d8 : a7.cell? ⟨w.heap.size, 0, none⟩ = some vb := fa7.cell c0
          repeat' (first | refine xisq k k rfl rfl rfl rfl (by omega) (by omega) ?_ | refine go1L ?_ | fail)
          repeat' (first | refine xisq k k rfl rfl rfl rfl (by omega) (by omega) ?_ | refine go1L ?_ | fail)
          refine grun [10, 11, 12, 13, 14] [] hR (by decide +kernel) (by decide +kernel) rfl ?_
          repeat' (first | refine xisq k k rfl rfl rfl rfl (by omega) (by omega) ?_ | refine go1L ?_ | fail)
          refine xbs sl_bss rfl rfl (by decide) (by decide) (fun u hu => by rw [List.mem_singleton.1 hu]; rfl) (fun a9 hBa9 hEa9 hsa9 => ?_)
          have fa9 : Ext w1 a9 := fa7.t hEa9
          repeat' (first | refine xisq k k rfl rfl rfl rfl (by omega) (by omega) ?_ | refine go1L ?_ | fail)
          obtain ⟨vs, ho1, ho2, ho3⟩ := BsO.snoc (hown.ext fa9) (hown2.ext hEa9)
          rw [htl] at ho2
          have hszb := fa9.size
          refine xap sl_bss rfl rfl ho1 rfl (blk_row hBa9 (by decide) rfl) rfl (fun u hu => by rw [List.mem_singleton.1 hu]; rfl) (by unfold maxLen; omega) (by omega) (by omega) (fun v4 w4 hown4 hF4 hv4 => ?_)
          have hB4 := ho3 v4 w4 hown4 hF4
          have hblk4 := (hblk.ext fa9).fr hF4 fun e => by have := hbk _ e; omega
          have hE4 : Ext w w4 := Ext.te (hE.t fa9) hF4 fun j hj e => by have := hbk _ e; omega
          repeat' (first | refine xisq k k rfl rfl rfl rfl (by omega) (by omega) ?_ | refine go1L ?_ | fail)
          refine xstb hblk4 rfl rfl rfl (by obtain ⟨A5, c5, e5, _, _⟩ := hB4.form; rw [e5]; rfl) rfl (fun w5 hB5 hF5 => ?_)
          have hblk5 : Blk w5 w.heap.size 111 #[v4, .int .i64 (L : Int), .slice none 0 0, .int .i64 0, .int .i64 0] := hB5
          repeat' (first | refine xisq k k rfl rfl rfl rfl (by omega) (by omega) ?_ | refine go1L ?_ | fail)
          refine xg_end ?_
          refine goL ?_
          refine tgoto rfl ⟨_, (by show bss.length - (k + 1) < bss.length - k; omega), rfl, (k + 1, v4), sub ⟨rfl, rfl, rfl⟩, ⟨by dsimp only; omega, hblk5, ?_, Ext.te hE4 hF5 fun j hj e => by have e' : j = w.heap.size := e; omega⟩, rfl⟩
          dsimp only
          rw [List.take_add_one, hz]
          exact hB4.fr hF5 fun b hb e => by have e' : b = w.heap.size := e; omega
        · skip
          repeat' (first | refine xisq k k rfl rfl rfl rfl (by omega) (by omega) ?_ | refine go1L ?_ | fail)
          refine xbs sl_bss rfl rfl (by decide) (by decide) (fun u hu => by rw [List.mem_singleton.1 hu]; rfl) (fun a12 hBa12 hEa12 hsa12 => ?_)
          have fa12 : Ext w1 a12 := fa7.t hEa12
          repeat' (first | refine xisq k k rfl rfl rfl rfl (by omega) (by omega) ?_ | refine go1L ?_ | fail)
          refine grun [4, 11, 12, 13, 14] [] hR (by decide +kernel) (by decide +kernel) rfl ?_
          have d13 : a12.cell? ⟨w.heap.size, 0, none⟩ = some vb := fa12.cell c0
          repeat' (first | refine xisq k k rfl rfl rfl rfl (by omega) (by omega) ?_ | refine go1L ?_ | fail)
          repeat' (first | refine xisq k k rfl rfl rfl rfl (by omega) (by omega) ?_ | refine go1L ?_ | fail)
          obtain ⟨vs, ho1, ho2, ho3⟩ := BsO.snoc (hown.ext fa12) (hown2.ext hEa12)
          rw [htl] at ho2
          have hszb := fa12.size
          refine xap sl_bss rfl rfl ho1 rfl (blk_row hBa12 (by decide) rfl) rfl (fun u hu => by rw [List.mem_singleton.1 hu]; rfl) (by unfold maxLen; omega) (by omega) (by omega) (fun v4 w4 hown4 hF4 hv4 => ?_)
          have hB4 := ho3 v4 w4 hown4 hF4
          have hblk4 := (hblk.ext fa12).fr hF4 fun e => by have := hbk _ e; omega
          have hE4 : Ext w w4 := Ext.te (hE.t fa12) hF4 fun j hj e => by have := hbk _ e; omega
          repeat' (first | refine xisq k k rfl rfl rfl rfl (by omega) (by omega) ?_ | refine go1L ?_ | fail)
          refine xstb hblk4 rfl rfl rfl (by obtain ⟨A5, c5, e5, _, _⟩ := hB4.form; rw [e5]; rfl) rfl (fun w5 hB5 hF5 => ?_)
          have hblk5 : Blk w5 w.heap.size 111 #[v4, .int .i64 (L : Int), .slice none 0 0, .int .i64 0, .int .i64 0] := hB5
          repeat' (first | refine xisq k k rfl rfl rfl rfl (by omega) (by omega) ?_ | refine go1L ?_ | fail)
          refine xg_end ?_
          refine goL ?_
          refine tgoto rfl ⟨_, (by show bss.length - (k + 1) < bss.length - k; omega), rfl, (k + 1, v4), sub ⟨rfl, rfl, rfl⟩, ⟨by dsimp only; omega, hblk5, ?_, Ext.te hE4 hF5 fun j hj e => by have e' : j = w.heap.size := e; omega⟩, rfl⟩
          dsimp only
          rw [List.take_add_one, hz]
          exact hB4.fr hF5 fun b hb e => by have e' : b = w.heap.size := e; omega
    · obtain rfl : k = bss.length := by omega
      rw [List.take_length] at hown
      refine goL ?_
      exact tret2 rfl rfl rfl ⟨rfl, ⟨w1.heap.size, vb, _, hblk, hown.up, Own.nil _ _ _, Nat.le_refl _⟩, hE⟩
  · intro H
    refine goL ?_
    refine xbd (cells := #[.slice none 0 0, .int .i64 (L : Int), .slice none 0 0, .int .i64 0, .int .i64 0]) rfl (by kernel_rfl) ?_
    refine xbox rfl (fun w1 hB1 hE1 hs1 => ?_)
    refine goL ?_
    refine tlabel ?_
    exact tweak (H (0, .slice none 0 0) w1 ⟨Nat.zero_le _, hB1, by dsimp only; rw [List.take_zero]; exact BsO.nil _ _, hE1⟩) (sub ⟨rfl, rfl, rfl⟩)

/-- What block i stands for. -/
def szB (L i : Nat) : Nat := min 256 (L - 256 * i)
def hdB (bss : List (List Int)) (L i : Nat) : Option (List Int) :=
  if (gtB (bss.getD i []) (szB L i : Int)).1 = 0 ∧ (gtB (bss.getD i []) (szB L i : Int)).2.length = szB L i then some (gtB (bss.getD i []) (szB L i : Int)).2 else none

set_option maxRecDepth 20000 in
set_option maxHeartbeats 4000000 in
theorem hold_does (w : World) (g : Nat) (bss : List (List Int)) (L U : Nat) (vb vk : Value) (kept : List Int) (which count i : Nat) (h : SoX w g bss L U vb vk kept which count) (hi : i < bss.length) (hL : L ≤ 400000) (hiL : 256 * i < L) (hb : ∀ zs ∈ bss, Byts zs) (hw : which ≤ 2 ^ 40) (hc : count ≤ 2 ^ 40) :
    Does Try.prog 71 #[.pointer (some ⟨g, 0, none⟩), .int .i64 (i : Int)] w fun r w' =>
      (which = i + 1 ∧ r = .bool true ∧ w = w') ∨ (which ≠ i + 1 ∧ hdB bss L i = none ∧ r = .bool false ∧ Ext w w') ∨
      (which ≠ i + 1 ∧ ∃ b vk', hdB bss L i = some b ∧ r = .bool true ∧ SoX w' g bss L U vb vk' b (i + 1) (count + 1) ∧ (∀ q, vk'.ownBlock = some q → w.heap.size ≤ q) ∧ Fr (· = g) w w') := by
  refine does2 Try.func71 rfl (by kernel_rfl) ?_
  obtain ⟨hB, hbu, hk, hup⟩ := h
  have hbs := hbu.bs
  have hglt := hB.lt
  have c0 : w.cell? ⟨g, 0, none⟩ = some vb := hB.cell 0
  have c1 : w.cell? ⟨g, 1, none⟩ = some (.int .i64 (L : Int)) := hB.cell 1
  have c3 : w.cell? ⟨g, 3, none⟩ = some (.int .i64 (which : Int)) := hB.cell 3
  by_cases hwh : which = i + 1
  · refine goL ?_
    exact tret1 rfl rfl (.inl ⟨hwh, rfl, rfl⟩)
  obtain ⟨gs, cs, e1, hgs, hgslt, hc1, hm1, hcells⟩ := hbs.go (by omega)
  subst e1
  obtain ⟨zs, hz⟩ : ∃ zs, bss[i]? = some zs := ⟨_, List.getElem?_eq_getElem hi⟩
  obtain ⟨u, hu, huo⟩ := hcells i zs hz
  have hzb := hb zs (List.mem_of_getElem? hz)
  have hzd : bss.getD i [] = zs := by rw [List.getD_eq_getElem?_getD, hz]; rfl
  have hsz : szB L i = min 256 (L - 256 * i) := rfl
  obtain ⟨sz, hsz'⟩ : ∃ sz, sz = szB L i := ⟨_, rfl⟩
  have hesz : (min 256 ((L : Int) - (i : Int) * 256)) = (sz : Int) := by omega
  repeat' (first | refine xisq i i rfl rfl rfl rfl (by omega) (by omega) ?_ | refine go1LM ?_ | fail)
  rw [hesz]
  refine xcall rfl rfl (gget_does w _ zs (sz : Int) huo.brow hzb) (fun r w1 h1 => ?_)
  obtain ⟨v1, rfl, hown1, hE1⟩ := h1
  have hhd : hdB bss L i = if (gtB zs (sz : Int)).1 = 0 ∧ (gtB zs (sz : Int)).2.length = sz then some (gtB zs (sz : Int)).2 else none := by unfold hdB; rw [hzd, ← hsz']
  obtain ⟨e, he⟩ : ∃ e, e = (gtB zs (sz : Int)).1 := ⟨_, rfl⟩
  obtain ⟨b, hbb⟩ : ∃ b, b = (gtB zs (sz : Int)).2 := ⟨_, rfl⟩
  rw [← he, ← hbb] at hhd
  rw [← hbb] at hown1
  rw [← he]
  obtain ⟨A1, cc1, e1, hcc1, hmm1⟩ := hown1.bform
  subst e1
  have hsz1 := hE1.size
  by_cases he0 : e ≠ 0
  · rw [if_neg (fun h => he0 h.1)] at hhd
    refine goL ?_
    exact tret1 rfl rfl (.inr (.inl ⟨hwh, hhd, rfl, hE1⟩))
  have he0' : e = 0 := Decidable.not_not.1 he0
  subst he0'
  by_cases hl : b.length ≠ sz
  · rw [if_neg (fun h => hl h.2)] at hhd
    refine goL ?_
    exact tret1 rfl rfl (.inr (.inl ⟨hwh, hhd, rfl, hE1⟩))
  rw [if_pos ⟨rfl, Decidable.not_not.1 hl⟩] at hhd
  refine goL ?_
  refine xstb (hB.ext hE1) rfl rfl rfl rfl rfl (fun w2 hB2 hF2 => ?_)
  refine goL ?_
  refine xstb hB2 rfl rfl rfl rfl rfl (fun w3 hB3 hF3 => ?_)
  have c4 : w3.cell? ⟨g, 4, none⟩ = some (.int .i64 (count : Int)) := hB3.cell 4
  refine goL ?_
  refine xstb hB3 rfl rfl rfl rfl rfl (fun w4 hB4 hF4 => ?_)
  refine goL ?_
  have hF : Fr (· = g) w1 w4 := (hF2.t hF3).t hF4
  have hszF := hF.size
  refine tret1 rfl rfl (.inr (.inr ⟨hwh, b, _, hhd, rfl, ⟨hB4, ?_, ?_, by omega⟩, fun q hq => (hown1.blk hq).1, (Ext.fr hE1).t hF⟩))
  · exact (hbu.fr hE1 (fun _ _ _ hh => hh)).fr hF fun b hb _ e => by have e' : b = g := e; omega
  · exact (hown1.mono (by omega)).fr hF fun b hb e => by have e' : b = g := e; have := (hown1.blk hb).1; omega

set_option maxRecDepth 20000 in
set_option maxHeartbeats 2000000 in
theorem unpacked_does (w : World) (g : Nat) (bss : List (List Int)) (L : Nat) (kept : List Int) (which count : Nat) (h : SoR w g bss L kept which count) :
    Does Try.prog 46 #[.pointer (some ⟨g, 0, none⟩)] w fun r w' => r = .int .i64 (count : Int) ∧ w = w' := by
  refine does1 Try.func46 rfl (by kernel_rfl) ?_
  obtain ⟨U, vb, vk, hB, _, _, _⟩ := h
  have c4 : w.cell? ⟨g, 4, none⟩ = some (.int .i64 (count : Int)) := hB.cell 4
  refine goL ?_
  exact tret1 rfl rfl ⟨rfl, rfl⟩
set_option maxRecDepth 20000 in
set_option maxHeartbeats 2000000 in
theorem unpacked_nil (w : World) : Does Try.prog 46 #[.pointer none] w fun r w' => r = .int .i64 0 ∧ w = w' := by
  refine does1 Try.func46 rfl (by kernel_rfl) ?_
  refine goL ?_
  exact tret1 rfl rfl ⟨rfl, rfl⟩
end Eng
end Go.Proofs.Ytighkjohpmlemaa
