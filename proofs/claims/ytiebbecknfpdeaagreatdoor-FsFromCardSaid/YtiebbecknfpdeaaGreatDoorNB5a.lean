/-
  Parts of the proof: Vb, Wg, Vq, Vf, Vg.
-/
import Derived.Laws.FloatArith
import Derived.Test.YtiebbecknfpdeaaGreatDoorNB0b
import Derived.Test.YtiebbecknfpdeaaGreatDoorNB4
import Derived.Test.YtiebbecknfpdeaaGreatDoorNWe
import Derived.Test.YtiebbecknfpdeaaGreatDoorNWf
import Derived.Test.YtiebbecknfpdeaaGreatDoorNZj
set_option maxRecDepth 100000
set_option maxHeartbeats 64000000
namespace Go.Proofs.YtiebbecknfpdeaaGreatDoor.Eng
open Go.RowKit
section
section
variable {hs : List Nat} {H : World → Prop} {full : Array Oper} {K : Env → World → Prop} {rest : List Oper} {env : Env} {w : World} {d : Tmp} {dst : Option Tmp} {ty : TypeId} {pos : String} {af : Array Edge}
theorem row_set {g : Nat} {e : TypeId} {cur : Array Value} (hh : w.heap[g]? = some (.cells cur e (0, 0))) (nw : Array Value) : Fr (· = g) w (w.setRow g nw) ∧ Blk (w.setRow g nw) g e nw := by
 refine ⟨⟨rfl, rfl, rfl, by simp [World.setRow], fun k hk hn => by simp only [World.setRow, Array.getElem?_modify]; rw [if_neg (fun e => hn e.symm)]⟩, ?_⟩
 unfold Blk
 simp [World.setRow, Array.getElem?_modify, hh]
theorem xapi {t e : TypeId} {z : Value} {size bytes B m c cm n g : Nat} {s x : Operand} {A : Option Addr} {vs news : List Value} (hT : SlT t e z size bytes) (hss : evo env s = some (.slice (some ⟨g, 0, none⟩) n c)) (hown : OwnZ w B e size (.slice (some ⟨g, 0, none⟩) n c) n vs) (hx : evo env x = some (.slice A m cm))
  (hr : Row w (.slice A m cm) m news) (hl : news.length = m * size) (h1 : ∀ u ∈ news, u.oneCell' = true) (hroom : n + m ≤ c)
  (h : ∀ w', OwnZ w' B e size (.slice (some ⟨g, 0, none⟩) (n + m) c) (n + m) (vs ++ news) → Fr (· = g) w w' → xs Tryz.prog isI isS hs H full K rest ((d, .slice (some ⟨g, 0, none⟩) (n + m) c) :: env) w') (hH : ∀ w', Fr (· = g) w w' → H w' := by intros; trivial) :
  xs Tryz.prog isI isS hs H full K (⟨some d, .call { callee := .builtin .append, args := ⟨[s, x]⟩, argTypes := ⟨[t, t]⟩ }, ty, pos, af, none⟩ :: rest) env w := by
 obtain ⟨hu, i, hi, hz, hsi, hby⟩ := hT
 subst hsi
 obtain ⟨h3, h4⟩ := id hown
 rcases h4 with ⟨e1, _⟩ | ⟨g', cap, cur, e1, hg, hh, h7, h8, h9, h10⟩
 ·cases e1
 injection e1 with e1 _ e3
 injection e1 with e1
 injection e1 with e1
 subst e1; subst e3
 have hcl : cur.toList.length = cur.size := Array.length_toList
 rcases Nat.eq_zero_or_pos m with h0 | h0
 ·subst h0
  have hn : news = [] := List.eq_nil_of_length_eq_zero (by omega)
  subst hn
  have hrun : (Builtin.append_ #[t, t] ty #[.slice (some ⟨g, 0, none⟩) n c, .slice A 0 cm]).run Tryz.prog w = .ok (.slice (some ⟨g, 0, none⟩) (n + 0) c) w := by
   cases A <;> simp [Builtin.append_, run_underlying hu, sizeOf, typeInfo, hi, Builtin.lenOf, Builtin.firstCells, h7, storeCells, loadCells, loadCellsFrom]
  refine xw (v := .slice (some ⟨g, 0, none⟩) (n + 0) c) (w' := w) (by simp [opsOK, Op.operands, Call.operands, hss, hx]) rfl ?_ (h w (by rw [List.append_nil]; exact hown) (Fr.refl _ _)) (hH _ (Fr.refl _ _))
  simp [execOp, resolve, invoke, builtin, ev_of hss, ev_of hx, hrun]
 ·obtain ⟨A', c', he, hmc, hcm, hA⟩ := hr
  injection he with e1 _ e2
  subst e1; subst e2
  obtain ⟨b, o, rfl, hb, hcell⟩ := hA h0
  have hfit : n * i.size + news.length ≤ cur.size := by
   rw [h9, hl, ← Nat.add_mul]
   exact Nat.mul_le_mul_right _ hroom
  have hrun := run_append_room (P := Tryz.prog) w t ty e i hu hi g n c cur hh ⟨b, o, none⟩ m cm news hl (fun j u hu => by rw [Addr.add_lit]; exact hcell j u hu) h1 hroom hfit
  generalize hnw : (cur.toList.take (n * i.size) ++ news ++ cur.toList.drop (n * i.size + news.length)).toArray = nw at hrun
  obtain ⟨hF, hN⟩ := row_set hh nw
  have hsz : nw.size = cur.size := by
   rw [← hnw, List.size_toArray, List.length_append, List.length_append, List.length_take, List.length_drop, hcl]
   omega
  refine xw (v := .slice (some ⟨g, 0, none⟩) (n + m) c) (w' := w.setRow g nw) (by simp [opsOK, Op.operands, Call.operands, hss, hx]) rfl ?_ (h _ ⟨by rw [List.length_append, h3, hl, Nat.add_mul], .inr ⟨g, c, nw, rfl, hg, hN, hroom, h8, by rw [hsz]; exact h9, ?_⟩⟩ hF) (hH _ hF)
  ·simp [execOp, resolve, invoke, builtin, ev_of hss, ev_of hx, hrun]
  ·rw [← hnw, h10, Nat.add_mul, ← hl, ← h3]
   exact List.take_left' (by rw [List.length_append])
theorem xclr0 {sT e : TypeId} {x : Operand} {A : Option Addr} {m c : Nat} (hu : Tryz.prog.underlying sT = some (.slice e)) (hx : evo env x = some (.slice A m c)) (hm : m = 0) (h : xs Tryz.prog isI isS hs H full K rest (put env dst (.tuple #[])) w) (hH : H w := by intros; trivial) :
  xs Tryz.prog isI isS hs H full K (⟨dst, .call { callee := .builtin .clear, args := ⟨[x]⟩, argTypes := ⟨[sT]⟩ }, ty, pos, af, none⟩ :: rest) env w := by
 subst hm
 have hrun : (Builtin.clear_ #[sT] ty #[.slice A 0 c]).run Tryz.prog w = .ok (.tuple #[]) w := by
  cases A <;> simp [Builtin.clear_, run_underlying hu]
 refine xw (v := .tuple #[]) (w' := w) (by simp [opsOK, Op.operands, Call.operands, hx]) rfl ?_ h hH
 simp [execOp, resolve, invoke, builtin, ev_of hx, hrun]
theorem xclr {sT e : TypeId} {z : Value} {size bytes B g l m n c sCap o : Nat} {vs : List Value} {x : Operand} (hT : SlT sT e z size bytes) (hzc : z.cells.size = size) (hsz0 : 0 < size) (hz1 : ∀ u ∈ z.cells.toList, u.oneCell' = true) (hO : OwnZ w B e size (.slice (some ⟨g, 0, none⟩) n c) n vs) (hx : evo env x = some (.slice (some ⟨g, o, none⟩) m sCap)) (ho : o = l * size) (hm : l + m ≤ n)
  (h : ∀ w', OwnZ w' B e size (.slice (some ⟨g, 0, none⟩) l c) l (vs.take (l * size)) → Fr (· = g) w w' → xs Tryz.prog isI isS hs H full K rest (put env dst (.tuple #[])) w') (hH : ∀ w', Fr (· = g) w w' → H w' := by intros; trivial) :
  xs Tryz.prog isI isS hs H full K (⟨dst, .call { callee := .builtin .clear, args := ⟨[x]⟩, argTypes := ⟨[sT]⟩ }, ty, pos, af, none⟩ :: rest) env w := by
 subst ho
 obtain ⟨hu, i, hi, hz, hsi, hby⟩ := hT
 subst hsi
 obtain ⟨h3, h4⟩ := id hO
 rcases h4 with ⟨e1, _⟩ | ⟨g', cap, cur, e1, hg, hh, h7, h8, h9, h10⟩
 ·cases e1
 injection e1 with e1 _ e3
 injection e1 with e1
 injection e1 with e1
 subst e1; subst e3
 have hcl : cur.toList.length = cur.size := Array.length_toList
 have hlm : l * i.size ≤ n * i.size := Nat.mul_le_mul_right _ (by omega)
 have hpre : vs.take (l * i.size) = cur.toList.take (l * i.size) := by
  rw [← h10, List.take_take]
  congr 1
  omega
 rcases Nat.eq_zero_or_pos m with h0 | h0
 ·refine xclr0 hu hx h0 (h w ⟨by rw [List.length_take, h3]; omega, .inr ⟨g, c, cur, rfl, hg, hh, by omega, h8, h9, hpre.symm⟩⟩ (Fr.refl _ _)) (hH _ (Fr.refl _ _))
 ·obtain ⟨m, rfl⟩ : ∃ k, m = k + 1 := ⟨m - 1, by omega⟩
  obtain ⟨cs, hcs⟩ : ∃ cs, cs = (Builtin.zeroCells z.cells (m + 1)).toList := ⟨_, rfl⟩
  have hcsl : cs.length = (m + 1) * i.size := by rw [hcs, Array.length_toList, size_zeroCells, hzc]
  have hone : ∀ u ∈ cs, u.oneCell' = true := fun u hu => by
   rw [hcs] at hu
   unfold Builtin.zeroCells at hu
   simp at hu
   obtain ⟨k, _, rfl⟩ := hu
   have hlt : k % z.cells.size < z.cells.size := Nat.mod_lt _ (by omega)
   refine hz1 _ ?_
   rw [getElem!_pos z.cells _ hlt]
   simp
  have hfit : l * i.size + cs.length ≤ cur.size := by
   rw [h9, hcsl, ← Nat.add_mul]
   exact Nat.mul_le_mul_right _ (by omega)
  have hr := run_storeCells_at (P := Tryz.prog) g (l * i.size) e cs 0 cur w hh (by omega) hone
  rw [Nat.add_zero] at hr
  generalize hnw : (cur.toList.take (l * i.size) ++ cs ++ cur.toList.drop (l * i.size + cs.length)).toArray = nw at hr
  obtain ⟨hF, hN⟩ := row_set hh nw
  have hsz : nw.size = cur.size := by
   rw [← hnw, List.size_toArray, List.length_append, List.length_append, List.length_take, List.length_drop, hcl]
   omega
  have hrun : (Builtin.clear_ #[sT] ty #[.slice (some ⟨g, l * i.size, none⟩) (m + 1) sCap]).run Tryz.prog w = .ok (.tuple #[]) (w.setRow g nw) := by
   rw [hcs] at hr
   simp [Builtin.clear_, run_underlying hu, zeroValue, typeInfo, hi, hz, hr]
  refine xw (v := .tuple #[]) (w' := w.setRow g nw) (by simp [opsOK, Op.operands, Call.operands, hx]) rfl ?_ (h _ ⟨by rw [List.length_take, h3]; omega, .inr ⟨g, c, nw, rfl, hg, hN, by omega, h8, by rw [hsz]; exact h9, ?_⟩⟩ hF) (hH _ hF)
  ·simp [execOp, resolve, invoke, builtin, ev_of hx, hrun]
  ·rw [hpre, ← hnw]
   have hlen : (cur.toList.take (l * i.size)).length = l * i.size := by rw [List.length_take, hcl, h9]; have := Nat.mul_le_mul_right i.size (show l ≤ c by omega); omega
   show (cur.toList.take (l * i.size) ++ cs ++ cur.toList.drop (l * i.size + cs.length)).take (l * i.size) = _
   rw [List.append_assoc]
   exact List.take_left' hlen
theorem xsl3 {t : TypeId} {x lo hi mx : Operand} {k k' k'' : IntKind} {A : Option Addr} {n c z : Nat} {jl jh jm : Int} (l h m : Nat) (hz : es t = some z) (hx : evo env x = some (.slice A n c)) (hlo : evo env lo = some (.int k jl)) (hhi : evo env hi = some (.int k' jh)) (hmx : evo env mx = some (.int k'' jm)) (el : jl = l) (eh : jh = h) (em : jm = m) (h1 : l ≤ h) (h2 : h ≤ m) (h3 : m ≤ c)
  (hc : ∀ v, xs Tryz.prog isI isS hs H full K rest ((d, v) :: env) w) :
  xs Tryz.prog isI isS hs H full K (⟨some d, .slice t x (some lo) (some hi) (some mx), ty, pos, af, none⟩ :: rest) env w := by
 obtain ⟨e, i, hu, hi', hsz⟩ := es_spec hz
 subst el; subst eh; subst em
 refine x_gen rfl (by simp [opsOK, Op.operands, hx, hlo, hhi, hmx]) ⟨.slice (if m = l then A else A.map (·.add (l * i.size))) (h - l) (m - l), fun w' => ?_, hc _⟩
 have : (Instr.sliceAt t (.slice A n c) (some (.int k (l : Int))) (some (.int k' (h : Int))) (some (.int k'' (m : Int)))).run Tryz.prog w' = .ok (.slice (if m = l then A else A.map (·.add (l * i.size))) (h - l) (m - l)) w' := by
  simp [Instr.sliceAt, Instr.slice, run_underlying hu, Instr.sliceBounds, Instr.sliceBound, asIntOf, sizeOf, typeInfo, hi', h1, h2, h3]
 simp [execOp, ev_of hx, ev_of hlo, ev_of hhi, ev_of hmx, this]
end
end
section
attribute [local irreducible] xs T
theorem extG_eq (size : Int) : ∀ (l : List Pce) (last : Int), l.all pceOK = true → extG size last (exsP l) = extOK size last l
 | [], _, _ => rfl
 | p :: r, last, h => by
  rw [List.all_cons, Bool.and_eq_true] at h
  have hok := h.1
  simp only [pceOK, Bool.and_eq_true, decide_eq_true_eq] at hok
  have ih := extG_eq size r (p.pos + p.data.length) h.2
  have e1 : ((p.pos.toNat : Nat) : Int) = p.pos := by omega
  have e2 : p.data.length ≠ 0 := fun e => hok.1.1 (List.length_eq_zero_iff.1 e)
  show (decide (p.data.length ≠ 0) && decide (last < ((p.pos.toNat : Nat) : Int)) && extG size (((p.pos.toNat : Nat) : Int) + p.data.length) (exsP r)) = _
  rw [e1, ih, decide_eq_true e2, Bool.true_and]; rfl
theorem exsP_ok {l : List Pce} (h : l.all pceOK = true) (hb : bytesP l ≤ 1000000) : exOK (exsP l) := by
 intro q hq
 obtain ⟨p, hp, rfl⟩ := List.mem_map.1 hq
 have hok := List.all_eq_true.1 h p hp
 simp only [pceOK, Bool.and_eq_true, decide_eq_true_eq] at hok
 have := bytes_mem hp
 dsimp only
 omega
theorem mt_get {x : NdV} {j : Nat} {u : Value} (h : (mtC x)[j]? = some u) : (ndC x).toArray[1 + j]? = some u := by
 have e : ndC x = [.int .i64 x.n.kind] ++ (mtC x ++ [.int .i64 x.n.size, x.vd, .string (su x.n.target), .int .i64 x.n.major, .int .i64 x.n.minor]) := rfl
 rw [List.getElem?_toArray, e, List.getElem?_append_right (by simp), List.length_singleton, Nat.add_sub_cancel_left, List.getElem?_append_left (List.getElem?_eq_some_iff.1 h).1]
 exact h
theorem pceOK_no {p : Pce} (h : pceOK p = false) : p.data = [] ∨ p.pos < 0 ∨ 1099511627776 < p.pos := by
 by_cases h1 : p.data = []
 ·exact .inl h1
 ·by_cases h2 : p.pos < 0
  ·exact .inr (.inl h2)
  ·refine .inr (.inr ?_)
   rcases Int.lt_or_le 1099511627776 p.pos with h3 | h3
   ·exact h3
   ·simp [pceOK, h1, h3] at h; omega
theorem mayfile_does (w : World) (x : NdV) (hx : NdIn w x) (hb : bytesP x.n.data ≤ 1000000) : Does Tryz.prog 127 #[.agg (ndC x).toArray] w fun r w' => r = .bool (fileOK x.n) ∧ Ext w w' := by
 refine does1 Tryz.func127 rfl (by kernel_rfl) ?_
 unfold fileOK
 refine goL ?_
 refine xbox rfl (fun w1 hB1 hE1 hs1 => ?_)
 have hB : Blk w1 w.heap.size 67 (ndC x).toArray := hB1
 obtain ⟨A, c, evd, hc1, hc2, hA⟩ := hx.d.op pcC_len
 have k7 : w1.cell? ⟨w.heap.size, 7, none⟩ = some (.int .i64 x.n.size) := hB.cell 7
 have k8 : w1.cell? ⟨w.heap.size, 8, none⟩ = some (.slice A x.n.data.length c) := by rw [← evd]; exact hB.cell 8
 by_cases h0 : ¬ 0 ≤ x.n.size
 ·refine goL ?_
  exact tret1 rfl rfl ⟨by simp [h0], hE1⟩
 have h0 : 0 ≤ x.n.size := by omega
 by_cases h1 : ¬ x.n.size ≤ 1099511627776
 ·refine goL ?_
  exact tret1 rfl rfl ⟨by simp [h1], hE1⟩
 have h1 : x.n.size ≤ 1099511627776 := by omega
 by_cases h2 : ¬ x.n.data.length ≤ 16
 ·refine goL ?_
  exact tret1 rfl rfl ⟨by simp [h2], hE1⟩
 have h2 : x.n.data.length ≤ 16 := by omega
 rw [decide_eq_true h0, decide_eq_true h1, decide_eq_true h2, Bool.true_and, Bool.true_and, Bool.true_and]
 obtain ⟨l, hl⟩ : ∃ l, l = x.n.data := ⟨_, rfl⟩
 have hb' := hb
 rw [← hl] at hA hc1 k8 hb' h2 ⊢
 refine goL ?_
 refine tloop (α := Nat) (fun i => [(1, .pointer (some ⟨w.heap.size, 0, none⟩)), (20, .slice A l.length c), (21, .int .i64 (l.length : Int)), (22, .int .i64 (i : Int))]) (fun i w' => Ext w1 w' ∧ i ≤ l.length ∧ (l.drop i).all pceOK = l.all pceOK) (fun i => l.length - i) 0 (sub ⟨rfl, rfl, rfl, rfl⟩) ⟨Fr.refl _ _, Nat.zero_le _, rfl⟩ ?_
 rintro i w2 ⟨hE2, hi, hgo⟩
 by_cases hlt : i < l.length
 ·obtain ⟨b, o, p, rfl, _, hp, hdr, hcell⟩ := hA.at_ hlt
  have hpc : ∀ j u, (pcC p)[j]? = some u → w2.cell? ⟨b, o + i * 2 + j, none⟩ = some u := fun j u hu => hE2.cell (hE1.cell (hcell j u hu))
  rw [hdr, List.all_cons] at hgo
  refine gz4 ?_
  refine xldz (cs := pcC p) rfl rfl hpc ?_
  refine xalloc (z := .agg #[.int .i64 0, .string ⟨#[]⟩]) (by kernel_rfl) (fun w3 hB3 hE3 hs3 => ?_)
  refine xsta (cs := (pcC p).toArray) hB3 rfl rfl rfl rfl (pcC_all p) (fun w4 hB4 hF4 => ?_)
  have hE4 : Ext w2 w4 := Ext.te hE3 hF4 fun j hj e => by have e' : j = w2.heap.size := e; omega
  have q0 : w4.cell? ⟨w2.heap.size, 0, none⟩ = some (.int .i64 p.pos) := hB4.cell 0
  have q1 : w4.cell? ⟨w2.heap.size, 1, none⟩ = some (.string (su p.data)) := hB4.cell 1
  have hE04 := hE1.t (hE2.t hE4)
  cases hok : pceOK p with
  | false =>
   rw [hok, Bool.false_and] at hgo
   rw [← hgo]
   by_cases g1 : p.data = []
   ·repeat' (first | refine xucmp (op := .eql) (b := []) (r := true) rfl rfl (by simp [cmpU, g1]) ?_ | refine go1L ?_ | fail)
    exact tret1 rfl rfl ⟨rfl, hE04⟩
   by_cases g2 : p.pos < 0
   ·refine gz32 ?_
    exact tret1 rfl rfl ⟨rfl, hE04⟩
   have g3 : 1099511627776 < p.pos := (pceOK_no hok).resolve_left g1 |>.resolve_left g2
   refine gz32 ?_
   exact tret1 rfl rfl ⟨rfl, hE04⟩
  | true =>
   rw [hok, Bool.true_and] at hgo
   have hk := hok
   simp only [pceOK, Bool.and_eq_true, decide_eq_true_eq] at hk
   obtain ⟨⟨g1, g2⟩, g3⟩ := hk
   refine gz32 ?_
   exact tfin ⟨i + 1, sub ⟨rfl, rfl, rfl, rfl⟩, ⟨hE2.t hE4, by omega, hgo⟩, (by show l.length - (i + 1) < l.length - i; omega)⟩
 ·obtain rfl : i = l.length := by omega
  rw [List.drop_length] at hgo
  have hall : x.n.data.all pceOK = true := by rw [← hl, ← hgo]; rfl
  rw [← hgo, List.all_nil, Bool.true_and]
  have hB2 : Blk w2 w.heap.size 67 (ndC x).toArray := hB.ext hE2
  have m7 : w2.drew.cell? ⟨w.heap.size, 7, none⟩ = some (.int .i64 x.n.size) := hB2.cell 7
  refine goL ?_
  refine tdrawH [47] (fun w' => w'.cell? ⟨w.heap.size, 7, none⟩ = some (.int .i64 x.n.size)) (by kernel_rfl) (by decide +kernel) m7 ?_
  refine xlda (t := 67) hB2 rfl rfl ?_
  refine xcall rfl rfl (bytes_does w2.drew x (hx.ext (hE1.t hE2.d)) hb) ?_ ?_
  ·rintro r w3 ⟨rfl, hE3⟩
   rw [← hl]
   by_cases g : bytesP l ≤ 4000
   ·rw [decide_eq_true g, Bool.true_and]
    have hB3 : Blk w3 w.heap.size 67 (ndC x).toArray := hB2.drew.ext hE3
    have hE03 := hE1.t (hE2.d.t hE3)
    refine goL ?_
    refine xlda (t := 67) hB3 rfl rfl ?_
    refine goL ?_
    refine xcall rfl rfl (extents_does w3 x (hx.ext hE03) hall hb (by rw [← hl]; omega)) ?_ ?_
    ·rintro r w4 ⟨hown, hE4⟩
     have hr := hown.rw
     rw [← hl] at hr
     repeat' (first | refine xldh rfl rfl (fun w' h => h) ?_ | refine go1L ?_ | fail)
     refine xcall rfl rfl (extmay_does w4 r (exsP l) x.n.size hr (by rw [hl]; exact exsP_ok hall hb)) ?_ ?_
     ·rintro r w5 ⟨rfl, rfl⟩
      rw [decide_eq_true h0, decide_eq_true h1, Bool.true_and, Bool.true_and, extG_eq _ _ _ (by rw [hl]; exact hall)]
      refine goL ?_
      exact tret1 rfl rfl ⟨rfl, hE03.t hE4⟩
     ·rintro r w5 ⟨_, rfl⟩
      exact hE4.cell (hE3.cell m7)
    ·rintro r w4 ⟨_, hE4⟩
     exact hE4.cell (hE3.cell m7)
   ·rw [decide_eq_false g, Bool.false_and]
    refine goL ?_
    exact tret1 rfl rfl ⟨rfl, hE1.t (hE2.d.t hE3)⟩
  ·rintro r w3 ⟨_, hE3⟩
   exact hE3.cell m7
end
end Go.Proofs.YtiebbecknfpdeaaGreatDoor.Eng
namespace Go.Proofs.YtiebbecknfpdeaaGreatDoor
namespace Eng.Wr
def ovr (r : Str) (k : Nat) (d : Str) : Str := r.take k ++ d.take (r.length - k) ++ r.drop (k + d.length)
theorem ovr_len (r : Str) (k : Nat) (d : Str) (hk : k ≤ r.length) : (ovr r k d).length = r.length := by
 unfold ovr
 rw [List.length_append, List.length_append, List.length_take, List.length_take, List.length_drop]
 omega
theorem ovr_get (r : Str) (k : Nat) (d : Str) (hk : k ≤ r.length) {j : Nat} (hj : j < r.length) : (ovr r k d)[j]? = if k ≤ j ∧ j < k + d.length then d[j - k]? else r[j]? := by
 unfold ovr
 have h1 : (r.take k).length = k := by rw [List.length_take]; omega
 by_cases h : j < k
 ·rw [if_neg (by omega), List.append_assoc, List.getElem?_append_left (by omega), List.getElem?_take, if_pos h]
 ·by_cases h2 : j < k + d.length
  ·rw [if_pos (by omega), List.append_assoc, List.getElem?_append_right (by omega), h1, List.getElem?_append_left (by rw [List.length_take]; omega), List.getElem?_take, if_pos (by omega)]
  ·rw [if_neg (by omega), List.getElem?_append_right (by rw [List.length_append, h1, List.length_take]; omega), List.getElem?_drop, List.length_append, h1, List.length_take]
   congr 1
   omega
def inQ (q0 q1 : Int) (p : Pce) : Bool := decide (q0 ≤ p.pos ∧ p.pos < q1)
def stepR (q0 q1 : Int) (r : Str) (p : Pce) : Str := if inQ q0 q1 p then ovr r (p.pos - q0).toNat p.data else r
def roomF (q0 q1 : Int) (P : List Pce) (r : Str) : Str := P.foldl (stepR q0 q1) r
theorem stepR_len {q0 q1 : Int} {r : Str} {p : Pce} (hq : q1 - q0 ≤ r.length) : (stepR q0 q1 r p).length = r.length := by
 unfold stepR
 split
 ·rename_i h
  unfold inQ at h
  rw [decide_eq_true_eq] at h
  exact ovr_len _ _ _ (by omega)
 ·rfl
theorem stepR_get {q0 q1 : Int} {r : Str} {p : Pce} (hq : q1 - q0 ≤ r.length) {k : Nat} (hk : k < r.length) : (stepR q0 q1 r p)[k]? = if inQ q0 q1 p = true ∧ p.pos ≤ q0 + k ∧ q0 + k < endP p then p.data[(q0 + (k : Int) - p.pos).toNat]? else r[k]? := by
 unfold stepR
 by_cases h : inQ q0 q1 p = true
 ·rw [if_pos h]
  have h' := h
  unfold inQ at h'
  rw [decide_eq_true_eq] at h'
  rw [ovr_get _ _ _ (by omega) hk]
  unfold endP
  by_cases hc : (p.pos - q0).toNat ≤ k ∧ k < (p.pos - q0).toNat + p.data.length
  ·rw [if_pos hc, if_pos ⟨h, by omega, by omega⟩]
   congr 1
   omega
  ·rw [if_neg hc, if_neg (by omega)]
 ·rw [if_neg h, if_neg (fun hh => h hh.1)]
theorem roomF_len (q0 q1 : Int) : ∀ (P : List Pce) (r : Str), q1 - q0 ≤ r.length → (roomF q0 q1 P r).length = r.length
 | [], _, _ => rfl
 | p :: P, r, h => by
  have h1 := stepR_len (p := p) h
  unfold roomF
  rw [List.foldl_cons]
  have := roomF_len q0 q1 P (stepR q0 q1 r p) (by omega)
  unfold roomF at this
  rw [this, h1]
theorem byG_filter {c : Pce → Bool} : ∀ {l : List Pce} {x : Int}, (∀ p ∈ l, p.pos ≤ x ∧ x < endP p → c p = true) → byG (l.filter c) x = byG l x
 | [], _, _ => rfl
 | p :: r, x, h => by
  have ih := byG_filter (l := r) (x := x) fun q hq => h q (List.mem_cons_of_mem _ hq)
  rw [List.filter_cons]
  by_cases hp : p.pos ≤ x ∧ x < endP p
  ·rw [if_pos (h p List.mem_cons_self hp), byG, byG, if_pos hp, if_pos hp]
  ·rw [byG, if_neg hp]
   split
   ·rw [byG, if_neg hp, ih]
   ·exact ih
theorem sep_none {p : Pce} {r : List Pce} (h : SepP 1 (p :: r)) {x : Int} (hx : p.pos ≤ x ∧ x < endP p) (c : Pce → Bool) : byG (r.filter c) x = none := by
 rw [byG_none]
 intro q hq hh
 unfold SepP at h
 rw [List.pairwise_cons] at h
 have := h.1 q (List.mem_filter.1 hq).1
 omega
theorem roomF_get (q0 q1 : Int) : ∀ (l : List Pce) (r : Str), SepP 1 l → q1 - q0 ≤ r.length → ∀ k : Nat, k < r.length → (roomF q0 q1 l r)[k]? = (byG (l.filter (inQ q0 q1)) (q0 + k)).or r[k]?
 | [], r, _, _, k, _ => by simp [roomF, byG]
 | p :: l, r, hs, hq, k, hk => by
  have h1 := stepR_len (p := p) hq
  have hs' : SepP 1 l := by unfold SepP at hs ⊢; exact (List.pairwise_cons.1 hs).2
  have ih := roomF_get q0 q1 l (stepR q0 q1 r p) hs' (by omega) k (by omega)
  show (roomF q0 q1 l (stepR q0 q1 r p))[k]? = _
  rw [ih, stepR_get hq hk, List.filter_cons]
  by_cases hc : inQ q0 q1 p = true
  ·rw [if_pos hc, byG]
   by_cases hx : p.pos ≤ q0 + (k : Int) ∧ q0 + (k : Int) < endP p
   ·rw [if_pos ⟨hc, hx⟩, if_pos hx, sep_none hs hx]
    obtain ⟨b, hb⟩ := byte_some hx
    rw [hb]; rfl
   ·rw [if_neg (fun hh => hx hh.2), if_neg hx]
  ·rw [if_neg hc, if_neg (fun hh => hc hh.1)]
theorem byG_before : ∀ {J : List Pce} {q : Pce}, SepP 1 J → q ∈ J → byG J (q.pos - 1) = none
 | [], q, _, hq => by cases hq
 | p :: J, q, hs, hq => by
  unfold SepP at hs
  rw [List.pairwise_cons] at hs
  rcases List.mem_cons.1 hq with rfl | hq
  ·rw [byG_none]
   intro p hp hh
   rcases List.mem_cons.1 hp with rfl | hp
   ·omega
   ·have := hs.1 p hp
    unfold endP at this
    omega
  ·rw [byG, if_neg (by have := hs.1 q hq; omega)]
   exact byG_before hs.2 hq
theorem room_eq {l : List Pce} {pos : Int} {s : Str} (hl : SepP 1 l) (hr : ∀ p ∈ l, 0 ≤ p.pos ∧ endP p ≤ 1099511627776) (hJ : SepP 1 (wrP l pos s)) {q : Pce} (hq : q ∈ wrP l pos s) :
  roomF q.pos (endP q) (l ++ [⟨pos, s⟩]) (List.replicate q.data.length 0) = q.data := by
 have hw : endP q - q.pos ≤ (List.replicate q.data.length (0 : UInt8)).length := by rw [List.length_replicate]; unfold endP; omega
 have hlen := roomF_len q.pos (endP q) (l ++ [⟨pos, s⟩]) _ hw
 rw [List.length_replicate] at hlen
 have hll := roomF_len q.pos (endP q) l _ hw
 have hbef := byG_before hJ hq
 rw [byG_wr hr] at hbef
 refine List.ext_getElem? fun k => ?_
 by_cases hk : k < q.data.length
 ·have hx : q.pos ≤ q.pos + (k : Int) ∧ q.pos + (k : Int) < endP q := by unfold endP; omega
  have hby := byG_at hJ hq hx
  rw [byG_wr hr, show (q.pos + (k : Int) - q.pos).toNat = k by omega] at hby
  have hsp : roomF q.pos (endP q) (l ++ [⟨pos, s⟩]) (List.replicate q.data.length 0) = stepR q.pos (endP q) (roomF q.pos (endP q) l (List.replicate q.data.length 0)) ⟨pos, s⟩ := by
   unfold roomF
   rw [List.foldl_append]
   rfl
  rw [hsp, stepR_get (by rw [hll]; exact hw) (by rw [hll, List.length_replicate]; exact hk)]
  have he : endP (⟨pos, s⟩ : Pce) = pos + (s.length : Int) := rfl
  rw [he]
  dsimp only
  by_cases hn : pos ≤ q.pos + (k : Int) ∧ q.pos + (k : Int) < pos + (s.length : Int)
  ·rw [if_pos hn] at hby
   have hin : inQ q.pos (endP q) ⟨pos, s⟩ = true := by
    unfold inQ
    rw [decide_eq_true_eq]
    dsimp only
    refine ⟨Int.not_lt.1 fun hlt => ?_, by omega⟩
    rw [if_pos (by omega)] at hbef
    obtain ⟨b, hb⟩ := byte_some (p := ⟨pos, s⟩) (x := q.pos - 1) ⟨by dsimp only; omega, by rw [he]; omega⟩
    dsimp only at hb
    rw [hb] at hbef
    cases hbef
   rw [if_pos ⟨hin, hn⟩, hby]
  ·rw [if_neg hn] at hby
   rw [if_neg (fun hh => hn hh.2), roomF_get _ _ _ _ hl hw k (by rw [List.length_replicate]; exact hk)]
   have hq0 : q.data[k]? ≠ none := by
    rw [List.getElem?_eq_getElem hk]
    exact fun h => by cases h
   have hfil : byG (l.filter (inQ q.pos (endP q))) (q.pos + (k : Int)) = byG l (q.pos + (k : Int)) := byG_filter fun p hp hh => by
    unfold inQ
    rw [decide_eq_true_eq]
    refine ⟨Int.not_lt.1 fun hlt => ?_, by omega⟩
    split at hbef
    ·rename_i h
     obtain ⟨b, hb⟩ := byte_some (p := ⟨pos, s⟩) (x := q.pos - 1) ⟨by dsimp only; omega, by rw [he]; omega⟩
     dsimp only at hb
     rw [hb] at hbef
     cases hbef
    ·rw [byG_none] at hbef
     exact hbef p hp ⟨by omega, by omega⟩
   rw [hfil, hby]
   cases hd : q.data[k]? with
   | none => exact absurd hd hq0
   | some b => rfl
 ·rw [List.getElem?_eq_none (by rw [hlen]; omega), List.getElem?_eq_none (by omega)]
theorem cov_exs {l : List Pce} (h : ∀ p ∈ l, 0 ≤ p.pos) (x : Nat) : covX (exsP l) x ↔ byG l x ≠ none := by
 unfold covX exsP
 constructor
 ·rintro ⟨e, he, hx⟩ hn
  obtain ⟨p, hp, rfl⟩ := List.mem_map.1 he
  have h0 := h p hp
  exact (byG_none.1 hn) p hp (by unfold endP; dsimp only at hx; omega)
 ·intro hn
  obtain ⟨p, hp, hx⟩ : ∃ p ∈ l, p.pos ≤ (x : Int) ∧ (x : Int) < endP p := by
   refine Classical.byContradiction fun hh => hn (byG_none.2 fun p hp hx => hh ⟨p, hp, hx⟩)
  have h0 := h p hp
  unfold endP at hx
  exact ⟨_, List.mem_map.2 ⟨p, hp, rfl⟩, by dsimp only; omega, by dsimp only; omega⟩
theorem merged_eq {l : List Pce} {pos : Int} {s : Str} (hl : ∀ p ∈ l, 0 ≤ p.pos ∧ endP p ≤ 1099511627776 ∧ p.data ≠ []) (h0 : 0 ≤ pos) (hs : s ≠ []) (hJ : SepP 1 (wrP l pos s)) (hJ2 : ∀ q ∈ wrP l pos s, q.data ≠ [] ∧ 0 ≤ q.pos) {srt : List Ext2} (hp : srt.Perm (exsP l ++ [(pos.toNat, s.length)])) (ha : ascX srt) : mrgX srt = exsP (wrP l pos s) := by
 have hs0 : 0 < s.length := List.length_pos_iff.2 hs
 have hpos : posX srt := fun e he => by
  rcases List.mem_append.1 (hp.mem_iff.1 he) with he | he
  ·obtain ⟨p, hp, rfl⟩ := List.mem_map.1 he
   exact List.length_pos_iff.2 (hl p hp).2.2
  ·rw [List.mem_singleton.1 he]; exact hs0
 obtain ⟨m1, m2, m3⟩ := mrgX_spec ha hpos
 refine sep_unique _ _ m1 ?_ m2 ?_ fun x => ?_
 ·unfold SepX exsP
  rw [List.pairwise_map]
  unfold SepP at hJ
  refine hJ.imp_of_mem fun {a b} ha hb hab => ?_
  have h1 := (hJ2 a ha).2
  have h2 := (hJ2 b hb).2
  unfold endP at hab
  dsimp only
  omega
 ·intro e he
  obtain ⟨p, hp, rfl⟩ := List.mem_map.1 he
  exact List.length_pos_iff.2 (hJ2 p hp).1
 ·rw [m3 x, cov_exs (fun p hp => (hJ2 p hp).2), byG_wr fun p hp => ⟨(hl p hp).1, (hl p hp).2.1⟩]
  have hc : covX srt x ↔ covX (exsP l) x ∨ (pos ≤ (x : Int) ∧ (x : Int) < pos + (s.length : Int)) := by
   unfold covX
   constructor
   ·rintro ⟨e, he, hx⟩
    rcases List.mem_append.1 (hp.mem_iff.1 he) with he | he
    ·exact .inl ⟨e, he, hx⟩
    ·rw [List.mem_singleton.1 he] at hx
     dsimp only at hx
     exact .inr (by omega)
   ·rintro (⟨e, he, hx⟩ | hx)
    ·exact ⟨e, hp.mem_iff.2 (List.mem_append_left _ he), hx⟩
    ·exact ⟨_, hp.mem_iff.2 (List.mem_append_right _ (List.mem_singleton.2 rfl)), by dsimp only; omega, by dsimp only; omega⟩
  rw [hc, cov_exs fun p hp => (hl p hp).1]
  by_cases hn : pos ≤ (x : Int) ∧ (x : Int) < pos + (s.length : Int)
  ·rw [if_pos hn]
   obtain ⟨b, hb⟩ := byte_some (p := ⟨pos, s⟩) (x := (x : Int)) hn
   dsimp only at hb
   rw [hb]
   exact ⟨fun _ => (fun h => by cases h), fun _ => .inr hn⟩
  ·rw [if_neg hn]
   exact ⟨fun h => h.elim id fun h => absurd h hn, .inl⟩
end Eng.Wr
end Go.Proofs.YtiebbecknfpdeaaGreatDoor
namespace Go.Proofs.YtiebbecknfpdeaaGreatDoor.Eng
open Go.RowKit
section
open Go.RowKit Go.Sort Go.Shelf
open Wr
section
variable {hs : List Nat} {H : World → Prop} {full : Array Oper} {K : Env → World → Prop} {rest : List Oper} {env : Env} {w : World} {d : Tmp} {ty : TypeId} {pos : String} {af : Array Edge}
theorem xfne {t yt : TypeId} {x y : Operand} {a : Nat} (hx : evo env x = some (.float .f64 (fw a))) (hy : evo env y = some (.float .f64 (fw a))) (ha : a ≤ 1099511627776)
  (h : xs Tryz.prog isI isS hs H full K rest ((d, .bool false) :: env) w) : xs Tryz.prog isI isS hs H full K (⟨some d, .binOp .neq t x y yt, ty, pos, af, none⟩ :: rest) env w := by
 refine x_bin hx hy (by rfl) (fun w' => ?_) h
 have hc : (binOp .neq t (.float .f64 (fw a)) (.float .f64 (fw a))) = pure (.bool (FloatKind.f64.format.order (fw a) (fw a) != some .eq)) := by simp [binOp, Op.floatCmp]
 rw [hc, fw_ord (by omega) (by omega), Nat.compare_eq_eq.2 rfl]; rfl
theorem xflt {t yt : TypeId} {x y : Operand} {a b : Nat} (hx : evo env x = some (.float .f64 (fw a))) (hy : evo env y = some (.float .f64 (fw b))) (ha : a ≤ 1099511627776) (hb : b ≤ 1099511627776) {r : Bool} (hr : decide (a < b) = r)
  (h : xs Tryz.prog isI isS hs H full K rest ((d, .bool r) :: env) w) : xs Tryz.prog isI isS hs H full K (⟨some d, .binOp .lss t x y yt, ty, pos, af, none⟩ :: rest) env w := by
 refine x_bin hx hy (by rfl) (fun w' => ?_) h
 have hc : (binOp .lss t (.float .f64 (fw a)) (.float .f64 (fw b))) = pure (.bool (FloatKind.f64.format.order (fw a) (fw b) == some .lt)) := by simp [binOp, Op.floatCmp]
 rw [hc, fw_ord (by omega) (by omega), ← hr]
 rcases Nat.lt_trichotomy a b with h | h | h
 ·rw [Nat.compare_eq_lt.2 h, decide_eq_true h]; rfl
 ·rw [Nat.compare_eq_eq.2 h, decide_eq_false (by omega)]; rfl
 ·rw [Nat.compare_eq_gt.2 h, decide_eq_false (by omega)]; rfl
end
attribute [local irreducible] xs T
theorem isNaNf_does (w : World) (a : Nat) (ha : a ≤ 1099511627776) : Does Tryz.prog 200 #[.float .f64 (fw a)] w fun r w' => r = .bool false ∧ w = w' := by
 refine does1 Tryz.func200 rfl (by kernel_rfl) ?_
 repeat' (first | refine xfne rfl rfl ha ?_ | refine go1L ?_ | fail)
 exact y10
def cmpN (a b : Nat) : Int := if a < b then -1 else if b < a then 1 else 0
theorem cmpf_does (w : World) (a b : Nat) (ha : a ≤ 1099511627776) (hb : b ≤ 1099511627776) : Does Tryz.prog 171 #[.float .f64 (fw a), .float .f64 (fw b)] w fun r w' => r = .int .i64 (cmpN a b) ∧ w = w' := by
 refine does2 Tryz.func171 rfl (by kernel_rfl) ?_
 refine goL ?_
 refine xcallE rfl rfl (isNaNf_does w a ha) (fun r w1 h1 => ?_)
 obtain ⟨rfl, rfl⟩ := h1
 refine goL ?_
 refine xcallE rfl rfl (isNaNf_does w b hb) (fun r w1 h1 => ?_)
 obtain ⟨rfl, rfl⟩ := h1
 by_cases h0 : a < b
 ·repeat' (first | refine xflt (r := true) rfl rfl ha hb (decide_eq_true h0) ?_ | refine go1L ?_ | fail)
  exact tret1 rfl rfl ⟨by simp [cmpN, h0], rfl⟩
 ·by_cases h1 : b < a
  ·repeat' (first | refine xflt (r := false) rfl rfl ha hb (decide_eq_false h0) ?_ | refine xfgt (r := true) rfl rfl ha hb (decide_eq_true h1) ?_ | refine go1L ?_ | fail)
   exact tret1 rfl rfl ⟨by simp [cmpN, h0, h1], rfl⟩
  ·repeat' (first | refine xflt (r := false) rfl rfl ha hb (decide_eq_false h0) ?_ | refine xfgt (r := false) rfl rfl ha hb (decide_eq_false h1) ?_ | refine go1L ?_ | fail)
   exact tret1 rfl rfl ⟨by simp [cmpN, h0, h1], rfl⟩
theorem norm1x_does (w : World) (a b c e : Nat) (ha : a ≤ 1099511627776) (hb : b ≤ 1099511627776) : Does Tryz.prog 170 #[.complex .f64 (fw a) (fw c), .complex .f64 (fw b) (fw e)] w fun r w' => r = .int .i64 (cmpN a b) ∧ w = w' := by
 refine does2 Tryz.func170 rfl (by kernel_rfl) ?_
 repeat' (first | refine xreal rfl ?_ | refine go1L ?_ | fail)
 refine xcallE rfl rfl (cmpf_does w a b ha hb) (fun r w1 h1 => ?_)
 exact y24
abbrev ExV := {p : Nat × Nat // p.1 ≤ 1099511627776 ∧ p.2 ≤ 1099511627776}
instance instExV : Inhabited ExV := ⟨⟨(0, 0), by decide, by decide⟩⟩
def exV (p : ExV) : Value := .complex .f64 (fw p.1.1) (fw p.1.2)
def cfV (x y : ExV) : Int := cmpN x.1.1 y.1.1
theorem cfV_lt (x y : ExV) : ltOf cfV x y = decide (x.1.1 < y.1.1) := by
 unfold ltOf cfV cmpN
 by_cases h : x.1.1 < y.1.1
 ·simp [h]
 ·by_cases h1 : y.1.1 < x.1.1 <;> simp [h, h1]
theorem swoV : SWO (ltOf cfV) := by
 refine ⟨fun x => ?_, fun x y z h1 h2 => ?_, fun x y z h1 h2 => ?_⟩
 ·rw [cfV_lt]; simp
 ·rw [cfV_lt] at *; simp only [decide_eq_true_eq] at *; omega
 ·rw [cfV_lt] at *; simp only [decide_eq_false_iff_not] at *; omega
def toV (l : List (Nat × Nat)) (h : exOK l) : List ExV := l.attach.map fun p => ⟨p.1, h p.1 p.2⟩
theorem toV_val (l : List (Nat × Nat)) (h : exOK l) : (toV l h).map Subtype.val = l := by
 unfold toV
 rw [List.map_map]
 exact List.attach_map_subtype_val l
theorem flatV : ∀ l : List ExV, (l.map Subtype.val).flatMap exC = l.map exV
 | [] => rfl
 | x :: l => by rw [List.map_cons, List.flatMap_cons, List.map_cons, flatV l]; rfl
theorem putCells_take {n : Nat} (d : Array ExV) (cur : Array Value) (hd : d.size = n) (hn : n ≤ cur.size) : (putCells exV 0 d cur).toList.take n = d.toList.map exV := by
 apply List.ext_getElem?
 intro k
 by_cases hk : k < n
 ·rw [List.getElem?_take_of_lt hk, Array.getElem?_toList]
  unfold putCells
  rw [Array.getElem?_mapIdx, Array.getElem?_eq_getElem (by omega), Option.map_some, if_pos ⟨Nat.zero_le _, by omega⟩, List.getElem?_map, Array.getElem?_toList, Array.getElem?_eq_getElem (by omega), Option.map_some, Nat.sub_zero, getElem!_pos d k (by omega)]
 ·rw [List.getElem?_eq_none (by rw [List.length_take]; omega), List.getElem?_eq_none (by rw [List.length_map, Array.length_toList]; omega)]
theorem sortX_does (w : World) (B : Nat) (v : Value) (l : List (Nat × Nat)) (hv : Ow exC 1 w B 156 v l) (hl : exOK l) (h0 : l ≠ []) (hn : l.length ≤ 1000000) :
  Does Tryz.prog 169 #[v, .func (.func 170) #[] #[]] w fun _ w' => (∃ l', l'.Perm l ∧ ascX l' ∧ Ow exC 1 w' B 156 v l') ∧ Fr (fun b => v.ownBlock = some b) w w' := by
 have hval := toV_val l hl
 obtain ⟨L, hL⟩ : ∃ L, L = toV l hl := ⟨_, rfl⟩
 rw [← hL] at hval
 have hLn : L.length = l.length := by rw [← hval, List.length_map]
 obtain ⟨hlen, hO⟩ := hv
 rcases hO with ⟨rfl, hz⟩ | ⟨b, cap, cur, rfl, hB, hh, h3, h4, h5, h6⟩
 ·exact absurd (List.length_eq_zero_iff.1 hz) h0
 have hlt : b < w.heap.size := Blk.lt (t := 156) (cs := cur) hh
 have hflat : l.flatMap exC = L.map exV := by rw [← hval]; exact flatV L
 rw [hflat] at h6 hlen
 have hcur : ∀ j, j < L.toArray.size → cur[j]? = some (exV L.toArray[j]!) := by
  intro j hj
  have hj' : j < L.length := by simpa using hj
  have e1 : (cur.toList.take (l.length * 1))[j]? = some (exV L[j]) := by rw [h6, List.getElem?_map, List.getElem?_eq_getElem hj', Option.map_some]
  rw [List.getElem?_take_of_lt (by omega), Array.getElem?_toList] at e1
  rw [e1, getElem!_pos L.toArray j hj]; simp
 have hH : Holds exV w b 0 L.toArray := by
  intro j hj
  refine ⟨?_, ?_⟩
  ·have := Blk.cell (t := 156) (cs := cur) hh (0 + j)
   rw [this, Nat.zero_add]; exact hcur j hj
  ·simp only [World.frozen?, hh]
   simp
 have eg : ∀ args w, (callFunc 170 args).run Tryz.prog w = .ok (.enter 170 args) w := enters_of Tryz.func170 (by kernel_rfl) rfl
 have hcmp : CmpLays1 Tryz.prog 170 #[] exV cfV b 0 L.toArray.size w := CmpReads.lays fun m os dk hs x y => by
  have h := norm1x_does (sortWorld exV w b 0 m dk os) x.1.1 y.1.1 x.1.2 y.1.2 x.2.1 y.2.1
  refine Calls.mono h fun e w' ⟨u, he, hr, hw⟩ => ?_
  subst hr
  exact ⟨he, 0, hw ▸ rfl⟩
 have hcall := Any.slices_SortFunc sortC exV (fun _ => rfl) cfV swoV 170 #[] b 0 cap L.toArray w eg hcmp hH hlt (by simp; omega)
 rw [List.size_toArray, hLn] at hcall
 refine Calls.mono hcall fun e w' ⟨he, d', n, os, hp, hs, hw⟩ => ?_
 refine ⟨.tuple #[], he, ?_, ?_⟩
 ·obtain ⟨hsz, _, hperm⟩ := hp
  have hsz' : d'.size = l.length := by rw [hsz, List.size_toArray, hLn]
  refine ⟨d'.toList.map Subtype.val, ?_, ?_, ?_⟩
  ·have e1 : (d'.extract 0 l.length).toList = d'.toList := by rw [← hsz']; simp
   have e2 : (L.toArray.extract 0 l.length).toList = L := by rw [← hLn]; simp
   rw [e1, e2] at hperm
   have := hperm.map Subtype.val
   rw [hval] at this
   exact this
  ·unfold ascX
   rw [List.pairwise_map, List.pairwise_iff_getElem]
   intro i j hi hj hij
   have hi' : i < d'.size := by simpa using hi
   have hj' : j < d'.size := by simpa using hj
   have := hs i j (Nat.zero_le _) hij (by omega)
   rw [cfV_lt, getElem!_pos d' j hj', getElem!_pos d' i hi'] at this
   simp only [decide_eq_false_iff_not] at this
   simp only [Array.getElem_toList]
   omega
  ·have hb2 : w'.heap[b]? = some (.cells (putCells exV 0 d' cur) 156 (0, 0)) := by
    rw [hw]
    unfold sortWorld
    rw [heap_grow_old _ _ (by simpa [putRow, mapBlock] using hlt)]
    simp only [putRow, mapBlock, Array.getElem?_modify, if_true, heap_ahead, hh, Option.map_some, onCells]
   have hps : (putCells exV 0 d' cur).size = cur.size := by simp [putCells]
   have hf2 : (d'.toList.map Subtype.val).flatMap exC = d'.toList.map exV := flatV _
   refine ⟨?_, .inr ⟨b, cap, putCells exV 0 d' cur, ?_, hB, hb2, ?_, h4, ?_, ?_⟩⟩
   ·rw [hf2]; simp
   ·simp [hsz']
   ·simpa [hsz'] using h3
   ·rw [hps]; exact h5
   ·rw [hf2, List.length_map, Array.length_toList, Nat.mul_one]
    exact putCells_take d' cur rfl (by rw [hsz']; omega)
 ·rw [hw]
  unfold sortWorld
  refine ⟨rfl, rfl, rfl, by simp, fun k hk hne => ?_⟩
  have hkb : k ≠ b := fun e => hne (by rw [e]; rfl)
  rw [heap_grow_old _ _ (by simpa [putRow, mapBlock] using hk)]
  simp only [putRow, mapBlock, Array.getElem?_modify, if_neg (Ne.symm hkb), heap_ahead]
end
section
open Wr
attribute [local irreducible] xs T
def exIn (l : List Ext2) : Prop := ∀ p ∈ l, 0 < p.2 ∧ p.1 + p.2 ≤ 1099511627776
theorem exIn.ok {l : List Ext2} (h : exIn l) : exOK l := fun p hp => by have := h p hp; omega
theorem Ow.off0 {α : Type} {cf : α → List Value} {z B n c b o : Nat} {e : TypeId} {w : World} {l : List α} (h : Ow cf z w B e (.slice (some ⟨b, o, none⟩) n c) l) : o = 0 := by
 obtain ⟨_, h⟩ := h
 rcases h with ⟨e1, _⟩ | ⟨g', cap, cur, e1, _⟩
 ·cases e1
 ·injection e1 with e1
  injection e1 with e1
  injection e1
structure NmX1 (l : List Ext2) (w : World) (x : Nat × Value) (w' : World) : Prop where
 i : x.1 ≤ l.length
 own : Ow exC 1 w' w.heap.size 156 x.2 (l.take x.1)
 ext : Ext w w'
structure NmX2 (l : List Ext2) (w : World) (x : Nat × Value × List Ext2) (w' : World) : Prop where
 i : x.1 ≤ l.length
 own : Ow exC 1 w' w.heap.size 156 x.2.1 x.2.2
 ext : Ext w w'
 ok : exIn x.2.2
 n : x.2.2.length ≤ x.1
 m : (x.2.2 = [] ∧ x.1 = 0) ∨ ∃ b c, x.2.2 = b ++ [c] ∧ mrgX l = b ++ mrgG c (l.drop x.1)
theorem normX_does (w : World) (v : Value) (l : List Ext2) (hv : Rw exC w v l) (hl : exIn l) (h0 : l ≠ []) (hn : l.length ≤ 100000) : Does Tryz.prog 132 #[v] w fun r w' => (∃ s, s.Perm l ∧ ascX s ∧ Ow exC 1 w' w.heap.size 156 r (mrgX s)) ∧ Ext w w' := by
 refine does1 Tryz.func132 rfl (by kernel_rfl) ?_
 obtain ⟨A, c, rfl, hc1, hc2, hA⟩ := hv.op exC_len
 refine goL ?_
 refine tloop (α := Nat × Value) (fun y => [(3, y.2), (11, .slice A l.length c), (12, .int .i64 (l.length : Int)), (13, .int .i64 (y.1 : Int))]) (NmX1 l w) (fun y => l.length - y.1) (0, .slice none 0 0) (sub ⟨rfl, rfl, rfl, rfl⟩) ⟨Nat.zero_le _, Ow.nil _ _ _, Fr.refl _ _⟩ ?_
 rintro ⟨i, v⟩ w2 ⟨hi, hown, hE2⟩
 dsimp only at hi hown hE2 ⊢
 by_cases hlt : i < l.length
 ·obtain ⟨b, o, p, rfl, _, hp, hdr, hcell⟩ := hA.at_ hlt
  obtain ⟨hp1, hp2⟩ := hl p (List.mem_of_getElem? hp)
  have k0 := hE2.cell (hcell 0 _ rfl)
  rw [Nat.mul_one, Nat.add_zero] at k0
  refine gz20 ?_
  refine xcallE rfl rfl (exlong_does w2 p.1 p.2 (by omega)) (fun r w1 h1 => ?_)
  obtain ⟨rfl, rfl⟩ := h1
  refine goL ?_
  refine xcallE rfl rfl (exat_does w2 p.1 p.2 (by omega)) (fun r w1 h1 => ?_)
  obtain ⟨rfl, rfl⟩ := h1
  refine goLM ?_
  refine xcallE rfl rfl (exat_does w2 p.1 p.2 (by omega)) (fun r w1 h1 => ?_)
  obtain ⟨rfl, rfl⟩ := h1
  rw [show min (p.2 : Int) (1099511627776 - (p.1 : Int)) = (p.2 : Int) from by omega]
  refine goL ?_
  refine xcallE rfl rfl (of_does w2 p.1 p.2 (by omega) (by omega)) (fun r w5 h5 => ?_)
  obtain ⟨rfl, rfl⟩ := h5
  refine goL ?_
  refine xbs (vs := exC p) sl_cpl rfl rfl (by decide) (by decide) (fun u hu => by rw [List.mem_singleton.1 hu]; rfl) (fun w5 hB5 hE5 hs5 => ?_)
  have hl1 : (l.take i).length = i := by rw [List.length_take]; omega
  refine xapz (news := exC p) sl_cpl rfl (by decide) rfl (OwnZ.ext hown hE5) rfl (blk_row hB5 (by decide) rfl) rfl (fun u hu => by rw [List.mem_singleton.1 hu]; rfl) (by unfold maxLen; omega) (by omega) (by have := hE2.size; have := hE5.size; omega) (fun v' w6 hown6 hF6 hv6 => ?_)
  have hown7 : Ow exC 1 w6 w.heap.size 156 v' (l.take (i + 1)) := by
   have e : l.take (i + 1) = l.take i ++ [p] := by rw [List.take_add_one, hp]; rfl
   rw [e]
   exact Ow.ext1 (l' := [p]) (by simpa using hown6)
  refine goL ?_
  exact tfin ⟨(i + 1, v'), sub ⟨rfl, rfl, rfl, rfl⟩, ⟨hlt, hown7, Ext.te (hE2.t hE5) hF6 fun j hj e => by have := (hown.blk e).1; omega⟩, (by show l.length - (i + 1) < l.length - i; omega)⟩
 obtain rfl : i = l.length := by omega
 rw [List.take_length] at hown
 refine goL ?_
 refine xcallE rfl rfl (sortX_does w2 _ v l hown hl.ok h0 (by omega)) (fun r w3 h3 => ?_)
 obtain ⟨⟨s, hperm, hasc, hown3⟩, hF3⟩ := h3
 have hE3 : Ext w w3 := Ext.te hE2 hF3 fun j hj e => by have := (hown.blk e).1; omega
 have hsl : s.length = l.length := hperm.length_eq
 have hsi : exIn s := fun p hp => hl p (hperm.mem_iff.1 hp)
 obtain ⟨A2, c2, rfl, hc3, hc4, hA2⟩ := hown3.rw.op exC_len
 clear hown hown3 hA hF3 hE2
 refine goL ?_
 refine tloop (α := Nat × Value × List Ext2) (fun y => [(7, y.2.1), (35, .slice A2 s.length c2), (36, .int .i64 (s.length : Int)), (37, .int .i64 (y.1 : Int))]) (NmX2 s w3) (fun y => s.length - y.1) (0, .slice none 0 0, []) (sub ⟨rfl, rfl, rfl, rfl⟩) ⟨Nat.zero_le _, Ow.nil _ _ _, Fr.refl _ _, fun p hp => by simp at hp, Nat.le_refl _, .inl ⟨rfl, rfl⟩⟩ ?_
 rintro ⟨i, v, out⟩ w4 ⟨hi, hown, hE4, hok, hno, hm⟩
 dsimp only at hi hown hE4 hok hno hm ⊢
 obtain ⟨A4, c4, rfl, hc5, hc6, hA4⟩ := hown.rw.op exC_len
 by_cases hlt : i < s.length
 ·obtain ⟨b, o, p, rfl, _, hp, hdr, hcell⟩ := hA2.at_ hlt
  obtain ⟨hp1, hp2⟩ := hsi p (List.mem_of_getElem? hp)
  have k0 := hE4.cell (hcell 0 _ rfl)
  rw [Nat.mul_one, Nat.add_zero] at k0
  rcases hm with ⟨rfl, rfl⟩ | ⟨dn, cu, rfl, hm⟩
  ·dsimp only [List.length_nil]
   repeat' (first | refine xisq 0 (o + 0) rfl rfl rfl rfl rfl hlt ?_ | refine xldc rfl k0 ?_ | refine go1L ?_ | fail)
   refine tdrawH [52] (fun _ => True) (by kernel_rfl) (by decide +kernel) trivial ?_
   refine goL ?_
   refine xbs (vs := exC p) sl_cpl rfl rfl (by decide) (by decide) (fun u hu => by rw [List.mem_singleton.1 hu]; rfl) (fun w5 hB5 hE5 hs5 => ?_)
   have hE45 : Ext w4 w5 := (Fr.drew noneB w4).t hE5
   refine xapz (news := exC p) sl_cpl rfl (by decide) rfl (OwnZ.ext hown hE45) rfl (blk_row hB5 (by decide) rfl) rfl (fun u hu => by rw [List.mem_singleton.1 hu]; rfl) (by unfold maxLen; decide) (by omega) (by have := hE4.size; have := hE45.size; omega) (fun v' w6 hown6 hF6 hv6 => ?_)
   have hown7 : Ow exC 1 w6 w3.heap.size 156 v' [p] := by
    have := Ow.ext1 (l := []) (l' := [p]) (by simpa using hown6)
    simpa using this
   refine goL ?_
   exact tfin ⟨(1, v', [p]), sub ⟨rfl, rfl, rfl, rfl⟩, ⟨hlt, hown7, Ext.te (hE4.t hE45) hF6 fun j hj e => by have := (hown.blk e).1; omega, fun x hx => by rw [List.mem_singleton.1 hx]; exact ⟨hp1, hp2⟩, Nat.le_refl _, .inr ⟨[], p, rfl, by rw [List.drop_zero] at hdr; rw [hdr]; rfl⟩⟩, (by show s.length - 1 < s.length - 0; omega)⟩
  ·obtain ⟨b4, o4, q, rfl, _, hq, _, hcell4⟩ := hA4.at_ (i := dn.length) (by simp)
   have hqc : q = cu := by simpa using hq.symm
   subst hqc
   obtain ⟨hq1, hq2⟩ := hok q (by simp)
   have k1 := hcell4 0 _ rfl
   rw [Nat.mul_one, Nat.add_zero] at k1
   have hdl : (dn ++ [q]).length = dn.length + 1 := by simp
   refine gz20 ?_
   refine tdrawH [52] (fun w' => w'.cell? ⟨b4, o4 + dn.length, none⟩ = some (.complex .f64 (fw q.1) (fw q.2))) (by kernel_rfl) (by decide +kernel) k1 ?_
   refine goL ?_
   refine xcall rfl rfl (exat_does w4.drew p.1 p.2 (by omega)) (fun r w1 h1 => ?_) (fun r w1 h1 => h1.2 ▸ k1)
   obtain ⟨rfl, rfl⟩ := h1
   repeat' (first | refine xisq dn.length (o4 + dn.length) rfl rfl rfl (by omega) rfl (by omega) ?_ | refine xldh rfl rfl (fun _ h => h) ?_ | refine go1L ?_ | fail)
   refine xcall rfl rfl (exend_does w4.drew q.1 q.2 (by omega) (by omega)) (fun r w1 h1 => ?_) (fun r w1 h1 => h1.2 ▸ k1)
   obtain ⟨rfl, rfl⟩ := h1
   have hEd : Ext w4 w4.drew := Fr.drew noneB w4
   rw [hdr, mrgG] at hm
   have k2 : w4.drew.cell? ⟨b4, o4 + dn.length, none⟩ = some (.complex .f64 (fw q.1) (fw q.2)) := k1
   by_cases g : q.1 + q.2 < p.1
   ·rw [if_pos g] at hm
    refine goL ?_
    refine xbs (vs := exC p) sl_cpl rfl rfl (by decide) (by decide) (fun u hu => by rw [List.mem_singleton.1 hu]; rfl) (fun w5 hB5 hE5 hs5 => ?_)
    have hE45 : Ext w4 w5 := hEd.t hE5
    refine xapz (news := exC p) sl_cpl rfl (by decide) rfl (OwnZ.ext hown hE45) rfl (blk_row hB5 (by decide) rfl) rfl (fun u hu => by rw [List.mem_singleton.1 hu]; rfl) (by unfold maxLen; omega) (by omega) (by have := hE4.size; have := hE45.size; omega) (fun v' w6 hown6 hF6 hv6 => ?_)
    have hown7 : Ow exC 1 w6 w3.heap.size 156 v' (dn ++ [q] ++ [p]) := Ow.ext1 (l' := [p]) (by simpa using hown6)
    refine goL ?_
    exact tfin ⟨(i + 1, v', dn ++ [q] ++ [p]), sub ⟨rfl, rfl, rfl, rfl⟩, ⟨hlt, hown7, Ext.te (hE4.t hE45) hF6 fun j hj e => by have := (hown.blk e).1; omega, fun x hx => by
     rcases List.mem_append.1 hx with hx | hx
     ·exact hok x hx
     ·rw [List.mem_singleton.1 hx]; exact ⟨hp1, hp2⟩, by simp only [List.length_append, List.length_singleton] at hno ⊢; omega, .inr ⟨dn ++ [q], p, rfl, by rw [hm]; simp⟩⟩, (by show s.length - (i + 1) < s.length - i; omega)⟩
   ·rw [if_neg g] at hm
    repeat' (first | refine xisq dn.length (o4 + dn.length) rfl rfl rfl (by omega) rfl (by omega) ?_ | refine xldc rfl k2 ?_ | refine go1L ?_ | fail)
    refine xcallE rfl rfl (exend_does w4.drew p.1 p.2 (by omega) (by omega)) (fun r w1 h1 => ?_)
    obtain ⟨rfl, rfl⟩ := h1
    refine goL ?_
    refine xcallE rfl rfl (exend_does w4.drew q.1 q.2 (by omega) (by omega)) (fun r w1 h1 => ?_)
    obtain ⟨rfl, rfl⟩ := h1
    by_cases g2 : q.1 + q.2 < p.1 + p.2
    ·rw [show max (q.1 + q.2) (p.1 + p.2) - q.1 = p.1 + p.2 - q.1 from by omega] at hm
     repeat' (first | refine xisq dn.length (o4 + dn.length) rfl rfl rfl (by omega) rfl (by omega) ?_ | refine go1L ?_ | fail)
     refine xcallE rfl rfl (exat_does w4.drew q.1 q.2 (by omega)) (fun r w1 h1 => ?_)
     obtain ⟨rfl, rfl⟩ := h1
     refine goL ?_
     refine xcallE rfl rfl (exend_does w4.drew p.1 p.2 (by omega) (by omega)) (fun r w1 h1 => ?_)
     obtain ⟨rfl, rfl⟩ := h1
     refine goL ?_
     refine xcallE rfl rfl (exat_does w4.drew q.1 q.2 (by omega)) (fun r w1 h1 => ?_)
     obtain ⟨rfl, rfl⟩ := h1
     refine goL ?_
     rw [show (p.1 : Int) + p.2 - q.1 = ((p.1 + p.2 - q.1 : Nat) : Int) from by omega]
     refine xcallE rfl rfl (of_does w4.drew q.1 (p.1 + p.2 - q.1) (by omega) (by omega)) (fun r w1 h1 => ?_)
     obtain ⟨rfl, rfl⟩ := h1
     obtain rfl := hown.off0
     repeat' (first | refine xisq dn.length (0 + dn.length) rfl rfl rfl (by omega) rfl (by omega) ?_ | refine go1L ?_ | fail)
     refine xstc (x' := (q.1, p.1 + p.2 - q.1)) exC_len dn.length 0 (hown.ext hEd) rfl rfl (by omega) (by decide) rfl rfl hq rfl (fun w5 hO5 hF5 => ?_)
     have hset : (dn ++ [q]).set dn.length (q.1, p.1 + p.2 - q.1) = dn ++ [(q.1, p.1 + p.2 - q.1)] := by simp
     rw [hset] at hO5
     have hO6 : Ow exC 1 w5 w3.heap.size 156 (.slice (some ⟨b4, 0, none⟩) (dn ++ [q]).length c4) (dn ++ [(q.1, p.1 + p.2 - q.1)]) := hO5
     refine goL ?_
     exact tfin ⟨(i + 1, .slice (some ⟨b4, 0, none⟩) (dn ++ [q]).length c4, dn ++ [(q.1, p.1 + p.2 - q.1)]), sub ⟨rfl, rfl, rfl, rfl⟩, ⟨hlt, hO6, Ext.te (hE4.t hEd) hF5 fun j hj e => by have := (hown.blk (b := b4) rfl).1; omega, fun x hx => by
      rcases List.mem_append.1 hx with hx | hx
      ·exact hok x (List.mem_append_left _ hx)
      ·rw [List.mem_singleton.1 hx]; dsimp only; omega, by simp only [List.length_append, List.length_singleton] at hno ⊢; omega, .inr ⟨dn, _, rfl, hm⟩⟩, (by show s.length - (i + 1) < s.length - i; omega)⟩
    ·rw [show max (q.1 + q.2) (p.1 + p.2) - q.1 = q.2 from by omega] at hm
     refine goL ?_
     exact tfin ⟨(i + 1, .slice (some ⟨b4, o4, none⟩) (dn ++ [q]).length c4, dn ++ [q]), sub ⟨rfl, rfl, rfl, rfl⟩, ⟨hlt, hown.ext hEd, hE4.t hEd, hok, by dsimp only; omega, .inr ⟨dn, q, rfl, hm⟩⟩, (by show s.length - (i + 1) < s.length - i; omega)⟩
 ·obtain rfl : i = s.length := by omega
  have hfin : out = mrgX s := by
   rcases hm with ⟨_, h⟩ | ⟨b, c, h1, h2⟩
   ·exact absurd (List.length_eq_zero_iff.1 (by omega : l.length = 0)) h0
   ·rw [List.drop_length, mrgG] at h2
    rw [h1, h2]
  refine goL ?_
  exact tret1 rfl rfl ⟨⟨s, hperm, hasc, hfin ▸ hown.mono hE3.size⟩, hE3.t hE4⟩
end
end Go.Proofs.YtiebbecknfpdeaaGreatDoor.Eng
