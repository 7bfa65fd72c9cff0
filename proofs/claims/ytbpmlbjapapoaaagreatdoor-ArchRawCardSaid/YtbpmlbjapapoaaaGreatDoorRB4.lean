/-
  Parts of the proof: Wr, Zg.
-/
import Derived.Laws.AppendOwn
import Derived.Laws.CopyRow
import Derived.Lib.AppendZerosOnto
import Derived.Test.YtbpmlbjapapoaaaGreatDoorRB0b
import Derived.Test.YtbpmlbjapapoaaaGreatDoorRWd
set_option maxRecDepth 100000
set_option maxHeartbeats 64000000
namespace Go.Proofs.YtbpmlbjapapoaaaGreatDoor.Eng
open Go.RowKit
section
theorem sl_ents : SlT 22 53 (.agg #[.string ⟨#[]⟩,.int .i64 0]) 2 24:=slT Tryz.underlying22 (by kernel_rfl)
theorem sl_atts : SlT 41 78 (.agg #[.string ⟨#[]⟩,.string ⟨#[]⟩]) 2 32:=slT Tryz.underlying41 (by kernel_rfl)
theorem sl_acs : SlT 42 80 (.agg #[.int .i64 0,.int .i64 0,.int .i64 0]) 3 24:=slT Tryz.underlying42 (by kernel_rfl)
theorem sl_pcs : SlT 45 65 (.agg #[.int .i64 0,.string ⟨#[]⟩]) 2 24:=slT Tryz.underlying45 (by kernel_rfl)
def nd0 : Array Value:=#[.int .i64 0,.int .i64 0,.int .i64 0,.int .i64 0,.int .i64 0,.slice none 0 0,.slice none 0 0,.int .i64 0,.slice none 0 0,.string ⟨#[]⟩,.int .i64 0,.int .i64 0]
theorem sl_nds : SlT 23 47 (.agg nd0) 12 152:=slT Tryz.underlying23 (by kernel_rfl)
theorem enC_one (l : List En) : ∀ u ∈ l.flatMap enC,u.oneCell' = true:=fun u hu=>by
 obtain ⟨x,_,hx⟩:=List.mem_flatMap.1 hu
 simp only [enC,List.mem_cons,List.not_mem_nil,or_false] at hx
 rcases hx with rfl | rfl <;> rfl
theorem attC_one (l : List Att) : ∀ u ∈ l.flatMap attC,u.oneCell' = true:=fun u hu=>by
 obtain ⟨x,_,hx⟩:=List.mem_flatMap.1 hu
 simp only [attC,List.mem_cons,List.not_mem_nil,or_false] at hx
 rcases hx with rfl | rfl <;> rfl
theorem acC_one (l : List Ac) : ∀ u ∈ l.flatMap acC,u.oneCell' = true:=fun u hu=>by
 obtain ⟨x,_,hx⟩:=List.mem_flatMap.1 hu
 simp only [acC,List.mem_cons,List.not_mem_nil,or_false] at hx
 rcases hx with rfl | rfl | rfl <;> rfl
theorem pcC_one (l : List Pce) : ∀ u ∈ l.flatMap pcC,u.oneCell' = true:=fun u hu=>by
 obtain ⟨x,_,hx⟩:=List.mem_flatMap.1 hu
 simp only [pcC,List.mem_cons,List.not_mem_nil,or_false] at hx
 rcases hx with rfl | rfl <;> rfl
structure NdL (n : Nd) : Prop where
 a : n.attrs.length ≤ 1000000
 c : n.acl.length ≤ 1000000
 d : n.data.length ≤ 1000000
structure NdO (w : World) (B : Nat) (x : NdV) : Prop where
 a : Ow attC 2 w B 78 x.va x.n.attrs
 c : Ow acC 3 w B 80 x.vc x.n.acl
 d : Ow pcC 2 w B 65 x.vd x.n.data
theorem NdO.in {w : World} {B : Nat} {x : NdV} (h : NdO w B x) : NdIn w x:=⟨h.a.rw,h.c.rw,h.d.rw⟩
theorem NdO.fr {S : Nat → Prop} {w w' : World} {B : Nat} {x : NdV} (h : NdO w B x) (hf : Fr S w w') (hS : ∀ b,x.va.ownBlock = some b ∨ x.vc.ownBlock = some b ∨ x.vd.ownBlock = some b → ¬ S b) : NdO w' B x:=
 ⟨h.a.fr hf fun b hb=>hS b (.inl hb),h.c.fr hf fun b hb=>hS b (.inr (.inl hb)),h.d.fr hf fun b hb=>hS b (.inr (.inr hb))⟩
theorem NdO.ext {w w' : World} {B : Nat} {x : NdV} (h : NdO w B x) (hf : Ext w w') : NdO w' B x:=h.fr hf fun _ _ hh=>hh
theorem NdO.mono {w : World} {B B' : Nat} {x : NdV} (h : NdO w B x) (hB : B' ≤ B) : NdO w B' x:=⟨h.a.mono hB,h.c.mono hB,h.d.mono hB⟩
structure TrO (w : World) (B : Nat) (ve vn : Value) (nvs : List NdV) (t : Tre) : Prop where
 e : Ow enC 2 w B 53 ve t.es
 n : Ow ndC 12 w B 47 vn nvs
 i : ∀ x ∈ nvs,NdO w B x
 m : nvs.map (·.n) = t.ns
theorem TrO.v {w : World} {B : Nat} {ve vn : Value} {nvs : List NdV} {t : Tre} (h : TrO w B ve vn nvs t) : TrV w ve vn nvs t:=⟨h.e.rw,h.n.rw,fun x hx=>(h.i x hx).in,h.m⟩
theorem TrO.ext {w w' : World} {B : Nat} {ve vn : Value} {nvs : List NdV} {t : Tre} (h : TrO w B ve vn nvs t) (hf : Ext w w') : TrO w' B ve vn nvs t:=⟨h.e.ext hf,h.n.ext hf,fun x hx=>(h.i x hx).ext hf,h.m⟩
end
section
variable {hs : List Nat} {H : World → Prop} {full : Array Oper} {K : Env → World → Prop} {rest : List Oper} {env : Env} {w : World} {d : Tmp} {dst : Option Tmp} {ty : TypeId} {pos : String} {af : Array Edge}
end
section
variable {hs : List Nat} {H : World → Prop} {full : Array Oper} {K : Env → World → Prop} {rest : List Oper} {env : Env} {w : World} {d : Tmp} {dst : Option Tmp} {ty : TypeId} {pos : String} {af : Array Edge}
theorem flat_setc {α : Type} {cf : α → List Value} {z : Nat} (hz : ∀ x,(cf x).length = z) {j : Nat} {u : Value} (hj : j < z) : ∀ {l : List α} {i : Nat} {x x' : α},l[i]? = some x → cf x' = (cf x).set j u → (l.flatMap cf).set (i * z + j) u = (l.set i x').flatMap cf
 | [],i,x,x',h,_=>by simp at h
 | y :: l,0,x,x',h,h'=>by
  simp only [List.getElem?_cons_zero,Option.some.injEq] at h
  subst h
  rw [Nat.zero_mul,Nat.zero_add,List.flatMap_cons,List.set_append_left _ _ (by rw [hz];exact hj),List.set_cons_zero,List.flatMap_cons,h']
 | y :: l,i + 1,x,x',h,h'=>by
  rw [List.getElem?_cons_succ] at h
  have ih:=flat_setc hz hj h h'
  rw [List.flatMap_cons,List.set_append_right _ _ (by rw [hz,Nat.succ_mul];omega),List.set_cons_succ,List.flatMap_cons,hz,Nat.succ_mul,show i * z + z + j - z = i * z + j from by omega,ih]
theorem xstc {α : Type} {cf : α → List Value} {z B : Nat} (hz : ∀ x,(cf x).length = z) {t e : TypeId} {p y : Operand} {g n c q : Nat} {l : List α} {x x' : α} {u : Value} (i j : Nat) (hO : Ow cf z w B e (.slice (some ⟨g,0,none⟩) n c) l) (hx : evo env p = some (.pointer (some ⟨g,q,none⟩))) (hy : evo env y = some u) (hq : q = i * z + j) (hj : j < z) (ht : one t = true) (h1 : u.oneCell' = true) (hi : l[i]? = some x) (hx' : cf x' = (cf x).set j u)
  (h : ∀ w',Ow cf z w' B e (.slice (some ⟨g,0,none⟩) n c) (l.set i x') → Fr (· = g) w w' → xs Tryz.prog isI isS hs H full K rest env w') (hH : ∀ w',Fr (· = g) w w' → H w':=by intros;trivial) : xs Tryz.prog isI isS hs H full K (⟨none,.store t p y,ty,pos,af,none⟩ :: rest) env w:=by
 subst hq
 have hlt:=(List.getElem?_eq_some_iff.1 hi).1
 obtain ⟨_,hO⟩:=hO
 rcases hO with ⟨e1,_⟩ | ⟨g',cap,cur,e1,hg,hh,h7,h8,h9,h10⟩
 ·cases e1
 injection e1 with e1 e2 e3
 injection e1 with e1
 injection e1 with e1
 subst e1;subst e2;subst e3
 have hle : i * z + z ≤ l.length * z:=by rw [← Nat.succ_mul];exact Nat.mul_le_mul_right z hlt
 have hle2 : l.length * z ≤ c * z:=Nat.mul_le_mul_right z h7
 refine xstb hh hx hy ht h1 (by simp only [decide_eq_true_eq];omega) (fun w' hB hF=>h w' ?_ hF) hH
 unfold Ow
 rw [List.length_set]
 refine ⟨by rw [flat_len hz,List.length_set],.inr ⟨g,c,_,rfl,hg,hB,h7,h8,?_,?_⟩⟩
 ·simp only [Array.size_setIfInBounds];exact h9
 ·rw [Array.toList_setIfInBounds,List.take_set,h10]
  exact flat_setc hz hj hi hx'
theorem xstk {t bt : TypeId} {x y : Operand} {g q : Nat} {cs nw : Array Value} {vs : List Value} (hB : Blk w g bt cs) (hx : evo env x = some (.pointer (some ⟨g,q,none⟩))) (hy : evo env y = some (.agg vs.toArray)) (ht : get l_agg t = some vs.length) (hi : q + vs.length ≤ cs.size) (h1 : ∀ u ∈ vs,u.oneCell' = true) (hn : nw = (cs.toList.take q ++ vs ++ cs.toList.drop (q + vs.length)).toArray)
  (h : ∀ w',Blk w' g bt nw → Fr (· = g) w w' → xs Tryz.prog isI isS hs H full K rest env w') (hH : ∀ w',Fr (· = g) w w' → H w':=by intros;trivial) : xs Tryz.prog isI isS hs H full K (⟨none,.store t x y,ty,pos,af,none⟩ :: rest) env w:=by
 obtain ⟨_,it,h4,h5⟩:=agg_spec ht
 refine x_gen rfl (by simp [opsOK,Op.operands,hx,hy]) ?_
 have hr:=run_storeCells_at (P:=Tryz.prog) g q bt vs 0 cs w hB (by omega) h1
 rw [Nat.add_zero,← hn] at hr
 have hF : Fr (· = g) w (w.setRow g nw):=⟨rfl,rfl,rfl,by simp [World.setRow],fun k hk hn=>by simp only [World.setRow,Array.getElem?_modify];rw [if_neg (fun e=>hn e.symm)]⟩
 have hN : Blk (w.setRow g nw) g bt nw:=by
  unfold Blk at hB ⊢
  simp [World.setRow,Array.getElem?_modify,hB]
 show out Tryz.prog ((execOp (ev env) ⟨none,.store t x y,ty,pos,af,none⟩).run Tryz.prog w) _
 have e : (execOp (ev env) ⟨none,.store t x y,ty,pos,af,none⟩).run Tryz.prog w = .ok .skip (w.setRow g nw):=by
  simp [execOp,ev_of hx,ev_of hy,Instr.storeAt,Instr.sureAddr,storeVar,Value.cells,sizeOf,typeInfo,h4,h5,hr]
 rw [e]
 exact ⟨hH _ hF,h _ hN hF⟩
end
end Go.Proofs.YtbpmlbjapapoaaaGreatDoor.Eng
