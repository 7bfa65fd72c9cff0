/-
  Parts of the proof: Wy.
-/
import Derived.Test.YtbpmlbjapapoaaaGreatDoorRB9
import Derived.Test.YtbpmlbjapapoaaaGreatDoorRWp
import Derived.Test.YtbpmlbjapapoaaaGreatDoorRYa
set_option maxRecDepth 100000
set_option maxHeartbeats 64000000
namespace Go.Proofs.YtbpmlbjapapoaaaGreatDoor.Eng
open Go.RowKit
section
section
variable {hs : List Nat} {H : World → Prop} {full : Array Oper} {K : Env → World → Prop} {rest : List Oper} {env : Env} {w : World} {d : Tmp} {ty : TypeId} {pos : String} {af : Array Edge}
theorem xrw0 {α : Type} {cf : α → List Value} {z : Nat} (_ : ∀ x,(cf x).length = z) {t : TypeId} {x hi : Operand} {k' : IntKind} {v : Value} {l : List α} {jh : Int} (h : Nat) (hes : es t = some z) (hR : Rw cf w v l) (hx : evo env x = some v) (hhi : evo env hi = some (.int k' jh)) (eh : jh = h) (h2 : h ≤ l.length)
  (hc : ∀ A c,Rw cf w (.slice A h c) (l.take h) → xs Tryz.prog isI isS hs H full K rest ((d,.slice A h c) :: env) w) :
  xs Tryz.prog isI isS hs H full K (⟨some d,.slice t x none (some hi) none,ty,pos,af,none⟩ :: rest) env w:=by
 subst eh
 obtain ⟨A,c,rfl,h3,h4,h5⟩:=hR
 refine xsl0 hes hx hhi (by omega) (by omega) (fun A' hA'=>?_)
 rw [Int.toNat_natCast]
 have hl : (l.take h).length = h:=by rw [List.length_take];omega
 refine hc A' c ?_
 unfold Rw
 rw [hl]
 refine ⟨A',c,rfl,by omega,h4,fun h0=>?_⟩
 obtain ⟨b,o,rfl,hb,hcell⟩:=h5 (by omega)
 refine ⟨b,o,hA' b o rfl (by omega),hb,fun j u hu=>hcell j u ?_⟩
 have e1 : l.flatMap cf = (l.take h).flatMap cf ++ (l.drop h).flatMap cf:=by rw [← List.flatMap_append,List.take_append_drop]
 rw [e1,List.getElem?_append_left (List.getElem?_eq_some_iff.1 hu).1]
 exact hu
theorem xrw1 {α : Type} {cf : α → List Value} {z : Nat} (hz : ∀ x,(cf x).length = z) {t : TypeId} {x lo : Operand} {k' : IntKind} {v : Value} {l : List α} {jl : Int} (h : Nat) (hes : es t = some z) (hR : Rw cf w v l) (hx : evo env x = some v) (hlo : evo env lo = some (.int k' jl)) (el : jl = h) (h2 : h ≤ l.length)
  (hc : ∀ A c,Rw cf w (.slice A (l.length - h) c) (l.drop h) → xs Tryz.prog isI isS hs H full K rest ((d,.slice A (l.length - h) c) :: env) w) :
  xs Tryz.prog isI isS hs H full K (⟨some d,.slice t x (some lo) none none,ty,pos,af,none⟩ :: rest) env w:=by
 subst el
 obtain ⟨A,c,rfl,h3,h4,h5⟩:=hR
 refine xsl1 hes hx hlo (by omega) (by omega) (by omega) (fun A' hA'=>?_)
 rw [Int.toNat_natCast]
 have hl : (l.drop h).length = l.length - h:=List.length_drop ..
 refine hc A' _ ?_
 unfold Rw
 rw [hl]
 refine ⟨A',_,rfl,by omega,by omega,fun h0=>?_⟩
 obtain ⟨b,o,rfl,hb,hcell⟩:=h5 (by omega)
 refine ⟨b,o + h * z,?_,hb,fun j u hu=>?_⟩
 ·have:=hA' b o rfl (by omega)
  rwa [Int.toNat_natCast] at this
 have e1 : l.flatMap cf = (l.take h).flatMap cf ++ (l.drop h).flatMap cf:=by rw [← List.flatMap_append,List.take_append_drop]
 have e2 : ((l.take h).flatMap cf).length = h * z:=by rw [flat_len hz,List.length_take,Nat.min_eq_left h2]
 have:=hcell (h * z + j) u (by rw [e1,List.getElem?_append_right (by omega),e2,Nat.add_sub_cancel_left];exact hu)
 rwa [← Nat.add_assoc] at this
theorem xdec {op : BinOp} {t yt : TypeId} {x y : Operand} {k : IntKind} {a b : Int} {p : Prop} (r : Bool) (hx : evo env x = some (.int k a)) (hy : evo env y = some (.int k b)) (hr : cmpP op a b = some p) (hd : r = true ↔ p)
  (h : xs Tryz.prog isI isS hs H full K rest ((d,.bool r) :: env) w) : xs Tryz.prog isI isS hs H full K (⟨some d,.binOp op t x y yt,ty,pos,af,none⟩ :: rest) env w:=by
 cases r with
 | true=>exact xct hx hy hr (hd.1 rfl) h
 | false=>exact xcf hx hy hr (fun hp=>by have:=hd.2 hp;cases this) h
end
def accE (l : List En) (i : Nat) : List En:=(l.take i).foldl (fun a e=>insE e a) []
theorem accE_perm (l : List En) (i : Nat) : (accE l i).Perm (l.take i):=by have:=(sortE_go (l.take i) [] List.Pairwise.nil).2;rwa [List.append_nil] at this
theorem accE_len {l : List En} {i : Nat} (h : i ≤ l.length) : (accE l i).length = i:=by rw [(accE_perm l i).length_eq,List.length_take];omega
theorem accE_step {l : List En} {i : Nat} {e : En} (he : l[i]? = some e) : accE l (i + 1) = insE e (accE l i):=by
 unfold accE
 rw [List.take_add_one,he]
 simp [List.foldl_append]
def atL (seen : List Int) (n : Nat) : List Int:=(List.range n).map fun (k : Nat)=>if (k : Int) ∈ seen then ((seen.idxOf (k : Int) + 1 : Nat) : Int) else 0
theorem atL_nil (n : Nat) : atL [] n = List.replicate n 0:=by
 apply List.ext_getElem
 ·simp [atL]
 ·intro i h1 h2;simp [atL]
theorem atL_get {seen : List Int} {n k : Nat} (h : k < n) : (atL seen n)[k]? = some (if (k : Int) ∈ seen then ((seen.idxOf (k : Int) + 1 : Nat) : Int) else 0):=by
 unfold atL
 rw [List.getElem?_map,List.getElem?_range h]
 rfl
theorem atL_len (seen : List Int) (n : Nat) : (atL seen n).length = n:=by simp [atL]
theorem atL_set {seen : List Int} {n k : Nat} (hk : (k : Int) ∉ seen) : (atL seen n).set k ((seen.length + 1 : Nat) : Int) = atL (seen ++ [(k : Int)]) n:=by
 apply List.ext_getElem?
 intro j
 rw [List.getElem?_set,atL_len]
 by_cases hj : j < n
 ·rw [atL_get hj,atL_get hj]
  by_cases h : k = j
  ·subst h
   rw [if_pos rfl,if_pos hj,if_pos (by simp),List.idxOf_append,if_neg hk]
   simp
  ·rw [if_neg h]
   have hne : ¬ (j : Int) = (k : Int):=by omega
   by_cases hm : (j : Int) ∈ seen
   ·rw [if_pos hm,if_pos (List.mem_append_left _ hm),List.idxOf_append,if_pos hm]
   ·rw [if_neg hm,if_neg (by simp [hm,hne])]
 ·have e1 : (atL seen n)[j]? = none:=List.getElem?_eq_none (by rw [atL_len];omega)
  have e2 : (atL (seen ++ [(k : Int)]) n)[j]? = none:=List.getElem?_eq_none (by rw [atL_len];omega)
  rw [e1,e2]
  by_cases h : k = j
  ·rw [if_pos h,if_neg (by omega)]
  ·rw [if_neg h]
structure RaI (t : Tre) (w0 : World) (x : Nat × Value) (w : World) : Prop where
 i : x.1 ≤ t.es.length
 ok : ∀ e ∈ t.es.take x.1,mayP e.path = true ∧ inR t.ns.length e = true
 rw : Rw enC w x.2 (accE t.es x.1)
 ext : Ext w0 w
structure RnS where
 i : Nat
 seen : List Int
 ve : Value
 vn : Value
 nv : List NdV
 es : List En
structure RnI (t : Tre) (S : List En) (gu ga B : Nat) (nvs0 : List NdV) (w0 : World) (x : RnS) (w : World) : Prop where
 ext : Ext w0 w
 le : x.i ≤ S.length
 tre : Blk w gu 25 #[x.ve,x.vn]
 at_ : Blk w ga 3 ((atL x.seen t.ns.length).map (Value.int .i64)).toArray
 go : (x.es ++ (renG x.seen (S.drop x.i)).1,(renG x.seen (S.drop x.i)).2) = renG [] S
 oe : Ow enC 2 w B 53 x.ve x.es
 on : Ow ndC 12 w B 47 x.vn x.nv
 nd : x.nv.map (·.n) = x.seen.map fun k=>t.ns.getD k.toNat default
 ndi : ∀ y ∈ x.nv,y ∈ nvs0 ∧ y.n ∈ t.ns
 sl : x.seen.length ≤ x.i
 el : x.es.length = x.i
 sz : B ≤ w.heap.size
structure RnJ (t : Tre) (k : Int) (i : Nat) (seen : List Int) (es : List En) (we : Value) (gu ga B : Nat) (nvs0 : List NdV) (w0 : World) (y : List Int × Value × List NdV) (w : World) : Prop where
 m : k ∈ y.1
 wh : y.1 = seen ∧ k ∈ seen ∨ y.1 = seen ++ [k] ∧ k ∉ seen
 ext : Ext w0 w
 tre : Blk w gu 25 #[we,y.2.1]
 at_ : Blk w ga 3 ((atL y.1 t.ns.length).map (Value.int .i64)).toArray
 oe : Ow enC 2 w B 53 we es
 on : Ow ndC 12 w B 47 y.2.1 y.2.2
 nd : y.2.2.map (·.n) = y.1.map fun k=>t.ns.getD k.toNat default
 ndi : ∀ z ∈ y.2.2,z ∈ nvs0 ∧ z.n ∈ t.ns
 sl : y.1.length ≤ i + 1
 sz : B ≤ w.heap.size
def NormS (nvs : List NdV) (t : Tre) (w : World) (r : Value) (w' : World) : Prop:=Ext w w' ∧ match normT t with
 | none=>r = .tuple #[.agg #[.slice none 0 0,.slice none 0 0],.int .i64 1]
 | some t'=>∃ ve vn nvs',r = .tuple #[.agg #[ve,vn],.int .i64 0] ∧ TrV w' ve vn nvs' t' ∧ Ow enC 2 w' w.heap.size 53 ve t'.es ∧ Ow ndC 12 w' w.heap.size 47 vn nvs' ∧ ∀ y ∈ nvs',y ∈ nvs
theorem rnorm_err {nvs : List NdV} {t : Tre} (h : normT t = none) {w w' : World} (hE : Ext w w') : NormS nvs t w (.tuple #[.agg #[.slice none 0 0,.slice none 0 0],.int .i64 1]) w':=⟨hE,by rw [h]⟩
theorem rnorm_doesO (w : World) (ve vn : Value) (nvs : List NdV) (t : Tre) (hv : TrV w ve vn nvs t) (hn : TsOK t) (hes : t.es.length ≤ 1000000) (hns : t.ns.length ≤ 1000000) : Does Tryz.prog 15 #[.agg #[ve,vn]] w (NormS nvs t w):=by
 refine does1 Tryz.func15 rfl (by kernel_rfl) ?_
 have hv0:=hv
 obtain ⟨A,c,rfl,hc1,hc2,hA⟩:=hv.e.op enC_len
 obtain ⟨A',c',rfl,hc1',hc2',hA'⟩:=hv.n.op ndC_len
 have hlen:=hv.len
 rw [hlen] at hc1'
 have hN : ∀ {a b c : World} {g : Nat},Ext a b → Fr (· = g) b c → a.heap.size ≤ g → Ext a c:=fun h1 h2 hg=>h1.trans h2 fun j hj e=>absurd hj (by omega)
 refine goL ?_
 refine xbox rfl (fun w1 hB1 hE1 hs1=>?_)
 have hB : Blk w1 w.heap.size 25 #[.slice A t.es.length c,.slice A' nvs.length c']:=hB1
 have k0 : w1.cell? ⟨w.heap.size,0,none⟩ = some (.slice A t.es.length c):=hB.cell 0
 have k1 : w1.cell? ⟨w.heap.size,1,none⟩ = some (.slice A' t.ns.length c'):=by rw [← hlen];exact hB.cell 1
 refine goL ?_
 refine xalloc (z:=.agg #[.slice none 0 0,.slice none 0 0]) (by kernel_rfl) (fun w2 hB2 hE2 hs2=>?_)
 have hB2' : Blk w2 w1.heap.size 25 #[.slice none 0 0,.slice none 0 0]:=hB2
 have hE02 : Ext w w2:=hE1.t hE2
 have m0 : w2.cell? ⟨w.heap.size,0,none⟩ = some (.slice A t.es.length c):=hE2.cell k0
 have m1 : w2.cell? ⟨w.heap.size,1,none⟩ = some (.slice A' t.ns.length c'):=hE2.cell k1
 refine goL ?_
 refine tloop (α:=Nat × Value) (fun x=>[(1,.pointer (some ⟨w.heap.size,0,none⟩)),(2,.pointer (some ⟨w1.heap.size,0,none⟩)),(4,x.2),(5,.int .i64 (x.1 : Int))]) (RaI t w2) (fun x=>t.es.length - x.1) (0,.slice none 0 0) (sub ⟨rfl,rfl,rfl,rfl⟩) ⟨Nat.zero_le _,fun e he=>by simp at he,Rw.nil _ _ (by unfold maxLen;omega),Fr.refl _ _⟩ ?_
 rintro ⟨i,v⟩ w3 ⟨hi,hok,hrw,hE3⟩
 dsimp only at hi hok hrw hE3 ⊢
 have hE03 : Ext w w3:=hE02.t hE3
 have n0 : w3.cell? ⟨w.heap.size,0,none⟩ = some (.slice A t.es.length c):=hE3.cell m0
 have n1 : w3.cell? ⟨w.heap.size,1,none⟩ = some (.slice A' t.ns.length c'):=hE3.cell m1
 have hvl:=hrw
 obtain ⟨AL,cL,rfl,_,_,hAL⟩:=hrw.op enC_len
 rw [accE_len hi]
 by_cases hlt : i < t.es.length
 ·obtain ⟨b,o,e,rfl,_,he,_,hcell⟩:=hA.at_ hlt
  have hem:=List.mem_of_getElem? he
  have hpl:=hn.p e hem
  have hec : ∀ j u,(enC e)[j]? = some u → w3.cell? ⟨b,o + i * 2 + j,none⟩ = some u:=fun j u hu=>hE03.cell (hcell j u hu)
  refine gz4 ?_
  refine xldz (cs:=enC e) rfl rfl hec ?_
  refine xalloc (z:=.agg #[.string ⟨#[]⟩,.int .i64 0]) (by kernel_rfl) (fun w4 hB4 hE4 hs4=>?_)
  refine xsta (cs:=(enC e).toArray) hB4 rfl rfl rfl rfl (enC_all e) (fun w5 hB5 hF5=>?_)
  have hE35 : Ext w3 w5:=hN hE4 hF5 (by omega)
  have hE05 : Ext w w5:=hE03.t hE35
  have q0 : w5.cell? ⟨w3.heap.size,0,none⟩ = some (.string (su e.path)):=hB5.cell 0
  have q1 : w5.cell? ⟨w3.heap.size,1,none⟩ = some (.int .i64 e.node):=hB5.cell 1
  refine goL ?_
  refine xcallE rfl rfl (rmay_does w5 e.path hpl) (fun r w6 h6=>?_)
  obtain ⟨rfl,hE6⟩:=h6
  have hE06 : Ext w w6:=hE05.t hE6
  have hE26 : Ext w2 w6:=hE3.t (hE35.t hE6)
  have r1 : w6.cell? ⟨w3.heap.size,1,none⟩ = some (.int .i64 e.node):=hE6.cell q1
  have o1 : w6.cell? ⟨w.heap.size,1,none⟩ = some (.slice A' t.ns.length c'):=hE26.cell m1
  have hB6 : Blk w6 w1.heap.size 25 #[.slice none 0 0,.slice none 0 0]:=hB2'.ext hE26
  have bad : normT t = none → ∀ w7,Fr (· = w1.heap.size) w6 w7 → NormS nvs t w (.tuple #[.agg #[.slice none 0 0,.slice none 0 0],.int .i64 1]) w7:=fun h w7 hF=>rnorm_err h (hN hE06 hF (by have:=hE1.size;omega))
  cases hm : mayP e.path with
  | false=>
   refine goL ?_
   refine xbd (parts:=[]) (cells:=#[.slice none 0 0,.slice none 0 0]) rfl (by kernel_rfl) ?_
   refine goL ?_
   refine xsta hB6 rfl rfl (by kernel_rfl) rfl (one_cells (l:=[.slice none 0 0,.slice none 0 0]) rfl) (fun w7 hB7 hF7=>?_)
   refine goL ?_
   exact tretc2 rfl rfl rfl hB7 (by kernel_rfl) (bad (norm_path hem hm) w7 hF7)
  | true=>
  by_cases x0 : e.node < 0
  ·have hno : normT t = none:=norm_in hem (by unfold inR;rw [decide_eq_false (by omega)];rfl)
   exact y17
  by_cases x1 : (t.ns.length : Int) ≤ e.node
  ·have hno : normT t = none:=norm_in hem (by unfold inR;rw [decide_eq_false (p:=e.node < (t.ns.length : Int)) (by omega),Bool.and_false])
   exact y17
  have hin : inR t.ns.length e = true:=by unfold inR;rw [decide_eq_true (by omega),decide_eq_true (by omega)];rfl
  have hE36 : Ext w3 w6:=hE35.t hE6
  have hL:=accE_len (l:=t.es) (i:=i) hi
  repeat' (first | refine xmv rfl ?_ | refine xas rfl ?_ | refine xld rfl rfl (by with_reducible assumption) ?_ | refine xixn rfl rfl rfl (by omega) ?_ | refine xfa rfl rfl rfl ?_ | refine xln rfl rfl ?_ | refine xnil ?_ | refine xpk rfl rfl rfl rfl ?_ | refine xgy' rfl ?_ | refine xgn' rfl ?_ | refine xex rfl rfl ?_ | refine xnot rfl ?_ | refine xnc rfl ?_ | refine xeqn rfl rfl rfl ?_ | refine xnen rfl rfl rfl ?_ | refine xadd rfl rfl (by omega) (by omega) ?_ | refine xsub rfl rfl (by omega) (by omega) ?_ | refine xmul rfl rfl (by omega) (by omega) ?_ | refine xaddu rfl rfl (by omega) (by omega) ?_ | refine xsubu rfl rfl (by omega) (by omega) ?_ | refine xquo rfl rfl (by omega) (by omega) (by omega) ?_ | refine xrem rfl rfl (by omega) (by omega) (by omega) ?_ | refine xt_eql rfl rfl (by omega) ?_ | refine xf_eql rfl rfl (by omega) ?_ | refine xt_neq rfl rfl (by omega) ?_ | refine xf_neq rfl rfl (by omega) ?_ | refine xt_lss rfl rfl (by omega) ?_ | refine xf_lss rfl rfl (by omega) ?_ | refine xt_leq rfl rfl (by omega) ?_ | refine xf_leq rfl rfl (by omega) ?_ | refine xt_gtr rfl rfl (by omega) ?_ | refine xf_gtr rfl rfl (by omega) ?_ | refine xt_geq rfl rfl (by omega) ?_ | refine xf_geq rfl rfl (by omega) ?_ | refine tseq ?_ | refine tct rfl ?_ | refine tcf rfl ?_ | refine tskip ?_ | refine treg (by kernel_rfl) ?_ | refine tdraw (by kernel_rfl) (by decide +kernel) ?_ | refine texit rfl ?_ | fail)
  refine tcut (α:=Nat) (fun k=>[(1,.pointer (some ⟨w.heap.size,0,none⟩)),(2,.pointer (some ⟨w1.heap.size,0,none⟩)),(4,.slice AL i cL),(5,.int .i64 (i : Int)),(6,.pointer (some ⟨w3.heap.size,0,none⟩)),(7,.int .i64 (k : Int))]) (fun k w'=>Ext w6 w' ∧ k = insK e (accE t.es i) i) ?_ ?_
  ·refine goL ?_
   refine tloop (α:=Nat) (fun k=>[(1,.pointer (some ⟨w.heap.size,0,none⟩)),(2,.pointer (some ⟨w1.heap.size,0,none⟩)),(4,.slice AL i cL),(5,.int .i64 (i : Int)),(6,.pointer (some ⟨w3.heap.size,0,none⟩)),(7,.int .i64 (k : Int))]) (fun k w'=>Ext w6 w' ∧ k ≤ i ∧ insK e (accE t.es i) k = insK e (accE t.es i) i) (fun k=>k) i (sub ⟨rfl,rfl,rfl,rfl,rfl,rfl⟩) ⟨Fr.refl _ _,Nat.le_refl _,rfl⟩ ?_
   rintro k w7 ⟨hE7,hk,hgo⟩
   by_cases hk0 : 0 < k
   ·obtain ⟨k,rfl⟩:=Nat.exists_eq_succ_of_ne_zero (show k ≠ 0 by omega)
    obtain ⟨b4,o4,y,e4,_,hy,_,hcy⟩:=hAL.at_ (i:=k) (by rw [hL];omega)
    subst e4
    have hyg : (accE t.es i).getD k default = y:=by rw [List.getD_eq_getElem?_getD,hy];rfl
    have hyt : y ∈ t.es:=List.mem_of_mem_take ((accE_perm t.es i).mem_iff.1 (List.mem_of_getElem? hy))
    have hypl:=hn.p y hyt
    rw [insK,hyg] at hgo
    have s0 : w7.drew.cell? ⟨w3.heap.size,0,none⟩ = some (.string (su e.path)):=(hE6.t hE7).ed.cell q0
    have s1 : w7.drew.cell? ⟨b4,o4 + k * 2 + 0,none⟩ = some (.string (su y.path)):=(hE36.t hE7).ed.cell (hcy 0 _ rfl)
    repeat' (first | refine xizq k (o4 + k * 2) rfl rfl rfl (by omega) rfl (by omega) ?_ | refine go1L ?_ | fail)
    refine xcallE rfl rfl (rless_does w7.drew e.path y.path hpl hypl) (fun r w8 h8=>?_)
    obtain ⟨rfl,hE8⟩:=h8
    have hE68 : Ext w6 w8:=hE7.d.t hE8
    cases hls : lessP e.path y.path with
    | true=>
     rw [hls,if_pos rfl] at hgo
     refine goL ?_
     exact tfin ⟨k,sub ⟨rfl,rfl,rfl,rfl,rfl,ieq (by omega)⟩,⟨hE68,by omega,hgo⟩,(by show k < k + 1;omega)⟩
    | false=>
     rw [hls,if_neg (by decide)] at hgo
     refine goL ?_
     exact tfin ⟨k + 1,sub ⟨rfl,rfl,rfl,rfl,rfl,rfl⟩,⟨hE68,hgo⟩⟩
   ·obtain rfl : k = 0:=by omega
    refine goL ?_
    exact tfin ⟨0,sub ⟨rfl,rfl,rfl,rfl,rfl,rfl⟩,⟨hE7.d,by simpa [insK] using hgo⟩⟩
  ·rintro k w7 ⟨hE7,hk⟩
   have hki : k ≤ i:=by rw [hk];exact insK_le _ _ _
   have hins : insE e (accE t.es i) = (accE t.es i).take k ++ [e] ++ (accE t.es i).drop k:=by unfold insE;rw [hL,← hk];simp
   have hE37 : Ext w3 w7:=hE36.t hE7
   refine goL ?_
   refine xbz0 sl_ents (fun w8 hO8 hE8 hs8=>?_)
   refine goL ?_
   have hv8:=hvl.ext (hE37.t hE8)
   rw [hL] at hv8
   refine xrw0 enC_len k rfl hv8 rfl rfl rfl (by rw [hL];exact hki) (fun A8 c8 hR8=>?_)
   have hl8 : ((accE t.es i).take k).length = k:=by rw [List.length_take,hL];omega
   have hR8' : Row w8 (.slice A8 k c8) k (((accE t.es i).take k).flatMap enC):=by have:=hR8;unfold Rw at this;rw [hl8] at this;exact this
   refine xapz (B:=w7.heap.size) (news:=((accE t.es i).take k).flatMap enC) sl_ents rfl (by decide) rfl hO8 rfl hR8' (by rw [flat_len enC_len,hl8]) (enC_one _) (by unfold maxLen;omega) (by omega) (by omega) (fun v9 w9 hO9 hF9 _=>?_)
   have hO9' : Ow enC 2 w9 w7.heap.size 53 v9 ((accE t.es i).take k):=by unfold Ow;rw [hl8];simpa using hO9
   have hE79 : Ext w7 w9:=hE8.trans hF9 fun j hj h=>by have:=(OwnZ.blk hO8 h).1;omega
   have z9:=hE79.size
   have t6 : w9.drew.cell? ⟨w3.heap.size,0,none⟩ = some (.string (su e.path)):=(hE6.t (hE7.t hE79)).ed.cell q0
   have hB9 : Blk w9.drew w3.heap.size 53 (enC e).toArray:=Blk.ext hB5 ((hE6.t (hE7.t hE79)).d)
   refine goL ?_
   refine xlda (t:=53) hB9 rfl rfl ?_
   refine goL ?_
   refine xbz1 sl_ents rfl rfl (by decide) (by decide) (fun w10 hB10 hE10 hs10=>?_)
   have hE9d : Ext w9 w10:=(Fr.drew _ _).t hE10
   refine xapz (B:=w7.heap.size) (news:=enC e) sl_ents rfl (by decide) rfl (hO9'.ext hE9d) rfl (blk_row hB10 (by decide) rfl) rfl (fun u hu=>enC_one [e] u (by simpa using hu)) (by unfold maxLen;rw [hl8];omega) (by rw [hl8];omega) (by have:=hE9d.size;omega) (fun v11 w11 hO11 hF11 _=>?_)
   have hO11' : Ow enC 2 w11 w7.heap.size 53 v11 ((accE t.es i).take k ++ [e]):=Ow.ext1 (l':=[e]) (by simpa using hO11)
   have hE711 : Ext w7 w11:=(hE79.t hE9d).trans hF11 fun j hj h=>by have:=(hO9'.blk h).1;omega
   have z11:=hE711.size
   refine goL ?_
   have hv11:=hvl.ext (hE37.t hE711)
   rw [hL] at hv11
   refine xrw1 enC_len k rfl hv11 rfl rfl rfl (by rw [hL];exact hki) (fun A11 c11 hR11=>?_)
   have hl11 : ((accE t.es i).drop k).length = i - k:=by rw [List.length_drop,hL]
   have hl12 : ((accE t.es i).take k ++ [e]).length = k + 1:=by rw [List.length_append,hl8];rfl
   rw [hL] at hR11 ⊢
   have hR11' : Row w11 (.slice A11 (i - k) c11) (i - k) (((accE t.es i).drop k).flatMap enC):=by have:=hR11;unfold Rw at this;rw [hl11] at this;exact this
   refine xapz (B:=w7.heap.size) (news:=((accE t.es i).drop k).flatMap enC) sl_ents rfl (by decide) rfl hO11' rfl hR11' (by rw [flat_len enC_len,hl11]) (enC_one _) (by unfold maxLen;rw [hl12];omega) (by rw [hl12];omega) z11 (fun v12 w12 hO12 hF12 _=>?_)
   have hO12' : Ow enC 2 w12 w7.heap.size 53 v12 (accE t.es (i + 1)):=by
    rw [accE_step he,hins]
    exact Ow.ext1 (l':=(accE t.es i).drop k) (by rw [hl11];exact hO12)
   have hE712 : Ext w7 w12:=hE711.trans hF12 fun j hj h=>by have:=(hO11'.blk h).1;omega
   refine goL ?_
   refine tfin ⟨(i + 1,v12),sub ⟨rfl,rfl,rfl,rfl⟩,⟨hlt,fun x hx=>?_,hO12'.rw,hE3.t (hE37.t hE712)⟩,(by show t.es.length - (i + 1) < t.es.length - i;omega)⟩
   dsimp only at hx
   rw [List.take_add_one,he] at hx
   rcases List.mem_append.1 hx with hx | hx
   ·exact hok x hx
   ·have hxe : x = e:=by simpa using hx
    rw [hxe];exact ⟨hm,hin⟩
 obtain rfl : i = t.es.length:=by omega
 rw [List.take_length] at hok
 have hS : accE t.es t.es.length = sortE t.es:=by unfold accE;rw [List.take_length];rfl
 rw [hS] at hAL hvl
 have hSp:=sortE_perm t.es
 have hSl : (sortE t.es).length = t.es.length:=hSp.length_eq
 obtain ⟨S,hSe⟩ : ∃ S,S = sortE t.es:=⟨_,rfl⟩
 rw [← hSe] at hAL hvl hSp hSl
 rw [← hSl]
 have hall : ∀ e ∈ S,0 ≤ e.node ∧ e.node < t.ns.length:=fun e he=>by
  have:=(hok e (hSp.mem_iff.1 he)).2
  unfold inR at this
  simpa using this
 have hnorm : ∀ r,mayT (renT t.ns S) = r → normT t = if r then some (renT t.ns S) else none:=fun r hr=>by
  unfold normT
  rw [← hSe,hr,List.all_eq_true.2 fun e he=>(hok e he).2]
  rfl
 refine goL ?_
 refine xalloc (z:=.agg #[.slice none 0 0,.slice none 0 0]) (by kernel_rfl) (fun w4 hB4 hE4 hs4=>?_)
 have hB4' : Blk w4 w3.heap.size 25 #[.slice none 0 0,.slice none 0 0]:=hB4
 have n14 : w4.cell? ⟨w.heap.size,1,none⟩ = some (.slice A' t.ns.length c'):=hE4.cell n1
 refine goL ?_
 refine xmk sl_ints rfl rfl rfl (by omega) (by omega) (by omega) (fun w5 hB5 hE5 hs5=>?_)
 rw [Int.toNat_natCast] at hB5 ⊢
 have hE35 : Ext w3 w5:=hE4.t hE5
 have hat0 : Blk w5 w4.heap.size 3 ((atL [] t.ns.length).map (Value.int .i64)).toArray:=by
  rw [atL_nil,List.map_replicate]
  simpa using hB5
 refine goL ?_
 refine tloop (α:=RnS) (fun x=>[(1,.pointer (some ⟨w.heap.size,0,none⟩)),(2,.pointer (some ⟨w1.heap.size,0,none⟩)),(4,.slice AL S.length cL),(9,.pointer (some ⟨w3.heap.size,0,none⟩)),(10,.slice (some ⟨w4.heap.size,0,none⟩) t.ns.length t.ns.length),(11,.int .i64 (x.i : Int))]) (RnI t S w3.heap.size w4.heap.size w5.heap.size nvs w3) (fun x=>S.length - x.i) ⟨0,[],.slice none 0 0,.slice none 0 0,[],[]⟩ (sub ⟨rfl,rfl,rfl,rfl,rfl,rfl⟩) ⟨hE35,Nat.zero_le _,hB4'.ext hE5,hat0,rfl,Ow.nil _ _ _,Ow.nil _ _ _,rfl,(fun y hy=>by cases hy),Nat.zero_le _,rfl,Nat.le_refl _⟩ ?_
 rintro ⟨i,seen,we,wn,nv,es'⟩ w6 ⟨hE6,hi,htre,hat,hgo,hoe,hon,hnd,hndi,hsl,hel,hsz⟩
 dsimp only at hE6 hi htre hat hgo hoe hon hnd hndi hsl hel hsz ⊢
 have hE06 : Ext w w6:=hE03.t hE6
 have hnvl : nv.length = seen.length:=by have:=congrArg List.length hnd;simpa using this
 by_cases hlt : i < S.length
 ·obtain ⟨b,o,e,rfl,_,he,hdr,hcell⟩:=hAL.at_ hlt
  have hem:=List.mem_of_getElem? he
  obtain ⟨x0,x1⟩:=hall e hem
  obtain ⟨k,hk⟩:=Int.eq_ofNat_of_zero_le x0
  have hkl : k < t.ns.length:=by omega
  rw [hdr,renG] at hgo
  have c1 : w6.cell? ⟨b,o + i * 2 + 1,none⟩ = some (.int .i64 (k : Int)):=by rw [← hk];exact hE6.cell (hcell 1 _ rfl)
  have ca : w6.cell? ⟨w4.heap.size,k,none⟩ = some (.int .i64 (if (k : Int) ∈ seen then ((seen.idxOf (k : Int) + 1 : Nat) : Int) else 0)):=by
   rw [hat.cell]
   have:=atL_get (seen:=seen) hkl
   simp only [List.getElem?_toArray,List.getElem?_map,this,Option.map_some]
  have key : ∀ sn : List Int,(sn = seen ∧ (k : Int) ∈ seen ∨ sn = seen ++ [(k : Int)] ∧ (k : Int) ∉ seen) → ((es' ++ [⟨e.path,(sn.idxOf (k : Int) : Int)⟩]) ++ (renG sn (S.drop (i + 1))).1,(renG sn (S.drop (i + 1))).2) = renG [] S:=fun sn h=>by
   rw [hk] at hgo
   rcases h with ⟨rfl,hm⟩ | ⟨rfl,hm⟩
   ·rw [if_pos hm] at hgo
    rw [← hgo];simp
   ·rw [if_neg hm] at hgo
    rw [List.idxOf_append,if_neg hm]
    rw [← hgo];simp
  have c91 : w6.cell? ⟨w3.heap.size,1,none⟩ = some wn:=htre.cell 1
  have o1 : w6.cell? ⟨w.heap.size,1,none⟩ = some (.slice A' t.ns.length c'):=hE6.cell n1
  refine gz0 ?_
  refine tct rfl ?_
  refine gz0 ?_
  first | refine tblock ?_ | refine tblk ?_
  repeat' (first | refine xizq i (o + i * 2) rfl rfl rfl rfl rfl hlt ?_ | refine xisq k k rfl rfl rfl rfl (by omega) hkl ?_ | refine xdec (op:=.eql) (decide ((k : Int) ∉ seen)) rfl rfl rfl (by by_cases hm : (k : Int) ∈ seen <;> simp [hm] <;> omega) ?_ | refine xmv rfl ?_ | refine xas rfl ?_ | refine xld rfl rfl (by with_reducible assumption) ?_ | refine xixn rfl rfl rfl (by omega) ?_ | refine xfa rfl rfl rfl ?_ | refine xln rfl rfl ?_ | refine xnil ?_ | refine xpk rfl rfl rfl rfl ?_ | refine xgy' rfl ?_ | refine xgn' rfl ?_ | refine xex rfl rfl ?_ | refine xnot rfl ?_ | refine xnc rfl ?_ | refine xeqn rfl rfl rfl ?_ | refine xnen rfl rfl rfl ?_ | refine xadd rfl rfl (by omega) (by omega) ?_ | refine xsub rfl rfl (by omega) (by omega) ?_ | refine xmul rfl rfl (by omega) (by omega) ?_ | refine xaddu rfl rfl (by omega) (by omega) ?_ | refine xsubu rfl rfl (by omega) (by omega) ?_ | refine xquo rfl rfl (by omega) (by omega) (by omega) ?_ | refine xrem rfl rfl (by omega) (by omega) (by omega) ?_ | refine xt_eql rfl rfl (by omega) ?_ | refine xf_eql rfl rfl (by omega) ?_ | refine xt_neq rfl rfl (by omega) ?_ | refine xf_neq rfl rfl (by omega) ?_ | refine xt_lss rfl rfl (by omega) ?_ | refine xf_lss rfl rfl (by omega) ?_ | refine xt_leq rfl rfl (by omega) ?_ | refine xf_leq rfl rfl (by omega) ?_ | refine xt_gtr rfl rfl (by omega) ?_ | refine xf_gtr rfl rfl (by omega) ?_ | refine xt_geq rfl rfl (by omega) ?_ | refine xf_geq rfl rfl (by omega) ?_ | refine tseq ?_ | refine tskip ?_ | refine treg (by kernel_rfl) ?_ | refine tdraw (by kernel_rfl) (by decide +kernel) ?_ | refine texit rfl ?_ | fail)
  refine tcut (α:=List Int × Value × List NdV) (fun y=>[(1,.pointer (some ⟨w.heap.size,0,none⟩)),(2,.pointer (some ⟨w1.heap.size,0,none⟩)),(4,.slice (some ⟨b,o,none⟩) S.length cL),(9,.pointer (some ⟨w3.heap.size,0,none⟩)),(10,.slice (some ⟨w4.heap.size,0,none⟩) t.ns.length t.ns.length),(11,.int .i64 (i : Int)),(12,.int .i64 (k : Int))]) (RnJ t (k : Int) i seen es' we w3.heap.size w4.heap.size w5.heap.size nvs w3) ?_ ?_
  ·by_cases hm : (k : Int) ∈ seen
   ·rw [decide_eq_false (fun h=>h hm)]
    refine goL ?_
    exact tfin ⟨(seen,wn,nv),sub ⟨rfl,rfl,rfl,rfl,rfl,rfl,rfl⟩,⟨hm,.inl ⟨rfl,hm⟩,hE6,htre,hat,hoe,hon,hnd,hndi,by dsimp only;omega,hsz⟩⟩
   ·rw [decide_eq_true hm]
    obtain ⟨b3,o3,n,e5,_,hny,_,hcy⟩:=hA'.at_ (i:=k) (by omega)
    subst e5
    have hnc : ∀ q u,(ndC n)[q]? = some u → w6.drew.cell? ⟨b3,o3 + k * 12 + q,none⟩ = some u:=fun q u hu=>hE06.ed.cell (hcy q u hu)
    have hin:=hv0.i n (List.mem_of_getElem? hny)
    obtain ⟨A5,c5,rfl,hc51,hc52⟩:=hon.form
    have c91d : w6.drew.cell? ⟨w3.heap.size,1,none⟩ = some (.slice A5 nv.length c5):=c91
    have o1d : w6.drew.cell? ⟨w.heap.size,1,none⟩ = some (.slice (some ⟨b3,o3,none⟩) t.ns.length c'):=o1
    refine goL ?_
    refine tdrawC 8 [94] (fun w'=>w'.cell? ⟨w3.heap.size,1,none⟩ = some (.slice A5 nv.length c5)) (by kernel_rfl) (by decide +kernel) c91d ?_
    repeat' (first | refine xldh rfl rfl (fun _ h=>h) ?_ | refine xizq k (o3 + k * 12) rfl rfl rfl rfl rfl hkl ?_ | refine go1L ?_ | fail)
    refine xldz (cs:=ndC n) rfl rfl hnc ?_
    refine xbz1 sl_nds rfl rfl (by decide) (by decide) (fun w7 hB7 hE7 hs7=>?_) (fun w' he=>he.cell c91d)
    have hE67 : Ext w6 w7:=(Fr.drew _ _).t hE7
    refine xnil ?_
    have z6:=hE67.size
    refine xapz (B:=w5.heap.size) (news:=ndC n) sl_nds rfl (by decide) rfl (hon.ext hE67) rfl (blk_row hB7 (by decide) rfl) rfl (ndC_one hin) (by unfold maxLen;omega) (by omega) (by omega) (fun v8 w8 hO8 hF8 _=>?_)
    have hO8' : Ow ndC 12 w8 w5.heap.size 47 v8 (nv ++ [n]):=Ow.ext1 (l':=[n]) (by simpa using hO8)
    obtain ⟨A8,c8,rfl,_,_⟩:=hO8'.form
    have hne8 : ∀ x,x < w5.heap.size → ¬ (Value.slice A5 nv.length c5).ownBlock = some x:=fun x hx h=>by have:=(hon.blk h).1;omega
    have z3:=hE4.size
    have htre8 : Blk w8 w3.heap.size 25 #[we,.slice A5 nv.length c5]:=(htre.ext hE67).fr hF8 (hne8 _ (by omega))
    refine goL ?_
    refine xstb htre8 rfl rfl (by kernel_rfl) rfl rfl (fun w9 hB9 hF9=>?_)
    have hat8 : Blk w8 w4.heap.size 3 ((atL seen t.ns.length).map (Value.int .i64)).toArray:=(hat.ext hE67).fr hF8 (hne8 _ (by omega))
    have hat9 : Blk w9 w4.heap.size 3 ((atL seen t.ns.length).map (Value.int .i64)).toArray:=hat8.fr hF9 (show ¬ w4.heap.size = w3.heap.size by omega)
    have c99 : w9.cell? ⟨w3.heap.size,1,none⟩ = some (.slice A8 (nv ++ [n]).length c8):=hB9.cell 1
    repeat' (first | refine xisq k k rfl rfl rfl rfl (by omega) hkl ?_ | refine go1L ?_ | fail)
    refine xstb hat9 rfl rfl rfl rfl (by simp only [List.size_toArray,List.length_map,atL_len];exact decide_eq_true hkl) (fun w10 hB10 hF10=>?_)
    refine goL ?_
    have hE68 : Fr (fun b=>(Value.slice A5 nv.length c5).ownBlock = some b) w6 w8:=Fr.t (Ext.fr hE67) hF8
    have hE38 : Ext w3 w8:=(hE6.t hE67).trans hF8 fun j hj h=>absurd h (hne8 j (by omega))
    have z8:=hE38.size
    have hnat : Blk w10 w4.heap.size 3 ((atL (seen ++ [(k : Int)]) t.ns.length).map (Value.int .i64)).toArray:=by
     rw [List.setIfInBounds_toArray,show (nv ++ [n]).length = seen.length + 1 from by rw [List.length_append,hnvl];rfl] at hB10
     rw [← atL_set hm,List.map_set]
     exact hB10
    have hoe8 : Ow enC 2 w8 w5.heap.size 53 we es':=(hoe.ext hE67).fr hF8 (fun b hb h=>hon.apart hoe (by decide) h hb)
    refine tfin ⟨(seen ++ [(k : Int)],.slice A8 (nv ++ [n]).length c8,nv ++ [n]),sub ⟨rfl,rfl,rfl,rfl,rfl,rfl,rfl⟩,⟨by simp,.inr ⟨rfl,hm⟩,hN (hN hE38 hF9 (Nat.le_refl _)) hF10 (by omega),hB9.fr hF10 (show ¬ w3.heap.size = w4.heap.size by omega),hnat,(hoe8.fr hF9 (fun b hb=>by have:=(hoe8.blk hb).1;show ¬ b = w3.heap.size;omega)).fr hF10 (fun b hb=>by have:=(hoe8.blk hb).1;show ¬ b = w4.heap.size;omega),(hO8'.fr hF9 (fun b hb=>by have:=(hO8'.blk hb).1;show ¬ b = w3.heap.size;omega)).fr hF10 (fun b hb=>by have:=(hO8'.blk hb).1;show ¬ b = w4.heap.size;omega),?_,?_,?_,?_⟩⟩
    ·dsimp only
     rw [List.map_append,List.map_append,hnd]
     congr 1
     simp only [List.map_cons,List.map_nil,Int.toNat_natCast,hv0.getD hny]
    ·intro y hy
     rcases List.mem_append.1 hy with hy | hy
     ·exact hndi y hy
     ·rw [List.mem_singleton.1 hy];exact ⟨List.mem_of_getElem? hny,List.mem_of_getElem? (hv0.get hny)⟩
    ·dsimp only;rw [List.length_append];simp only [List.length_cons,List.length_nil];omega
    ·have:=hF9.size;have:=hF10.size;have:=hF8.size;omega
  ·rintro ⟨sn,wn',nv'⟩ w7 ⟨hsn,hwh,hE7,htre7,hat7,hoe7,hon7,hnd7,hndi7,hsl7,hsz7⟩
   dsimp only at hsn hwh hE7 htre7 hat7 hoe7 hon7 hnd7 hndi7 hsl7 hsz7 ⊢
   obtain ⟨Ae,ce,rfl,hce1,hce2⟩:=hoe7.form
   have c90 : w7.drew.cell? ⟨w3.heap.size,0,none⟩ = some (.slice Ae es'.length ce):=htre7.cell 0
   have cp : w7.drew.cell? ⟨b,o + i * 2 + 0,none⟩ = some (.string (su e.path)):=hE7.ed.cell (hcell 0 _ rfl)
   have ca7 : w7.drew.cell? ⟨w4.heap.size,k,none⟩ = some (.int .i64 ((sn.idxOf (k : Int) + 1 : Nat) : Int)):=by
    have h1:=atL_get (seen:=sn) hkl
    rw [if_pos hsn] at h1
    have h2:=hat7.cell k
    simp only [List.getElem?_toArray,List.getElem?_map,h1,Option.map_some] at h2
    exact h2
   have hix : sn.idxOf (k : Int) < sn.length:=List.idxOf_lt_length_iff.2 hsn
   have z3:=hE4.size
   refine goL ?_
   refine tdrawC 14 [110] (fun w'=>w'.cell? ⟨w3.heap.size,0,none⟩ = some (.slice Ae es'.length ce)) (by kernel_rfl) (by decide +kernel) c90 ?_
   repeat' (first | refine xldh rfl rfl (fun _ h=>h) ?_ | refine xizq i (o + i * 2) rfl rfl rfl rfl rfl hlt ?_ | refine xisq k k rfl rfl rfl rfl (by omega) hkl ?_ | refine go1L ?_ | fail)
   obtain ⟨en,hen⟩ : ∃ en : En,en = ⟨e.path,(sn.idxOf (k : Int) : Int)⟩:=⟨_,rfl⟩
   have henn : ((sn.idxOf (k : Int) + 1 : Nat) : Int) - 1 = (sn.idxOf (k : Int) : Int):=by omega
   refine xbd (parts:=[(0,.tmp 115),(1,.tmp 120)]) (cells:=(enC en).toArray) (vs:=[(0,.string (su en.path)),(1,.int .i64 en.node)]) (by
    rw [hen]
    show some [(0,Value.string (su e.path)),(1,Value.int .i64 (((sn.idxOf (k : Int) + 1 : Nat) : Int) - 1))] = _
    rw [henn]) (by kernel_rfl) ?_
   refine xbz1 sl_ents rfl rfl (by decide) (by decide) (fun w8 hB8 hE8 hs8=>?_) (fun w' he=>he.cell c90)
   have hE78 : Ext w7 w8:=(Fr.drew _ _).t hE8
   refine xnil ?_
   have z8:=hE78.size
   refine xapz (B:=w5.heap.size) (news:=enC en) sl_ents rfl (by decide) rfl (hoe7.ext hE78) rfl (blk_row hB8 (by decide) rfl) rfl (fun u hu=>enC_one [_] u (by simpa using hu)) (by unfold maxLen;omega) (by omega) (by omega) (fun v9 w9 hO9 hF9 _=>?_)
   have hO9' : Ow enC 2 w9 w5.heap.size 53 v9 (es' ++ [en]):=Ow.ext1 (l':=[en]) (by simpa using hO9)
   obtain ⟨A9,c9,rfl,_,_⟩:=hO9'.form
   have hne9 : ∀ x,x < w5.heap.size → ¬ (Value.slice Ae es'.length ce).ownBlock = some x:=fun x hx h=>by have:=(hoe7.blk h).1;omega
   have htre9 : Blk w9 w3.heap.size 25 #[.slice Ae es'.length ce,wn']:=(htre7.ext hE78).fr hF9 (hne9 _ (by omega))
   refine goL ?_
   refine xstb htre9 rfl rfl (by kernel_rfl) rfl rfl (fun w10 hB10 hF10=>?_)
   refine goL ?_
   have hE39 : Ext w3 w9:=(hE7.t hE78).trans hF9 fun j hj h=>absurd h (hne9 j (by omega))
   have hon9 : Ow ndC 12 w9 w5.heap.size 47 wn' nv':=(hon7.ext hE78).fr hF9 (fun b hb h=>hon7.apart hoe7 (by decide) hb h)
   refine tfin ⟨⟨i + 1,sn,.slice A9 (es' ++ [en]).length c9,wn',nv',es' ++ [en]⟩,sub ⟨rfl,rfl,rfl,rfl,rfl,rfl⟩,⟨hN hE39 hF10 (Nat.le_refl _),hlt,hB10,((hat7.ext hE78).fr hF9 (hne9 _ (by omega))).fr hF10 (show ¬ w4.heap.size = w3.heap.size by omega),(by have:=key sn hwh;rw [← hen] at this;exact this),hO9'.fr hF10 (fun b hb=>by have:=(hO9'.blk hb).1;show ¬ b = w3.heap.size;omega),hon9.fr hF10 (fun b hb=>by have:=(hon9.blk hb).1;show ¬ b = w3.heap.size;omega),hnd7,hndi7,hsl7,(by dsimp only;rw [List.length_append,hel];rfl),(by have:=hF9.size;have:=hF10.size;omega)⟩,(by show S.length - (i + 1) < S.length - i;omega)⟩
 ·obtain rfl : i = S.length:=by omega
  have hR : renG [] S = (es',seen):=by rw [← hgo,List.drop_length,renG,List.append_nil]
  have hT : renT t.ns S = ⟨es',seen.map fun k=>t.ns.getD k.toNat default⟩:=by unfold renT;rw [hR]
  have hTr : ∀ w',Ext w6 w' → TrV w' we wn nv (renT t.ns S):=fun w' hE=>by
   rw [hT]
   exact ⟨hoe.rw.ext hE,hon.rw.ext hE,fun y hy=>(hv0.i y (hndi y hy).1).ext (hE06.t hE),hnd⟩
  obtain ⟨A5,c5,rfl,_,_⟩:=hon.form
  obtain ⟨A6,c6,rfl,_,_⟩:=hoe.form
  have hTs : TsOK (renT t.ns S):=by
   have hnm : ∀ n ∈ (renT t.ns S).ns,n ∈ t.ns:=fun n hnn=>by
    rw [hT,← hnd] at hnn
    obtain ⟨y,hy,rfl⟩:=List.mem_map.1 hnn
    exact (hndi y hy).2
   refine ⟨fun n hnn=>hn.b n (hnm n hnn),fun n hnn=>hn.g n (hnm n hnn),fun e he=>?_⟩
   have : e.path ∈ (renG [] S).1.map (·.path):=List.mem_map_of_mem (by exact he)
   rw [renG_paths] at this
   obtain ⟨x,hx,hxp⟩:=List.mem_map.1 this
   rw [← hxp]
   exact hn.p x (hSp.mem_iff.1 hx)
  have hB26 : Blk w6 w1.heap.size 25 #[.slice none 0 0,.slice none 0 0]:=hB2'.ext (hE3.t hE6)
  have hs12:=hE1.size
  refine goL ?_
  refine xlda (t:=25) htre rfl rfl ?_
  refine goL ?_
  refine xcallE rfl rfl (rtmay_does w6 _ _ nv (renT t.ns S) (hTr w6 (Fr.refl _ _)) hTs (by rw [hT];dsimp only;rw [List.length_map];omega)) (fun r w7 h7=>?_)
  obtain ⟨rfl,hE7⟩:=h7
  have hE07 : Ext w w7:=hE06.t hE7
  cases hm : mayT (renT t.ns S) with
  | false=>
   have hno : normT t = none:=hnorm false hm
   refine goL ?_
   refine xbd (parts:=[]) (cells:=#[.slice none 0 0,.slice none 0 0]) rfl (by kernel_rfl) ?_
   refine goL ?_
   refine xsta (hB26.ext hE7) rfl rfl (by kernel_rfl) rfl (one_cells (l:=[.slice none 0 0,.slice none 0 0]) rfl) (fun w8 hB8 hF8=>?_)
   refine goL ?_
   exact tretc2 rfl rfl rfl hB8 (by kernel_rfl) (rnorm_err hno (hN hE07 hF8 (by omega)))
  | true=>
   have hsome : normT t = some (renT t.ns S):=hnorm true hm
   refine goL ?_
   refine xlda (t:=25) (htre.ext hE7) rfl rfl ?_
   refine goL ?_
   refine xsta (hB26.ext hE7) rfl rfl (by kernel_rfl) rfl (one_cells (l:=[.slice A6 es'.length c6,.slice A5 nv.length c5]) rfl) (fun w8 hB8 hF8=>?_)
   refine goL ?_
   have hl5 : ∀ b,w5.heap.size ≤ b → ¬ b = w1.heap.size:=fun b hb=>by have:=hE35.size;have:=hE3.size;omega
   refine tretc2 rfl rfl rfl hB8 (by kernel_rfl) ⟨hN hE07 hF8 (by omega),?_⟩
   rw [hsome]
   refine ⟨_,_,nv,rfl,?_⟩
   rw [hT]
   have hz5 : w.heap.size ≤ w5.heap.size:=(hE03.t hE35).size
   have he8:=(hoe.ext hE7).fr hF8 fun b hb=>hl5 b (hoe.blk hb).1
   have hn8:=(hon.ext hE7).fr hF8 fun b hb=>hl5 b (hon.blk hb).1
   exact ⟨⟨he8.rw,hn8.rw,fun y hy=>(hv0.i y (hndi y hy).1).ext (hN hE07 hF8 (by omega)),hnd⟩,he8.mono hz5,hn8.mono hz5,fun y hy=>(hndi y hy).1⟩
theorem rnorm_does (w : World) (ve vn : Value) (nvs : List NdV) (t : Tre) (hv : TrV w ve vn nvs t) (hn : TsOK t) (hes : t.es.length ≤ 1000000) (hns : t.ns.length ≤ 1000000) : Does Tryz.prog 15 #[.agg #[ve,vn]] w (NormR t w):=
 Does.mono (rnorm_doesO w ve vn nvs t hv hn hes hns) fun r w' h=>by
  obtain ⟨hE,h⟩:=h
  refine ⟨hE,?_⟩
  cases hn : normT t with
  | none=>rw [hn] at h;exact h
  | some t'=>
   rw [hn] at h
   obtain ⟨ve,vn,nvs,h1,h2,_⟩:=h
   exact ⟨ve,vn,nvs,h1,h2⟩
end
end Go.Proofs.YtbpmlbjapapoaaaGreatDoor.Eng
