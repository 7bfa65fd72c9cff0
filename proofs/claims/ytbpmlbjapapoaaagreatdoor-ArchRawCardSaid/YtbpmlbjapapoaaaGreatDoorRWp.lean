/-
  Parts of the proof: Wp.
-/
import Derived.Test.YtbpmlbjapapoaaaGreatDoorRWm
import Derived.Test.YtbpmlbjapapoaaaGreatDoorRWn
set_option maxRecDepth 100000
set_option maxHeartbeats 64000000
namespace Go.Proofs.YtbpmlbjapapoaaaGreatDoor.Eng
open Go.RowKit
section
attribute [local irreducible] xs T
structure TsOK (t : Tre) : Prop where
 b : NsOK t.ns
 g : ∀ n ∈ t.ns,n.target.length ≤ 1000000
 p : ∀ e ∈ t.es,e.path.length ≤ 1000000
def usesL (n : Nat) (l : List En) : List Int:=(List.range n).map fun k=>(cntN k l : Int)
theorem usesL_len (n : Nat) (l : List En) : (usesL n l).length = n:=by simp [usesL]
theorem usesL_nil (n : Nat) : usesL n [] = List.replicate n 0:=by
 unfold usesL cntN
 apply List.ext_getElem
 ·simp
 ·intro i h1 h2;simp
theorem usesL_get {n k : Nat} {l : List En} (hk : k < n) : (usesL n l)[k]? = some (cntN k l : Int):=by simp [usesL,hk]
theorem cnt_take {es : List En} {i k : Nat} {e : En} (he : es[i]? = some e) : cntN k (es.take (i + 1)) = cntN k (es.take i) + if e.node = (k : Int) then 1 else 0:=by
 unfold cntN
 rw [List.take_add_one,he,Option.toList_some,List.countP_append,List.countP_singleton]
 by_cases h : e.node = (k : Int) <;> simp [h]
theorem usesL_set {n k i : Nat} {es : List En} {e : En} (he : es[i]? = some e) (hk : e.node = (k : Int)) : (usesL n (es.take i)).set k ((cntN k (es.take i) : Int) + 1) = usesL n (es.take (i + 1)):=by
 apply List.ext_getElem
 ·simp [usesL]
 ·intro j h1 h2
  rw [usesL_len] at h2
  rw [List.getElem_set]
  by_cases h : k = j
  ·subst h
   rw [if_pos rfl]
   simp only [usesL,List.getElem_map,List.getElem_range,cnt_take he,if_pos hk]
   omega
  ·rw [if_neg h]
   have hne : ¬ e.node = (j : Int):=by omega
   simp only [usesL,List.getElem_map,List.getElem_range,cnt_take he,if_neg hne,Nat.add_zero]
theorem cnt_le (k : Nat) (l : List En) : cntN k l ≤ l.length:=List.countP_le_length
def chkE (n : Nat) (prev : Option Str) (used : Nat) (e : En) : Bool:=mayP e.path && (match prev with | none=>true | some p=>lessP p e.path) && decide (0 ≤ e.node) && decide (e.node ≤ used) && decide (e.node < n)
theorem ref_step {t : Tre} {i used : Nat} {e : En} (he : t.es[i]? = some e) : refG t ((prevO t.es i).map (·.path)) used (t.es.drop i) = (chkE t.ns.length ((prevO t.es i).map (·.path)) used e && parR t e && refG t ((prevO t.es (i + 1)).map (·.path)) (if e.node < used then used else used + 1) (t.es.drop (i + 1))):=by
 rw [drop_get he,prev_next he]
 generalize prevO t.es i = p
 cases p <;> rfl
structure RtI (t : Tre) (w1 : World) (x : Nat × Nat) (w : World) : Prop where
 i : x.1 ≤ t.es.length
 u : x.2 ≤ t.ns.length
 blk : Blk w w1.heap.size 3 ((usesL t.ns.length (t.es.take x.1)).map (Value.int .i64)).toArray
 go : refG t ((prevO t.es x.1).map (·.path)) x.2 (t.es.drop x.1) = refG t none 0 t.es
 ext : Ext w1 w
theorem rmay_def (t : Tre) (e0 : En) (hh : t.es.headD default = e0) : rmayT t = (decide (1 ≤ t.es.length) && decide (t.es.length ≤ 100) && decide (e0.path = []) && refG t none 0 t.es && (List.range t.ns.length).all (nodeR t) && decide (kindAt t.ns e0.node = 1)):=by
 subst hh;rfl
theorem refG_go (t : Tre) : ∀ (l : List En) (p : Option Str) (u : Nat),refG t p u l = true → ∀ e ∈ l,0 ≤ e.node ∧ e.node < t.ns.length
 | [],_,_,_,e,he=>by simp at he
 | x :: r,p,u,h,e,he=>by
  simp only [refG,Bool.and_eq_true,decide_eq_true_eq] at h
  rcases List.mem_cons.1 he with rfl | he
  ·exact ⟨h.1.1.1.1.2,h.1.1.2⟩
  ·exact refG_go t r _ _ h.2 e he
theorem refG_of (t : Tre) (h : refG t none 0 t.es = true) (e : En) (he : e ∈ t.es) : 0 ≤ e.node ∧ e.node < t.ns.length:=refG_go t t.es _ _ h e he
theorem rtmay_does (w : World) (ve vn : Value) (nvs : List NdV) (t : Tre) (hv : TrV w ve vn nvs t) (hn : TsOK t) (hns : t.ns.length ≤ 1000000) : Does Tryz.prog 21 #[.agg #[ve,vn]] w fun r w'=>r = .bool (mayT t) ∧ Ext w w':=by
 refine does1 Tryz.func21 rfl (by kernel_rfl) ?_
 rw [← rmayT_eq]
 have hv0:=hv
 obtain ⟨A,c,rfl,hc1,hc2,hA⟩:=hv.e.op enC_len
 obtain ⟨A',c',rfl,hc1',hc2',hA'⟩:=hv.n.op ndC_len
 have hlen:=hv.len
 rw [hlen] at hc1'
 refine goL ?_
 refine xbox rfl (fun w1 hB1 hE1 hs1=>?_)
 have hB : Blk w1 w.heap.size 25 #[.slice A t.es.length c,.slice A' nvs.length c']:=hB1
 have k0 : w1.cell? ⟨w.heap.size,0,none⟩ = some (.slice A t.es.length c):=hB.cell 0
 have k1 : w1.cell? ⟨w.heap.size,1,none⟩ = some (.slice A' t.ns.length c'):=by rw [← hlen];exact hB.cell 1
 by_cases g1 : 1 ≤ t.es.length
 case neg=>
  have h0 : t.es = []:=List.length_eq_zero_iff.1 (by omega)
  refine goL ?_
  exact tret1 rfl rfl ⟨by unfold rmayT;rw [h0];rfl,hE1⟩
 obtain ⟨b,o,e0,hAe,_,he0,hd0,hcell0⟩:=hA.at_ (i:=0) (by omega)
 subst hAe
 have hhead : t.es.headD default = e0:=by
  cases hes : t.es with
  | nil=>rw [hes] at he0;cases he0
  | cons x r=>rw [hes] at he0;exact Option.some.inj he0
 rw [rmay_def t e0 hhead,decide_eq_true g1,Bool.true_and]
 by_cases g2 : t.es.length ≤ 100
 case neg=>
  refine goL ?_
  exact tret1 rfl rfl ⟨by simp only [decide_eq_false g2,Bool.false_and],hE1⟩
 rw [decide_eq_true g2,Bool.true_and]
 have z0 : w1.cell? ⟨b,o + 0 * 2 + 0,none⟩ = some (.string (su e0.path)):=hE1.cell (hcell0 0 _ rfl)
 by_cases g3 : e0.path = []
 case neg=>
  repeat' (first | refine xizq 0 (o + 0 * 2) rfl rfl rfl rfl rfl (by omega) ?_ | refine xucmp (op:=.neq) (b:=[]) (r:=true) rfl rfl (by simp [cmpU,g3]) ?_ | refine go1L ?_ | fail)
  exact tret1 rfl rfl ⟨by simp only [decide_eq_false g3,Bool.false_and],hE1⟩
 rw [decide_eq_true g3,Bool.true_and]
 repeat' (first | refine xizq 0 (o + 0 * 2) rfl rfl rfl rfl rfl (by omega) ?_ | refine xucmp (op:=.neq) (b:=[]) (r:=false) rfl rfl (by simp [cmpU,g3]) ?_ | refine go1L ?_ | fail)
 refine xmk sl_ints rfl rfl rfl (by omega) (by omega) (by omega) (fun w2 hB2 hE2 hs2=>?_)
 rw [Int.toNat_natCast] at hB2 ⊢
 have hU0 : Blk w2 w1.heap.size 3 ((usesL t.ns.length (t.es.take 0)).map (Value.int .i64)).toArray:=by
  rw [List.take_zero,usesL_nil,List.map_replicate]
  simpa using hB2
 refine goL ?_
 refine tloop (α:=Nat × Nat) (fun x=>[(1,.pointer (some ⟨w.heap.size,0,none⟩)),(3,.int .i64 (x.2 : Int)),(4,.slice (some ⟨w1.heap.size,0,none⟩) t.ns.length t.ns.length),(5,.int .i64 (x.1 : Int))]) (RtI t w1) (fun x=>t.es.length - x.1) (0,0) (sub ⟨rfl,rfl,rfl,rfl⟩) ⟨Nat.zero_le _,Nat.zero_le _,hU0,rfl,hE2⟩ ?_
 rintro ⟨i,used⟩ w3 ⟨hi,hu,hU,hgo,hE3⟩
 dsimp only at hi hu hU hgo hE3 ⊢
 have m0 : w3.cell? ⟨w.heap.size,0,none⟩ = some (.slice (some ⟨b,o,none⟩) t.es.length c):=hE3.cell k0
 have m1 : w3.cell? ⟨w.heap.size,1,none⟩ = some (.slice A' t.ns.length c'):=hE3.cell k1
 by_cases hlt : i < t.es.length
 ·obtain ⟨b2,o2,e,e2,_,he,_,hcell⟩:=hA.at_ hlt
  injection e2 with e2
  injection e2 with e3 e4
  subst e3;subst e4
  rw [ref_step he] at hgo
  have hpl:=hn.p e (List.mem_of_getElem? he)
  have hec : ∀ j u,(enC e)[j]? = some u → w3.cell? ⟨b,o + i * 2 + j,none⟩ = some u:=fun j u hu=>hE3.cell (hE1.cell (hcell j u hu))
  refine gz4 ?_
  refine xldz (cs:=enC e) rfl rfl hec ?_
  refine xalloc (z:=.agg #[.string ⟨#[]⟩,.int .i64 0]) (by kernel_rfl) (fun w4 hB4 hE4 hs4=>?_)
  refine xsta (cs:=(enC e).toArray) hB4 rfl rfl rfl rfl (enC_all e) (fun w5 hB5 hF5=>?_)
  have hE35 : Ext w3 w5:=Ext.te hE4 hF5 fun j hj e=>by have e' : j = w3.heap.size:=e;omega
  have hE5 : Ext w1 w5:=hE3.t hE35
  have hU5:=hU.ext hE35
  have q0 : w5.drew.cell? ⟨w3.heap.size,0,none⟩ = some (.string (su e.path)):=hB5.cell 0
  have p1 : w5.cell? ⟨w3.heap.size,1,none⟩ = some (.int .i64 e.node):=hB5.cell 1
  refine gz1 ?_
  refine tcut (α:=Unit) (fun _=>[(1,.pointer (some ⟨w.heap.size,0,none⟩)),(3,.int .i64 (used : Int)),(4,.slice (some ⟨w1.heap.size,0,none⟩) t.ns.length t.ns.length),(5,.int .i64 (i : Int)),(6,.pointer (some ⟨w3.heap.size,0,none⟩)),(85,.bool !(chkE t.ns.length ((prevO t.es i).map (·.path)) used e))]) (fun _ w'=>Ext w5 w') ?_ ?_
  ·unfold chkE
   refine goL ?_
   refine xcallE rfl rfl (rmay_does w5.drew e.path hpl) (fun r w6 h6=>?_)
   obtain ⟨rfl,hE6⟩:=h6
   have hE56 : Ext w5 w6:=(Fr.drew _ _).t hE6
   have p0 : w6.cell? ⟨w3.heap.size,0,none⟩ = some (.string (su e.path)):=hE6.cell q0
   have p1 : w6.cell? ⟨w3.heap.size,1,none⟩ = some (.int .i64 e.node):=hE56.cell p1
   have n0 : w6.cell? ⟨w.heap.size,0,none⟩ = some (.slice (some ⟨b,o,none⟩) t.es.length c):=hE56.cell (hE5.cell k0)
   have n1 : w6.cell? ⟨w.heap.size,1,none⟩ = some (.slice A' t.ns.length c'):=hE56.cell (hE5.cell k1)
   cases hm : mayP e.path with
   | false=>
    refine goL ?_
    exact tfin ⟨(),sub ⟨rfl,rfl,rfl,rfl,rfl,rfl⟩,hE56⟩
   | true=>
   rw [Bool.true_and]
   have nums : ∀ q : Bool,q = (decide (0 ≤ e.node) && decide (e.node ≤ used) && decide (e.node < t.ns.length)) → (q = true ↔ 0 ≤ e.node ∧ e.node ≤ used ∧ e.node < t.ns.length):=fun q hq=>by rw [hq];simp only [Bool.and_eq_true,decide_eq_true_eq,and_assoc]
   cases i with
   | zero=>
    simp only [prevO,Option.map_none]
    rw [Bool.true_and]
    have hn3:=nums _ rfl
    generalize (decide (0 ≤ e.node) && decide (e.node ≤ used) && decide (e.node < t.ns.length)) = q at hn3 ⊢
    cases q with
    | true=>
     obtain ⟨x1,x2,x3⟩:=hn3.1 rfl
     refine goL ?_
     exact tfin ⟨(),sub ⟨rfl,rfl,rfl,rfl,rfl,rfl⟩,hE56⟩
    | false=>
     have x1 : ¬ (0 ≤ e.node ∧ e.node ≤ used ∧ e.node < t.ns.length):=fun h=>by have:=hn3.2 h;cases this
     repeat' (first | refine go1L ?_ | refine xs_eql rfl rfl (fun hc=>?_) (fun hc=>?_) | refine xs_neq rfl rfl (fun hc=>?_) (fun hc=>?_) | refine xs_lss rfl rfl (fun hc=>?_) (fun hc=>?_) | refine xs_leq rfl rfl (fun hc=>?_) (fun hc=>?_) | refine xs_gtr rfl rfl (fun hc=>?_) (fun hc=>?_) | refine xs_geq rfl rfl (fun hc=>?_) (fun hc=>?_) | fail)
     all_goals first | exact tfin ⟨(),sub ⟨rfl,rfl,rfl,rfl,rfl,rfl⟩,hE56⟩ | (exfalso;omega)
   | succ m=>
    obtain ⟨y,hy⟩ : ∃ y,t.es[m]? = some y:=⟨_,List.getElem?_eq_getElem (by omega)⟩
    have hpy : prevO t.es (m + 1) = some y:=hy
    rw [hpy]
    simp only [Option.map_some]
    obtain ⟨b3,o3,y2,e5,_,hy2,_,hcy⟩:=hA.at_ (i:=m) (by omega)
    injection e5 with e5
    injection e5 with e6 e7
    subst e6;subst e7
    rw [hy] at hy2
    injection hy2 with hy2
    subst hy2
    have hypl:=hn.p y (List.mem_of_getElem? hy)
    have p2 : w6.cell? ⟨b,o + m * 2 + 0,none⟩ = some (.string (su y.path)):=hE56.cell (hE5.cell (hE1.cell (hcy 0 _ rfl)))
    repeat' (first | refine xizq m (o + m * 2) rfl rfl rfl (by omega) rfl (by omega) ?_ | refine go1L ?_ | fail)
    refine xcallE rfl rfl (rless_does w6 y.path e.path hypl hpl) (fun r w7 h7=>?_)
    obtain ⟨rfl,hE7⟩:=h7
    have hE57 : Ext w5 w7:=hE56.t hE7
    have p1 : w7.cell? ⟨w3.heap.size,1,none⟩ = some (.int .i64 e.node):=hE7.cell p1
    have n1 : w7.cell? ⟨w.heap.size,1,none⟩ = some (.slice A' t.ns.length c'):=hE7.cell n1
    cases hls : lessP y.path e.path with
    | false=>
     refine goL ?_
     exact tfin ⟨(),sub ⟨rfl,rfl,rfl,rfl,rfl,rfl⟩,hE57⟩
    | true=>
     rw [Bool.true_and]
     have hn3:=nums _ rfl
     generalize (decide (0 ≤ e.node) && decide (e.node ≤ used) && decide (e.node < t.ns.length)) = q at hn3 ⊢
     cases q with
     | true=>
      obtain ⟨x1,x2,x3⟩:=hn3.1 rfl
      refine goL ?_
      exact tfin ⟨(),sub ⟨rfl,rfl,rfl,rfl,rfl,rfl⟩,hE57⟩
     | false=>
      have x1 : ¬ (0 ≤ e.node ∧ e.node ≤ used ∧ e.node < t.ns.length):=fun h=>by have:=hn3.2 h;cases this
      repeat' (first | refine go1L ?_ | refine xs_eql rfl rfl (fun hc=>?_) (fun hc=>?_) | refine xs_neq rfl rfl (fun hc=>?_) (fun hc=>?_) | refine xs_lss rfl rfl (fun hc=>?_) (fun hc=>?_) | refine xs_leq rfl rfl (fun hc=>?_) (fun hc=>?_) | refine xs_gtr rfl rfl (fun hc=>?_) (fun hc=>?_) | refine xs_geq rfl rfl (fun hc=>?_) (fun hc=>?_) | fail)
      all_goals first | exact tfin ⟨(),sub ⟨rfl,rfl,rfl,rfl,rfl,rfl⟩,hE57⟩ | (exfalso;omega)
  rintro _ w6 hE6
  have hE06 : Ext w1 w6:=hE5.t hE6
  have p0 : w6.cell? ⟨w3.heap.size,0,none⟩ = some (.string (su e.path)):=hE6.cell q0
  have p1 : w6.cell? ⟨w3.heap.size,1,none⟩ = some (.int .i64 e.node):=hE6.cell p1
  cases hck : chkE t.ns.length ((prevO t.es i).map (·.path)) used e with
  | false=>
   rw [hck] at hgo
   simp only [Bool.false_and] at hgo
   refine goL ?_
   exact tret1 rfl rfl ⟨by rw [← hgo];simp only [Bool.false_and],hE1.t hE06⟩
  | true=>
  rw [hck,Bool.true_and] at hgo
  have hck2:=hck
  simp only [chkE,Bool.and_eq_true,decide_eq_true_eq] at hck2
  obtain ⟨⟨⟨_,x1⟩,x2⟩,x3⟩:=hck2
  obtain ⟨k,hk⟩:=Int.eq_ofNat_of_zero_le x1
  have hkn : k < t.ns.length:=by omega
  obtain ⟨used',hused⟩ : ∃ used',used' = if e.node < used then used else used + 1:=⟨_,rfl⟩
  rw [← hused] at hgo
  have hu' : used' ≤ t.ns.length:=by
   rw [hused];split <;> omega
  refine gz1 ?_
  refine tcut (α:=Unit) (fun _=>[(1,.pointer (some ⟨w.heap.size,0,none⟩)),(3,.int .i64 (used : Int)),(4,.slice (some ⟨w1.heap.size,0,none⟩) t.ns.length t.ns.length),(5,.int .i64 (i : Int)),(6,.pointer (some ⟨w3.heap.size,0,none⟩)),(89,.bool !(decide (e.node < used)))]) (fun _ w'=>w6 = w') ?_ ?_
  ·by_cases g : e.node < used
   ·rw [decide_eq_true g]
    refine goL ?_
    exact tfin ⟨(),sub ⟨rfl,rfl,rfl,rfl,rfl,rfl⟩,rfl⟩
   ·rw [decide_eq_false g]
    refine goL ?_
    exact tfin ⟨(),sub ⟨rfl,rfl,rfl,rfl,rfl,rfl⟩,rfl⟩
  rintro _ _ rfl
  refine gz1 ?_
  refine tcut (α:=Unit) (fun _=>[(1,.pointer (some ⟨w.heap.size,0,none⟩)),(3,.int .i64 (used' : Int)),(4,.slice (some ⟨w1.heap.size,0,none⟩) t.ns.length t.ns.length),(5,.int .i64 (i : Int)),(6,.pointer (some ⟨w3.heap.size,0,none⟩))]) (fun _ w'=>w6 = w') ?_ ?_
  ·by_cases g : e.node < used
   ·rw [if_pos g] at hused
    rw [hused,decide_eq_true g]
    refine goL ?_
    exact tfin ⟨(),sub ⟨rfl,rfl,rfl,rfl,rfl⟩,rfl⟩
   ·rw [if_neg g] at hused
    rw [hused,decide_eq_false g]
    refine goL ?_
    exact tfin ⟨(),sub ⟨rfl,rfl,rfl,rfl,rfl⟩,rfl⟩
  rintro _ _ rfl
  have hU6:=hU5.ext hE6
  have hcnt:=cnt_le k (t.es.take i)
  rw [List.length_take] at hcnt
  have c1 : w6.cell? ⟨w1.heap.size,k,none⟩ = some (.int .i64 (cntN k (t.es.take i) : Int)):=by
   rw [hU6.cell,List.getElem?_toArray,List.getElem?_map,usesL_get hkn];rfl
  have hbs : w1.heap.size < w3.heap.size:=hU.lt
  repeat' (first | refine xisq k k rfl rfl rfl hk (by omega) hkn ?_ | refine go1L ?_ | fail)
  refine xstb hU6 rfl rfl rfl rfl (by rw [decide_eq_true_eq];simp [usesL];omega) (fun w7 hB7 hF7=>?_)
  have hU7 : Blk w7 w1.heap.size 3 ((usesL t.ns.length (t.es.take (i + 1))).map (Value.int .i64)).toArray:=by
   rw [List.setIfInBounds_toArray,← List.map_set,usesL_set he hk] at hB7
   exact hB7
  have hE7 : Ext w1 w7:=Ext.te hE06 hF7 fun j hj e=>by have e' : j = w1.heap.size:=e;omega
  have p0 : w7.cell? ⟨w3.heap.size,0,none⟩ = some (.string (su e.path)):=hF7.cell p0 (fun e'=>by have e' : w3.heap.size = w1.heap.size:=e';omega)
  refine goL ?_
  refine xcallE rfl rfl (rparent_does w7 e.path hpl) (fun r w8 h8=>?_)
  obtain ⟨rfl,hE8⟩:=h8
  have hE08 : Ext w1 w8:=hE7.t hE8
  cases hp : parP e.path with
  | none=>
   have epr : parR t e = true:=by unfold parR;rw [hp]
   rw [epr,Bool.true_and] at hgo
   refine goL ?_
   exact tfin ⟨(i + 1,used'),sub ⟨rfl,rfl,rfl,rfl⟩,⟨by dsimp only;omega,hu',hU7.ext hE8,hgo,hE08⟩,(by show t.es.length - (i + 1) < t.es.length - i;omega)⟩
  | some up=>
  have hup : parS e.path = up:=by rw [parS,hp];rfl
  rw [hup]
  have hB8 : Blk w8 w.heap.size 25 #[.slice (some ⟨b,o,none⟩) t.es.length c,.slice A' nvs.length c']:=hB.ext hE08
  refine goL ?_
  refine xlda (t:=25) hB8 rfl rfl ?_
  refine goL ?_
  refine xcallE rfl rfl (rfind_does w8 _ _ t.es up (hv0.e.ext (hE1.t hE08))) (fun r w9 h9=>?_)
  obtain ⟨rfl,hE9⟩:=h9
  have hE09 : Ext w1 w9:=hE08.t hE9
  have n1 : w9.cell? ⟨w.heap.size,1,none⟩ = some (.slice A' t.ns.length c'):=hE09.cell k1
  cases hf : findT t.es up with
  | none=>
   have epr : parR t e = false:=by unfold parR;rw [hp];dsimp only;rw [hf]
   rw [epr,Bool.false_and] at hgo
   refine goL ?_
   exact y29
  | some j=>
   have epr : parR t e = (decide (0 ≤ j) && decide (j < t.ns.length) && decide (kindAt t.ns j = 1)):=by unfold parR;rw [hp];dsimp only;rw [hf]
   rw [epr] at hgo
   have hgd : (some j : Option Int).getD 0 = j:=rfl
   by_cases j1 : 0 ≤ j
   case neg=>
    rw [decide_eq_false j1] at hgo
    simp only [Bool.false_and] at hgo
    refine goL ?_
    exact y29
   by_cases j2 : j < t.ns.length
   case neg=>
    rw [decide_eq_false j2] at hgo
    simp only [Bool.false_and,Bool.and_false] at hgo
    refine goL ?_
    exact y29
   obtain ⟨q,hq⟩:=Int.eq_ofNat_of_zero_le j1
   obtain ⟨b3,o3,n,e5,_,hny,_,hcy⟩:=hA'.at_ (i:=q) (by omega)
   subst e5
   have hkd : kindAt t.ns j = n.n.kind:=by unfold kindAt;rw [hq,Int.toNat_natCast,hv0.getD hny]
   rw [decide_eq_true j1,decide_eq_true j2,Bool.true_and,Bool.true_and,hkd] at hgo
   have r2 : w9.cell? ⟨b3,o3 + q * 12 + 0,none⟩ = some (.int .i64 n.n.kind):=hE09.cell (hE1.cell (hcy 0 _ rfl))
   by_cases g : n.n.kind = 1
   ·rw [decide_eq_true g,Bool.true_and] at hgo
    repeat' (first | refine xizq q (o3 + q * 12) rfl rfl rfl hq rfl (by omega) ?_ | refine go1L ?_ | fail)
    exact tfin ⟨(i + 1,used'),sub ⟨rfl,rfl,rfl,rfl⟩,⟨by dsimp only;omega,hu',(hU7.ext hE8).ext hE9,hgo,hE09⟩,(by show t.es.length - (i + 1) < t.es.length - i;omega)⟩
   ·rw [decide_eq_false g,Bool.false_and] at hgo
    repeat' (first | refine xizq q (o3 + q * 12) rfl rfl rfl hq rfl (by omega) ?_ | refine go1L ?_ | fail)
    exact y29
 ·have hil : i = t.es.length:=by omega
  subst hil
  rw [List.drop_length,refG] at hgo
  rw [List.take_length] at hU
  rw [← hgo,Bool.true_and]
  have hroot:=(refG_of t hgo.symm e0 (List.mem_of_getElem? he0))
  refine goL ?_
  refine tloop (α:=Nat) (fun j=>[(1,.pointer (some ⟨w.heap.size,0,none⟩)),(4,.slice (some ⟨w1.heap.size,0,none⟩) t.ns.length t.ns.length),(11,.int .i64 (j : Int))]) (fun j w'=>Ext w3 w' ∧ j ≤ t.ns.length ∧ ((List.range t.ns.length).drop j).all (nodeR t) = (List.range t.ns.length).all (nodeR t)) (fun j=>t.ns.length - j) 0 (sub ⟨rfl,rfl,rfl⟩) ⟨Fr.refl _ _,Nat.zero_le _,rfl⟩ ?_
  rintro j w4 ⟨hE4,hj,hgj⟩
  have hE04 : Ext w1 w4:=hE3.t hE4
  have m1 : w4.cell? ⟨w.heap.size,1,none⟩ = some (.slice A' t.ns.length c'):=hE04.cell k1
  by_cases hlj : j < t.ns.length
  ·obtain ⟨b3,o3,n,e5,_,hny,_,hcy⟩:=hA'.at_ (i:=j) (by omega)
   subst e5
   have hnc : ∀ q u,(ndC n)[q]? = some u → w4.cell? ⟨b3,o3 + j * 12 + q,none⟩ = some u:=fun q u hu=>hE04.cell (hE1.cell (hcy q u hu))
   have hin:=hv0.i n (List.mem_of_getElem? hny)
   have hmn:=List.mem_of_getElem? (hv0.get hny)
   have hrg : (List.range t.ns.length)[j]? = some j:=by simp [hlj]
   rw [drop_get hrg,List.all_cons] at hgj
   have enr : nodeR t j = (nodeOK n.n && decide (cntN j t.es ≠ 0) && (decide (n.n.kind ≠ 1) || decide (cntN j t.es = 1))):=by
    unfold nodeR kindAt
    rw [Int.toNat_natCast,hv0.getD hny]
   rw [enr] at hgj
   repeat' (first | refine xizq j (o3 + j * 12) rfl rfl rfl rfl rfl (by omega) ?_ | refine go1L ?_ | fail)
   refine xldz (cs:=ndC n) rfl rfl hnc ?_
   refine xcallE rfl rfl (rnodemay_does w4 n (hin.ext (hE1.t hE04)) (hn.b n.n hmn) (hn.g n.n hmn)) (fun r w5 h5=>?_)
   obtain ⟨rfl,hE5⟩:=h5
   have hE05 : Ext w1 w5:=hE04.t hE5
   cases hno : nodeOK n.n with
   | false=>
    rw [hno] at hgj
    simp only [Bool.false_and] at hgj
    refine goL ?_
    exact y56
   | true=>
   rw [hno,Bool.true_and] at hgj
   have c1 : w5.cell? ⟨w1.heap.size,j,none⟩ = some (.int .i64 (cntN j t.es : Int)):=by
    rw [(hU.ext (hE4.t hE5)).cell,List.getElem?_toArray,List.getElem?_map,usesL_get hlj];rfl
   have c2 : w5.cell? ⟨b3,o3 + j * 12 + 0,none⟩ = some (.int .i64 n.n.kind):=hE5.cell (hnc 0 _ rfl)
   have n1 : w5.cell? ⟨w.heap.size,1,none⟩ = some (.slice (some ⟨b3,o3,none⟩) t.ns.length c'):=hE05.cell k1
   by_cases u0 : cntN j t.es = 0
   ·rw [decide_eq_false (by simpa using u0)] at hgj
    simp only [Bool.false_and] at hgj
    repeat' (first | refine xisq j j rfl rfl rfl rfl (by omega) hlj ?_ | refine go1L ?_ | fail)
    exact y56
   rw [decide_eq_true (show cntN j t.es ≠ 0 from u0),Bool.true_and] at hgj
   by_cases u1 : n.n.kind = 1
   ·by_cases u2 : cntN j t.es = 1
    ·rw [decide_eq_true u2,Bool.or_true,Bool.true_and] at hgj
     exact y47
    ·rw [decide_eq_false u2,decide_eq_false (by simpa using u1)] at hgj
     simp only [Bool.or_self,Bool.false_and] at hgj
     refine gz14 ?_
     exact y56
   ·rw [decide_eq_true (show n.n.kind ≠ 1 from u1),Bool.true_or,Bool.true_and] at hgj
    exact y47
  ·have hjl : j = t.ns.length:=by omega
   subst hjl
   have hdl : (List.range t.ns.length).drop t.ns.length = []:=by rw [List.drop_eq_nil_iff];simp
   rw [hdl] at hgj
   rw [← hgj,List.all_nil,Bool.true_and]
   obtain ⟨k,hk⟩:=Int.eq_ofNat_of_zero_le hroot.1
   obtain ⟨b3,o3,n,e5,_,hny,_,hcy⟩:=hA'.at_ (i:=k) (by omega)
   subst e5
   have hkd : kindAt t.ns e0.node = n.n.kind:=by unfold kindAt;rw [hk,Int.toNat_natCast,hv0.getD hny]
   rw [hkd]
   have hE4d : Ext w1 w4.drew:=hE04.d
   have n0 : w4.drew.cell? ⟨w.heap.size,0,none⟩ = some (.slice (some ⟨b,o,none⟩) t.es.length c):=hE4d.cell k0
   have n1 : w4.drew.cell? ⟨w.heap.size,1,none⟩ = some (.slice (some ⟨b3,o3,none⟩) t.ns.length c'):=hE4d.cell k1
   have q1 : w4.drew.cell? ⟨b,o + 0 * 2 + 1,none⟩ = some (.int .i64 e0.node):=hE4d.cell (hE1.cell (hcell0 1 _ rfl))
   have r1 : w4.drew.cell? ⟨b3,o3 + k * 12 + 0,none⟩ = some (.int .i64 n.n.kind):=hE4d.cell (hE1.cell (hcy 0 _ rfl))
   by_cases g : n.n.kind = 1
   ·rw [decide_eq_true g]
    refine gz24 ?_
    exact tret1 rfl rfl ⟨rfl,hE1.t hE4d⟩
   ·rw [decide_eq_false g]
    refine gz24 ?_
    exact tret1 rfl rfl ⟨rfl,hE1.t hE4d⟩
end
end Go.Proofs.YtbpmlbjapapoaaaGreatDoor.Eng
