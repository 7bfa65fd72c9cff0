/-
  Parts of the proof: Wn.
-/
import Derived.Test.YtbpmlbjapapoaaaGreatDoorRWi
import Derived.Test.YtbpmlbjapapoaaaGreatDoorRWk
set_option maxRecDepth 100000
set_option maxHeartbeats 64000000
namespace Go.Proofs.YtbpmlbjapapoaaaGreatDoor.Eng
open Go.RowKit
section
attribute [local irreducible] xs T
theorem enC_all (e : En) : (enC e).toArray.all (·.oneCell') = true:=by simp [enC,Value.oneCell']
theorem find_does (w : World) (ve vn : Value) (l : List En) (p : Str) (hv : Rw enC w ve l) : Does Tryz.prog 45 #[.agg #[ve,vn],.string (su p)] w fun r w'=>r = .tuple #[.int .i64 ((findT l p).getD 0),.bool (findT l p).isSome] ∧ Ext w w':=by
 refine does2 Tryz.func45 rfl (by kernel_rfl) ?_
 obtain ⟨A,c,rfl,hc1,hc2,hA⟩:=hv.op enC_len
 refine goL ?_
 refine xbox rfl (fun w1 hB1 hE1 hs1=>?_)
 have hB : Blk w1 w.heap.size 25 #[.slice A l.length c,vn]:=hB1
 have k0 : w1.cell? ⟨w.heap.size,0,none⟩ = some (.slice A l.length c):=hB.cell 0
 refine goL ?_
 refine tscope1 (α:=Nat) 0 rfl (fun i=>[(1,.string (su p)),(2,.pointer (some ⟨w.heap.size,0,none⟩)),(6,.int .i64 (i : Int))]) (fun i w'=>w1 = w' ∧ i ≤ l.length ∧ findT (l.drop i) p = findT l p) (fun i=>l.length - i) ?_ ?_
 ·rintro i w2 ⟨rfl,hi,hgo⟩
  by_cases hlt : i < l.length
  ·obtain ⟨b,o,x,rfl,_,hx,hdr,hcell⟩:=hA.at_ hlt
   have q0 : w1.cell? ⟨b,o + i * 2 + 0,none⟩ = some (.string (su x.path)):=hE1.cell (hcell 0 _ rfl)
   have q1 : w1.cell? ⟨b,o + i * 2 + 1,none⟩ = some (.int .i64 x.node):=hE1.cell (hcell 1 _ rfl)
   rw [hdr,findT] at hgo
   by_cases e : x.path = p
   ·rw [if_pos e] at hgo
    refine gz23 ?_
    exact y66
   ·rw [if_neg e] at hgo
    refine gz21 ?_
    exact tgoto rfl ⟨_,(by show l.length - (i + 1) < l.length - i;omega),rfl,i + 1,sub ⟨rfl,rfl,rfl⟩,⟨rfl,by omega,hgo⟩,rfl⟩
  ·obtain rfl : i = l.length:=by omega
   rw [List.drop_length] at hgo
   refine goL ?_
   exact y66
 ·intro H
  refine goL ?_
  refine tlabel ?_
  exact tweak (H 0 w1 ⟨rfl,Nat.zero_le _,rfl⟩) (sub ⟨rfl,rfl,rfl⟩)
theorem rfind_does (w : World) (ve vn : Value) (l : List En) (p : Str) (hv : Rw enC w ve l) : Does Tryz.prog 29 #[.agg #[ve,vn],.string (su p)] w fun r w'=>r = .tuple #[.int .i64 ((findT l p).getD 0),.bool (findT l p).isSome] ∧ Ext w w':=by
 refine does2 Tryz.func29 rfl (by kernel_rfl) ?_
 obtain ⟨A,c,rfl,hc1,hc2,hA⟩:=hv.op enC_len
 refine goL ?_
 refine xbox rfl (fun w1 hB1 hE1 hs1=>?_)
 have hB : Blk w1 w.heap.size 25 #[.slice A l.length c,vn]:=hB1
 have k0 : w1.cell? ⟨w.heap.size,0,none⟩ = some (.slice A l.length c):=hB.cell 0
 refine goL ?_
 refine tloop (α:=Nat) (fun i=>[(1,.string (su p)),(2,.pointer (some ⟨w.heap.size,0,none⟩)),(6,.int .i64 (i : Int))]) (fun i w'=>w1 = w' ∧ i ≤ l.length ∧ findT (l.drop i) p = findT l p) (fun i=>l.length - i) 0 (sub ⟨rfl,rfl,rfl⟩) ⟨rfl,Nat.zero_le _,rfl⟩ ?_
 rintro i w2 ⟨rfl,hi,hgo⟩
 by_cases hlt : i < l.length
 ·obtain ⟨b,o,x,rfl,_,hx,hdr,hcell⟩:=hA.at_ hlt
  have q0 : w1.cell? ⟨b,o + i * 2 + 0,none⟩ = some (.string (su x.path)):=hE1.cell (hcell 0 _ rfl)
  have q1 : w1.cell? ⟨b,o + i * 2 + 1,none⟩ = some (.int .i64 x.node):=hE1.cell (hcell 1 _ rfl)
  rw [hdr,findT] at hgo
  by_cases e : x.path = p
  ·rw [if_pos e] at hgo
   refine gz23 ?_
   exact y66
  ·rw [if_neg e] at hgo
   refine gz21 ?_
   exact tfin ⟨i + 1,sub ⟨rfl,rfl,rfl⟩,⟨rfl,by omega,hgo⟩,(by show l.length - (i + 1) < l.length - i;omega)⟩
 ·obtain rfl : i = l.length:=by omega
  rw [List.drop_length] at hgo
  refine goL ?_
  exact y66
def NsOK (ns : List Nd) : Prop:=∀ n ∈ ns,bytesP n.data ≤ 1000000
theorem ord_step {ns : List Nd} {es : List En} {i used : Nat} {e : En} (he : es[i]? = some e) : ordB ns ((prevO es i).map (·.path)) used (es.drop i) = (mayP e.path && (match (prevO es i).map (·.path) with | none=>decide (e.path = []) | some p=>lessP p e.path) && decide (0 ≤ e.node) && decide (e.node ≤ used) && decide (e.node < ns.length) &&
  (if e.node < used then decide (kindAt ns e.node ≠ 1) && ordB ns ((prevO es (i + 1)).map (·.path)) used (es.drop (i + 1)) else nodeOK (ns.getD used default) && ordB ns ((prevO es (i + 1)).map (·.path)) (used + 1) (es.drop (i + 1)))):=by
 rw [drop_get he,prev_next he]
 generalize prevO es i = p
 cases p <;> rfl
structure OrI (t : Tre) (w1 : World) (x : Nat × Nat) (w : World) : Prop where
 i : x.1 ≤ t.es.length
 u : x.2 ≤ t.ns.length
 go : ordB t.ns ((prevO t.es x.1).map (·.path)) x.2 (t.es.drop x.1) = ordB t.ns none 0 t.es
 ext : Ext w1 w
theorem ordered_does (w : World) (ve vn : Value) (nvs : List NdV) (t : Tre) (hv : TrV w ve vn nvs t) (hn : NsOK t.ns) : Does Tryz.prog 43 #[.agg #[ve,vn]] w fun r w'=>r = .bool (ordB t.ns none 0 t.es) ∧ Ext w w':=by
 refine does1 Tryz.func43 rfl (by kernel_rfl) ?_
 obtain ⟨A,c,rfl,hc1,hc2,hA⟩:=hv.e.op enC_len
 obtain ⟨A',c',rfl,hc1',hc2',hA'⟩:=hv.n.op ndC_len
 have hlen:=hv.len
 rw [hlen] at hc1'
 refine goL ?_
 refine xbox rfl (fun w1 hB1 hE1 hs1=>?_)
 have hB : Blk w1 w.heap.size 25 #[.slice A t.es.length c,.slice A' nvs.length c']:=hB1
 have k0 : w1.cell? ⟨w.heap.size,0,none⟩ = some (.slice A t.es.length c):=hB.cell 0
 have k1 : w1.cell? ⟨w.heap.size,1,none⟩ = some (.slice A' t.ns.length c'):=by rw [← hlen];exact hB.cell 1
 refine goL ?_
 refine tscope1 (α:=Nat × Nat) 0 rfl (fun x=>[(1,.pointer (some ⟨w.heap.size,0,none⟩)),(3,.int .i64 (x.2 : Int)),(4,.int .i64 (x.1 : Int))]) (OrI t w1) (fun x=>t.es.length - x.1) ?_ ?_
 ·rintro ⟨i,used⟩ w2 ⟨hi,hu,hgo,hE2⟩
  dsimp only at hi hu hgo hE2 ⊢
  have m0 : w2.cell? ⟨w.heap.size,0,none⟩ = some (.slice A t.es.length c):=hE2.cell k0
  have m1 : w2.cell? ⟨w.heap.size,1,none⟩ = some (.slice A' t.ns.length c'):=hE2.cell k1
  by_cases hlt : i < t.es.length
  ·obtain ⟨b,o,e,rfl,_,he,_,hcell⟩:=hA.at_ hlt
   rw [ord_step he] at hgo
   have hec : ∀ j u,(enC e)[j]? = some u → w2.cell? ⟨b,o + i * 2 + j,none⟩ = some u:=fun j u hu=>hE2.cell (hE1.cell (hcell j u hu))
   refine gz4 ?_
   refine xldz (cs:=enC e) rfl rfl hec ?_
   refine xalloc (z:=.agg #[.string ⟨#[]⟩,.int .i64 0]) (by kernel_rfl) (fun w3 hB3 hE3 hs3=>?_)
   refine xsta (cs:=(enC e).toArray) hB3 rfl rfl rfl rfl (enC_all e) (fun w4 hB4 hF4=>?_)
   have hE4 : Ext w1 w4:=hE2.t (Ext.te hE3 hF4 fun j hj e=>by have e' : j = w2.heap.size:=e;omega)
   have q0 : w4.cell? ⟨w2.heap.size,0,none⟩ = some (.string (su e.path)):=hB4.cell 0
   have q1 : w4.cell? ⟨w2.heap.size,1,none⟩ = some (.int .i64 e.node):=hB4.cell 1
   refine goL ?_
   refine xcallE rfl rfl (may_does w4 e.path) (fun r w5 h5=>?_)
   obtain ⟨rfl,hE5⟩:=h5
   have hE05 : Ext w1 w5:=hE4.t hE5
   have p0 : w5.cell? ⟨w2.heap.size,0,none⟩ = some (.string (su e.path)):=hE5.cell q0
   have p1 : w5.cell? ⟨w2.heap.size,1,none⟩ = some (.int .i64 e.node):=hE5.cell q1
   have p0d : w5.drew.cell? ⟨w2.heap.size,0,none⟩ = some (.string (su e.path)):=p0
   cases hm : mayP e.path with
   | false=>
    rw [hm] at hgo
    simp only [Bool.false_and] at hgo
    refine goL ?_
    exact tret1 rfl rfl ⟨by rw [← hgo],hE1.t hE05⟩
   | true=>
   rw [hm,Bool.true_and] at hgo
   cases i with
   | zero=>
    have hgo0:=hgo
    simp only [prevO,Option.map_none] at hgo
    by_cases g0 : e.path = []
    case neg=>
     rw [decide_eq_false g0] at hgo
     simp only [Bool.false_and] at hgo
     repeat' (first | refine xucmp (op:=.neq) (b:=[]) (r:=true) rfl rfl (by simp [cmpU,g0]) ?_ | refine go1L ?_ | fail)
     exact tret1 rfl rfl ⟨by rw [← hgo],hE1.t hE05⟩
    rw [decide_eq_true g0,Bool.true_and] at hgo
    have h6 : Ext w5 w5.drew:=Fr.drew _ _
    repeat' (first | refine xucmp (op:=.neq) (b:=[]) (r:=false) rfl rfl (by simp [cmpU,g0]) ?_ | refine go1L ?_ | fail)
    have r1 : w5.drew.cell? ⟨w2.heap.size,1,none⟩ = some (.int .i64 e.node):=h6.cell p1
    have r2 : w5.drew.cell? ⟨w.heap.size,1,none⟩ = some (.slice A' t.ns.length c'):=h6.cell (hE05.cell k1)
    have hE06 : Ext w1 w5.drew:=hE05.t h6
    by_cases g1 : 0 ≤ e.node
    case neg=>
     exact y57
    by_cases g2 : e.node ≤ used
    case neg=>
     rw [decide_eq_false g2] at hgo
     exact y15
    by_cases g3 : e.node < t.ns.length
    case neg=>
     rw [decide_eq_false g3] at hgo
     exact y15
    rw [decide_eq_true g1,decide_eq_true g2,decide_eq_true g3,Bool.true_and,Bool.true_and,Bool.true_and] at hgo
    obtain ⟨k,hk⟩:=Int.eq_ofNat_of_zero_le g1
    have hkl : k < nvs.length:=by omega
    obtain ⟨b',o',n,rfl,_,hnx,_,hcn⟩:=hA'.at_ hkl
    have hkind : kindAt t.ns e.node = n.n.kind:=by unfold kindAt;rw [hk,Int.toNat_natCast,hv.getD hnx]
    have r3 : w5.drew.cell? ⟨b',o' + k * 12 + 0,none⟩ = some (.int .i64 n.n.kind):=hE06.cell (hE1.cell (hcn 0 _ rfl))
    by_cases g4 : e.node < used
    ·rw [if_pos g4,hkind] at hgo
     by_cases g5 : n.n.kind = 1
     ·exact y60
     ·rw [decide_eq_true (show n.n.kind ≠ 1 from g5),Bool.true_and] at hgo
      refine gz19 ?_
      exact tgoto rfl ⟨_,(by show t.es.length - (0 + 1) < t.es.length - 0;omega),rfl,(0 + 1,used),sub ⟨rfl,rfl,rfl⟩,⟨by dsimp only;omega,hu,hgo,hE06⟩,rfl⟩
    ·rw [if_neg g4] at hgo
     have hku : k = used:=by omega
     rw [← hku,hv.getD hnx] at hgo
     have hnc : ∀ j u,(ndC n)[j]? = some u → w5.drew.cell? ⟨b',o' + k * 12 + j,none⟩ = some u:=fun j u hu=>hE06.cell (hE1.cell (hcn j u hu))
     have hin:=hv.i n (List.mem_of_getElem? hnx)
     have hbn:=hn n.n (List.mem_of_getElem? (hv.get hnx))
     repeat' (first | refine xizq k (o' + k * 12) rfl rfl rfl (by omega) rfl (by omega) ?_ | refine go1L ?_ | fail)
     refine xldz (cs:=ndC n) rfl rfl hnc ?_
     refine xcallE rfl rfl (nodemay_does w5.drew n (hin.ext (hE1.t hE06)) hbn) (fun r w7 h7=>?_)
     obtain ⟨rfl,hE7⟩:=h7
     cases hnm : nodeOK n.n with
     | false=>
      rw [hnm,Bool.false_and] at hgo
      refine goL ?_
      exact tret1 rfl rfl ⟨by rw [← hgo],hE1.t (hE06.t hE7)⟩
     | true=>
      rw [hnm,Bool.true_and] at hgo
      refine goL ?_
      exact tgoto rfl ⟨_,(by show t.es.length - (0 + 1) < t.es.length - 0;omega),rfl,(0 + 1,k + 1),sub ⟨rfl,ieq (by dsimp only;omega),rfl⟩,⟨by dsimp only;omega,by dsimp only;omega,hgo,hE06.t hE7⟩,rfl⟩
   | succ m=>
    obtain ⟨y,hy⟩ : ∃ y,t.es[m]? = some y:=⟨_,List.getElem?_eq_getElem (by omega)⟩
    have hpy : prevO t.es (m + 1) = some y:=hy
    rw [hpy] at hgo
    simp only [Option.map_some] at hgo
    obtain ⟨b2,o2,y2,e2,_,hy2,_,hcy⟩:=hA.at_ (i:=m) (by omega)
    injection e2 with e2
    injection e2 with e3 e4
    subst e3;subst e4
    rw [hy] at hy2
    injection hy2 with hy2
    subst hy2
    have p2 : w5.drew.cell? ⟨b,o + m * 2 + 0,none⟩ = some (.string (su y.path)):=hE05.cell (hE1.cell (hcy 0 _ rfl))
    have m0d : w5.drew.cell? ⟨w.heap.size,0,none⟩ = some (.slice (some ⟨b,o,none⟩) t.es.length c):=hE05.cell k0
    repeat' (first | refine xizq m (o + m * 2) rfl rfl rfl (by omega) rfl (by omega) ?_ | refine go1L ?_ | fail)
    refine xcallE rfl rfl (less_does w5.drew y.path e.path) (fun r w6 h6=>?_)
    obtain ⟨rfl,h6'⟩:=h6
    have h6 : Ext w5 w6:=(Fr.drew _ _).t h6'
    cases hls : lessP y.path e.path with
    | false=>
     rw [hls] at hgo
     simp only [Bool.false_and] at hgo
     refine goL ?_
     exact tret1 rfl rfl ⟨by rw [← hgo],hE1.t (hE05.t h6)⟩
    | true=>
     rw [hls,Bool.true_and] at hgo
     refine goL ?_
     have r1 : w6.cell? ⟨w2.heap.size,1,none⟩ = some (.int .i64 e.node):=h6.cell p1
     have r2 : w6.cell? ⟨w.heap.size,1,none⟩ = some (.slice A' t.ns.length c'):=h6.cell (hE05.cell k1)
     have hE06 : Ext w1 w6:=hE05.t h6
     by_cases g1 : 0 ≤ e.node
     case neg=>
      exact y57
     by_cases g2 : e.node ≤ used
     case neg=>
      rw [decide_eq_false g2] at hgo
      exact y15
     by_cases g3 : e.node < t.ns.length
     case neg=>
      rw [decide_eq_false g3] at hgo
      exact y15
     rw [decide_eq_true g1,decide_eq_true g2,decide_eq_true g3,Bool.true_and,Bool.true_and,Bool.true_and] at hgo
     obtain ⟨k,hk⟩:=Int.eq_ofNat_of_zero_le g1
     have hkl : k < nvs.length:=by omega
     obtain ⟨b',o',n,rfl,_,hnx,_,hcn⟩:=hA'.at_ hkl
     have hkind : kindAt t.ns e.node = n.n.kind:=by unfold kindAt;rw [hk,Int.toNat_natCast,hv.getD hnx]
     have r3 : w6.cell? ⟨b',o' + k * 12 + 0,none⟩ = some (.int .i64 n.n.kind):=hE06.cell (hE1.cell (hcn 0 _ rfl))
     by_cases g4 : e.node < used
     ·rw [if_pos g4,hkind] at hgo
      by_cases g5 : n.n.kind = 1
      ·exact y60
      ·rw [decide_eq_true (show n.n.kind ≠ 1 from g5),Bool.true_and] at hgo
       refine gz19 ?_
       exact tgoto rfl ⟨_,(by show t.es.length - (m + 1 + 1) < t.es.length - (m + 1);omega),rfl,(m + 1 + 1,used),sub ⟨rfl,rfl,rfl⟩,⟨by dsimp only;omega,hu,hgo,hE06⟩,rfl⟩
     ·rw [if_neg g4] at hgo
      have hku : k = used:=by omega
      rw [← hku,hv.getD hnx] at hgo
      have hnc : ∀ j u,(ndC n)[j]? = some u → w6.cell? ⟨b',o' + k * 12 + j,none⟩ = some u:=fun j u hu=>hE06.cell (hE1.cell (hcn j u hu))
      have hin:=hv.i n (List.mem_of_getElem? hnx)
      have hbn:=hn n.n (List.mem_of_getElem? (hv.get hnx))
      repeat' (first | refine xizq k (o' + k * 12) rfl rfl rfl (by omega) rfl (by omega) ?_ | refine go1L ?_ | fail)
      refine xldz (cs:=ndC n) rfl rfl hnc ?_
      refine xcallE rfl rfl (nodemay_does w6 n (hin.ext (hE1.t hE06)) hbn) (fun r w7 h7=>?_)
      obtain ⟨rfl,hE7⟩:=h7
      cases hnm : nodeOK n.n with
      | false=>
       rw [hnm,Bool.false_and] at hgo
       refine goL ?_
       exact tret1 rfl rfl ⟨by rw [← hgo],hE1.t (hE06.t hE7)⟩
      | true=>
       rw [hnm,Bool.true_and] at hgo
       refine goL ?_
       exact tgoto rfl ⟨_,(by show t.es.length - (m + 1 + 1) < t.es.length - (m + 1);omega),rfl,(m + 1 + 1,k + 1),sub ⟨rfl,ieq (by dsimp only;omega),rfl⟩,⟨by dsimp only;omega,by dsimp only;omega,hgo,hE06.t hE7⟩,rfl⟩
  ·obtain rfl : i = t.es.length:=by omega
   rw [List.drop_length,ordB] at hgo
   by_cases g : used = t.ns.length
   ·refine goL ?_
    exact tret1 rfl rfl ⟨by rw [← hgo,decide_eq_true g],hE1.t hE2⟩
   ·refine goL ?_
    exact tret1 rfl rfl ⟨by rw [← hgo,decide_eq_false g],hE1.t hE2⟩
 ·intro H
  refine goL ?_
  refine tlabel ?_
  exact tweak (H (0,0) w1 ⟨Nat.zero_le _,Nat.zero_le _,rfl,Fr.refl _ _⟩) (sub ⟨rfl,rfl,rfl⟩)
end
end Go.Proofs.YtbpmlbjapapoaaaGreatDoor.Eng
