/-
  Parts of the proof: Wg, Wj.
-/
import Derived.ChangeKeysEq
import Derived.Laws.StructEq
import Derived.Test.YtbpmlbjapapoaaaGreatDoorRWe
import Derived.Test.YtbpmlbjapapoaaaGreatDoorRWf
set_option maxRecDepth 100000
set_option maxHeartbeats 64000000
namespace Go.Proofs.YtbpmlbjapapoaaaGreatDoor.Eng
open Go.RowKit
section
attribute [local irreducible] xs T
theorem extG_eq (size : Int) : ∀ (l : List Pce) (last : Int),l.all pceOK = true → extG size last (exsP l) = extOK size last l
 | [],_,_=>rfl
 | p :: r,last,h=>by
  rw [List.all_cons,Bool.and_eq_true] at h
  have hok:=h.1
  simp only [pceOK,Bool.and_eq_true,decide_eq_true_eq] at hok
  have ih:=extG_eq size r (p.pos + p.data.length) h.2
  have e1 : ((p.pos.toNat : Nat) : Int) = p.pos:=by omega
  have e2 : p.data.length ≠ 0:=fun e=>hok.1.1 (List.length_eq_zero_iff.1 e)
  show (decide (p.data.length ≠ 0) && decide (last < ((p.pos.toNat : Nat) : Int)) && extG size (((p.pos.toNat : Nat) : Int) + p.data.length) (exsP r)) = _
  rw [e1,ih,decide_eq_true e2,Bool.true_and];rfl
theorem exsP_ok {l : List Pce} (h : l.all pceOK = true) (hb : bytesP l ≤ 1000000) : exOK (exsP l):=by
 intro q hq
 obtain ⟨p,hp,rfl⟩:=List.mem_map.1 hq
 have hok:=List.all_eq_true.1 h p hp
 simp only [pceOK,Bool.and_eq_true,decide_eq_true_eq] at hok
 have:=bytes_mem hp
 dsimp only
 omega
theorem mt_get {x : NdV} {j : Nat} {u : Value} (h : (mtC x)[j]? = some u) : (ndC x).toArray[1 + j]? = some u:=by
 have e : ndC x = [.int .i64 x.n.kind] ++ (mtC x ++ [.int .i64 x.n.size,x.vd,.string (su x.n.target),.int .i64 x.n.major,.int .i64 x.n.minor]):=rfl
 rw [List.getElem?_toArray,e,List.getElem?_append_right (by simp),List.length_singleton,Nat.add_sub_cancel_left,List.getElem?_append_left (List.getElem?_eq_some_iff.1 h).1]
 exact h
theorem pceOK_no {p : Pce} (h : pceOK p = false) : p.data = [] ∨ p.pos < 0 ∨ 1099511627776 < p.pos:=by
 by_cases h1 : p.data = []
 ·exact .inl h1
 ·by_cases h2 : p.pos < 0
  ·exact .inr (.inl h2)
  ·refine .inr (.inr ?_)
   rcases Int.lt_or_le 1099511627776 p.pos with h3 | h3
   ·exact h3
   ·simp [pceOK,h1,h3] at h;omega
theorem mayfile_does (w : World) (x : NdV) (hx : NdIn w x) (hb : bytesP x.n.data ≤ 1000000) : Does Tryz.prog 77 #[.agg (ndC x).toArray] w fun r w'=>r = .bool (fileOK x.n) ∧ Ext w w':=by
 refine does1 Tryz.func77 rfl (by kernel_rfl) ?_
 unfold fileOK
 refine goL ?_
 refine xbox rfl (fun w1 hB1 hE1 hs1=>?_)
 have hB : Blk w1 w.heap.size 47 (ndC x).toArray:=hB1
 obtain ⟨A,c,evd,hc1,hc2,hA⟩:=hx.d.op pcC_len
 have k7 : w1.cell? ⟨w.heap.size,7,none⟩ = some (.int .i64 x.n.size):=hB.cell 7
 have k8 : w1.cell? ⟨w.heap.size,8,none⟩ = some (.slice A x.n.data.length c):=by rw [← evd];exact hB.cell 8
 by_cases h0 : ¬ 0 ≤ x.n.size
 ·refine goL ?_
  exact tret1 rfl rfl ⟨by simp [h0],hE1⟩
 have h0 : 0 ≤ x.n.size:=by omega
 by_cases h1 : ¬ x.n.size ≤ 1099511627776
 ·refine goL ?_
  exact tret1 rfl rfl ⟨by simp [h1],hE1⟩
 have h1 : x.n.size ≤ 1099511627776:=by omega
 by_cases h2 : ¬ x.n.data.length ≤ 16
 ·refine goL ?_
  exact tret1 rfl rfl ⟨by simp [h2],hE1⟩
 have h2 : x.n.data.length ≤ 16:=by omega
 rw [decide_eq_true h0,decide_eq_true h1,decide_eq_true h2,Bool.true_and,Bool.true_and,Bool.true_and]
 obtain ⟨l,hl⟩ : ∃ l,l = x.n.data:=⟨_,rfl⟩
 have hb':=hb
 rw [← hl] at hA hc1 k8 hb' h2 ⊢
 refine goL ?_
 refine tloop (α:=Nat) (fun i=>[(1,.pointer (some ⟨w.heap.size,0,none⟩)),(20,.slice A l.length c),(21,.int .i64 (l.length : Int)),(22,.int .i64 (i : Int))]) (fun i w'=>Ext w1 w' ∧ i ≤ l.length ∧ (l.drop i).all pceOK = l.all pceOK) (fun i=>l.length - i) 0 (sub ⟨rfl,rfl,rfl,rfl⟩) ⟨Fr.refl _ _,Nat.zero_le _,rfl⟩ ?_
 rintro i w2 ⟨hE2,hi,hgo⟩
 by_cases hlt : i < l.length
 ·obtain ⟨b,o,p,rfl,_,hp,hdr,hcell⟩:=hA.at_ hlt
  have hpc : ∀ j u,(pcC p)[j]? = some u → w2.cell? ⟨b,o + i * 2 + j,none⟩ = some u:=fun j u hu=>hE2.cell (hE1.cell (hcell j u hu))
  rw [hdr,List.all_cons] at hgo
  refine gz4 ?_
  refine xldz (cs:=pcC p) rfl rfl hpc ?_
  refine xalloc (z:=.agg #[.int .i64 0,.string ⟨#[]⟩]) (by kernel_rfl) (fun w3 hB3 hE3 hs3=>?_)
  refine xsta (cs:=(pcC p).toArray) hB3 rfl rfl rfl rfl (pcC_all p) (fun w4 hB4 hF4=>?_)
  have hE4 : Ext w2 w4:=Ext.te hE3 hF4 fun j hj e=>by have e' : j = w2.heap.size:=e;omega
  have q0 : w4.cell? ⟨w2.heap.size,0,none⟩ = some (.int .i64 p.pos):=hB4.cell 0
  have q1 : w4.cell? ⟨w2.heap.size,1,none⟩ = some (.string (su p.data)):=hB4.cell 1
  have hE04:=hE1.t (hE2.t hE4)
  cases hok : pceOK p with
  | false=>
   rw [hok,Bool.false_and] at hgo
   rw [← hgo]
   by_cases g1 : p.data = []
   ·repeat' (first | refine xucmp (op:=.eql) (b:=[]) (r:=true) rfl rfl (by simp [cmpU,g1]) ?_ | refine go1L ?_ | fail)
    exact tret1 rfl rfl ⟨rfl,hE04⟩
   by_cases g2 : p.pos < 0
   ·refine gz20 ?_
    exact tret1 rfl rfl ⟨rfl,hE04⟩
   have g3 : 1099511627776 < p.pos:=(pceOK_no hok).resolve_left g1 |>.resolve_left g2
   refine gz20 ?_
   exact tret1 rfl rfl ⟨rfl,hE04⟩
  | true=>
   rw [hok,Bool.true_and] at hgo
   have hk:=hok
   simp only [pceOK,Bool.and_eq_true,decide_eq_true_eq] at hk
   obtain ⟨⟨g1,g2⟩,g3⟩:=hk
   refine gz20 ?_
   exact tfin ⟨i + 1,sub ⟨rfl,rfl,rfl,rfl⟩,⟨hE2.t hE4,by omega,hgo⟩,(by show l.length - (i + 1) < l.length - i;omega)⟩
 ·obtain rfl : i = l.length:=by omega
  rw [List.drop_length] at hgo
  have hall : x.n.data.all pceOK = true:=by rw [← hl,← hgo];rfl
  rw [← hgo,List.all_nil,Bool.true_and]
  have hB2 : Blk w2 w.heap.size 47 (ndC x).toArray:=hB.ext hE2
  have m7 : w2.drew.cell? ⟨w.heap.size,7,none⟩ = some (.int .i64 x.n.size):=hB2.cell 7
  refine goL ?_
  refine tdrawH [47] (fun w'=>w'.cell? ⟨w.heap.size,7,none⟩ = some (.int .i64 x.n.size)) (by kernel_rfl) (by decide +kernel) m7 ?_
  refine xlda (t:=47) hB2 rfl rfl ?_
  refine xcall rfl rfl (bytes_does w2.drew x (hx.ext (hE1.t hE2.d)) hb) ?_ ?_
  ·rintro r w3 ⟨rfl,hE3⟩
   rw [← hl]
   by_cases g : bytesP l ≤ 4000
   ·rw [decide_eq_true g,Bool.true_and]
    have hB3 : Blk w3 w.heap.size 47 (ndC x).toArray:=hB2.drew.ext hE3
    have hE03:=hE1.t (hE2.d.t hE3)
    refine goL ?_
    refine xlda (t:=47) hB3 rfl rfl ?_
    refine goL ?_
    refine xcall rfl rfl (extents_does w3 x (hx.ext hE03) hall hb (by rw [← hl];omega)) ?_ ?_
    ·rintro r w4 ⟨hown,hE4⟩
     have hr:=hown.rw
     rw [← hl] at hr
     repeat' (first | refine xldh rfl rfl (fun w' h=>h) ?_ | refine go1L ?_ | fail)
     refine xcall rfl rfl (extmay_does w4 r (exsP l) x.n.size hr (by rw [hl];exact exsP_ok hall hb)) ?_ ?_
     ·rintro r w5 ⟨rfl,rfl⟩
      rw [decide_eq_true h0,decide_eq_true h1,Bool.true_and,Bool.true_and,extG_eq _ _ _ (by rw [hl];exact hall)]
      refine goL ?_
      exact tret1 rfl rfl ⟨rfl,hE03.t hE4⟩
     ·rintro r w5 ⟨_,rfl⟩
      exact hE4.cell (hE3.cell m7)
    ·rintro r w4 ⟨_,hE4⟩
     exact hE4.cell (hE3.cell m7)
   ·rw [decide_eq_false g,Bool.false_and]
    refine goL ?_
    exact tret1 rfl rfl ⟨rfl,hE1.t (hE2.d.t hE3)⟩
  ·rintro r w3 ⟨_,hE3⟩
   exact hE3.cell m7
end
section
section
variable {hs : List Nat} {H : World → Prop} {full : Array Oper} {K : Env → World → Prop} {rest : List Oper} {env : Env} {w : World} {d : Tmp} {ty : TypeId} {pos : String} {af : Array Edge}
def EqS (t : TypeId) (cs ds : List Value) (b : Bool) : Prop:=Tryz.prog.eqGuardType Tryz.prog.depth t = false ∧ ∀ w',(Op.equalIn 10000 t (.agg cs.toArray) (.agg ds.toArray)).run Tryz.prog w' = .ok b w'
theorem xstne {t yt : TypeId} {x y : Operand} {cs ds : List Value} {b : Bool} (hx : evo env x = some (.agg cs.toArray)) (hy : evo env y = some (.agg ds.toArray)) (he : EqS t cs ds b)
  (h : xs Tryz.prog isI isS hs H full K rest ((d,.bool (!b)) :: env) w) : xs Tryz.prog isI isS hs H full K (⟨some d,.binOp .neq t x y yt,ty,pos,af,none⟩ :: rest) env w:=by
 refine x_gen rfl (by simp [opsOK,Op.operands,hx,hy]) ⟨.bool !b,fun w'=>?_,h⟩
 have h1:=run_eqGuard_agg (P:=Tryz.prog) w' .neq t x y cs.toArray ds.toArray he.1
 have h2:=run_neq_struct (P:=Tryz.prog) w' t cs.toArray ds.toArray
 rw [he.2 w'] at h2
 simp [execOp,ev_of hx,ev_of hy,h1,h2]
end
theorem eqf_cons {P : Program} {w : World} {d : Nat} {cs ds : Array Value} {f : Field} {fs : List Field} {a b : Value} {r : Bool} (hn : f.name ≠ "_") (hp : P.plainKey f.type = true) (ha : cs[f.offset]? = some a) (hb : ds[f.offset]? = some b) (he : (Op.equalIn d f.type a b).run P w = .ok r w) :
  (Op.eqFields d cs ds (f :: fs)).run P w = if r then (Op.eqFields d cs ds fs).run P w else .ok false w:=by
 rw [Op.eqFields,if_pos hn]
 simp only [Sem.run_bind,run_part_plain w hp ha,run_part_plain w hp hb,Result.andThen_ok,he]
 cases r <;> simp
theorem eq_ac (a b : Ac) : EqS 80 (acC a) (acC b) (decide (a = b)):=by
 refine ⟨by kernel_rfl,fun w'=>?_⟩
 have hf : Tryz.prog.fieldsOf 80 = (match Tryz.prog.underlying 80 with
  | some (.struct fs)=>fs
  | _=>#[]):=rfl
 rw [Tryz.underlying80] at hf
 have hu : Tryz.prog.underlying 80 = some (.struct (Tryz.prog.fieldsOf 80)):=by rw [hf];exact Tryz.underlying80
 rw [run_equalIn_agg w' 9999 _ _ _ hu (by kernel_rfl),hf]
 rw [eqf_cons (r:=a.kind == b.kind) (by decide) (by kernel_rfl) rfl rfl (run_equalIn_int w' 9998 _ _ _ _ _ Tryz.underlying3),eqf_cons (r:=a.id == b.id) (by decide) (by kernel_rfl) rfl rfl (run_equalIn_int w' 9998 _ _ _ _ _ Tryz.underlying3),eqf_cons (r:=a.perm == b.perm) (by decide) (by kernel_rfl) rfl rfl (run_equalIn_int w' 9998 _ _ _ _ _ Tryz.underlying3)]
 obtain ⟨x,y,z⟩:=a
 obtain ⟨x',y',z'⟩:=b
 by_cases h0 : x = x' <;> by_cases h1 : y = y' <;> by_cases h2 : z = z' <;> simp [h0,h1,h2,Op.eqFields]
theorem eq_att (a b : Att) : EqS 78 (attC a) (attC b) (decide (a = b)):=by
 refine ⟨by kernel_rfl,fun w'=>?_⟩
 have hf : Tryz.prog.fieldsOf 78 = (match Tryz.prog.underlying 78 with
  | some (.struct fs)=>fs
  | _=>#[]):=rfl
 rw [Tryz.underlying78] at hf
 have hu : Tryz.prog.underlying 78 = some (.struct (Tryz.prog.fieldsOf 78)):=by rw [hf];exact Tryz.underlying78
 have pks : Tryz.prog.plainKey 9 = true:=by kernel_rfl
 rw [run_equalIn_agg w' 9999 _ _ _ hu (by kernel_rfl),hf]
 rw [eqf_cons (r:=(su a.name).toList == (su b.name).toList) (by decide) pks rfl rfl (run_equalIn_string w' 9998 _ _ _ Tryz.underlying9),eqf_cons (r:=(su a.value).toList == (su b.value).toList) (by decide) pks rfl rfl (run_equalIn_string w' 9998 _ _ _ Tryz.underlying9)]
 obtain ⟨x,y⟩:=a
 obtain ⟨x',y'⟩:=b
 simp only [su_list]
 by_cases h0 : x = x' <;> by_cases h1 : y = y' <;> simp [h0,h1,Op.eqFields]
theorem eq_pc (a b : Pce) : EqS 65 (pcC a) (pcC b) (decide (a = b)):=by
 refine ⟨by kernel_rfl,fun w'=>?_⟩
 have hf : Tryz.prog.fieldsOf 65 = (match Tryz.prog.underlying 65 with
  | some (.struct fs)=>fs
  | _=>#[]):=rfl
 rw [Tryz.underlying65] at hf
 have hu : Tryz.prog.underlying 65 = some (.struct (Tryz.prog.fieldsOf 65)):=by rw [hf];exact Tryz.underlying65
 have pks : Tryz.prog.plainKey 9 = true:=by kernel_rfl
 rw [run_equalIn_agg w' 9999 _ _ _ hu (by kernel_rfl),hf]
 rw [eqf_cons (r:=a.pos == b.pos) (by decide) (by kernel_rfl) rfl rfl (run_equalIn_int w' 9998 _ _ _ _ _ Tryz.underlying2),eqf_cons (r:=(su a.data).toList == (su b.data).toList) (by decide) pks rfl rfl (run_equalIn_string w' 9998 _ _ _ Tryz.underlying9)]
 obtain ⟨x,y⟩:=a
 obtain ⟨x',y'⟩:=b
 simp only [su_list]
 by_cases h0 : x = x' <;> by_cases h1 : y = y' <;> simp [h0,h1,Op.eqFields]
theorem eq_en (a b : En) : EqS 53 (enC a) (enC b) (decide (a = b)):=by
 refine ⟨by kernel_rfl,fun w'=>?_⟩
 have hf : Tryz.prog.fieldsOf 53 = (match Tryz.prog.underlying 53 with
  | some (.struct fs)=>fs
  | _=>#[]):=rfl
 rw [Tryz.underlying53] at hf
 have hu : Tryz.prog.underlying 53 = some (.struct (Tryz.prog.fieldsOf 53)):=by rw [hf];exact Tryz.underlying53
 have pks : Tryz.prog.plainKey 9 = true:=by kernel_rfl
 rw [run_equalIn_agg w' 9999 _ _ _ hu (by kernel_rfl),hf]
 rw [eqf_cons (r:=(su a.path).toList == (su b.path).toList) (by decide) pks rfl rfl (run_equalIn_string w' 9998 _ _ _ Tryz.underlying9),eqf_cons (r:=a.node == b.node) (by decide) (by kernel_rfl) rfl rfl (run_equalIn_int w' 9998 _ _ _ _ _ Tryz.underlying3)]
 obtain ⟨x,y⟩:=a
 obtain ⟨x',y'⟩:=b
 simp only [su_list]
 by_cases h0 : x = x' <;> by_cases h1 : y = y' <;> simp [h0,h1,Op.eqFields]
attribute [local irreducible] xs T
theorem equal_ac (w : World) (v v' : Value) (l l' : List Ac) (hv : Rw acC w v l) (hv' : Rw acC w v' l') : Does Tryz.prog 192 #[v,v'] w fun r w'=>r = .bool (decide (l = l')) ∧ Ext w w':=by
 refine does2 Tryz.func192 rfl (by kernel_rfl) ?_
 obtain ⟨A,c,rfl,hc1,hc2,hA⟩:=hv.op acC_len
 obtain ⟨A',c',rfl,hc1',hc2',hA'⟩:=hv'.op acC_len
 by_cases hlen : l.length = l'.length
 ·refine goL ?_
  refine tloop (α:=Nat) (fun i=>[(0,.slice A l.length c),(1,.slice A' l'.length c'),(12,.int .i64 (l.length : Int)),(13,.int .i64 (i : Int))]) (fun i w'=>Ext w w' ∧ i ≤ l.length ∧ decide (l.drop i = l'.drop i) = decide (l = l')) (fun i=>l.length - i) 0 (sub ⟨rfl,rfl,rfl,rfl⟩) ⟨Fr.refl _ _,Nat.zero_le _,rfl⟩ ?_
  rintro i w1 ⟨hE,hi,hgo⟩
  by_cases hlt : i < l.length
  ·obtain ⟨b,o,x,rfl,_,hx,hdr,hcell⟩:=hA.at_ hlt
   obtain ⟨b',o',y,rfl,_,hy,hdr',hcell'⟩:=hA'.at_ (i:=i) (by omega)
   rw [hdr,hdr'] at hgo
   have hxc : ∀ j u,(acC x)[j]? = some u → w1.drew.cell? ⟨b,o + i * 3 + j,none⟩ = some u:=fun j u hu=>hE.cell (hcell j u hu)
   have hyc : ∀ j u,(acC y)[j]? = some u → w1.drew.cell? ⟨b',o' + i * 3 + j,none⟩ = some u:=fun j u hu=>hE.cell (hcell' j u hu)
   refine gz8 ?_
   refine xldz (cs:=acC x) rfl rfl hxc ?_
   repeat' (first | refine xizq i (o' + i * 3) rfl rfl rfl rfl rfl (by omega) ?_ | refine go1L ?_ | fail)
   refine xldz (cs:=acC y) rfl rfl hyc ?_
   refine xstne rfl rfl (eq_ac x y) ?_
   by_cases e : x = y
   ·exact y8
   ·exact y5
  ·exact y2
 ·exact y9
theorem equal_att (w : World) (v v' : Value) (l l' : List Att) (hv : Rw attC w v l) (hv' : Rw attC w v' l') : Does Tryz.prog 158 #[v,v'] w fun r w'=>r = .bool (decide (l = l')) ∧ Ext w w':=by
 refine does2 Tryz.func158 rfl (by kernel_rfl) ?_
 obtain ⟨A,c,rfl,hc1,hc2,hA⟩:=hv.op attC_len
 obtain ⟨A',c',rfl,hc1',hc2',hA'⟩:=hv'.op attC_len
 by_cases hlen : l.length = l'.length
 ·refine goL ?_
  refine tloop (α:=Nat) (fun i=>[(0,.slice A l.length c),(1,.slice A' l'.length c'),(12,.int .i64 (l.length : Int)),(13,.int .i64 (i : Int))]) (fun i w'=>Ext w w' ∧ i ≤ l.length ∧ decide (l.drop i = l'.drop i) = decide (l = l')) (fun i=>l.length - i) 0 (sub ⟨rfl,rfl,rfl,rfl⟩) ⟨Fr.refl _ _,Nat.zero_le _,rfl⟩ ?_
  rintro i w1 ⟨hE,hi,hgo⟩
  by_cases hlt : i < l.length
  ·obtain ⟨b,o,x,rfl,_,hx,hdr,hcell⟩:=hA.at_ hlt
   obtain ⟨b',o',y,rfl,_,hy,hdr',hcell'⟩:=hA'.at_ (i:=i) (by omega)
   rw [hdr,hdr'] at hgo
   have hxc : ∀ j u,(attC x)[j]? = some u → w1.drew.cell? ⟨b,o + i * 2 + j,none⟩ = some u:=fun j u hu=>hE.cell (hcell j u hu)
   have hyc : ∀ j u,(attC y)[j]? = some u → w1.drew.cell? ⟨b',o' + i * 2 + j,none⟩ = some u:=fun j u hu=>hE.cell (hcell' j u hu)
   refine gz4 ?_
   refine xldz (cs:=attC x) rfl rfl hxc ?_
   refine gz18 ?_
   refine xldz (cs:=attC y) rfl rfl hyc ?_
   refine xstne rfl rfl (eq_att x y) ?_
   by_cases e : x = y
   ·exact y8
   ·exact y5
  ·exact y2
 ·exact y9
theorem equal_pc (w : World) (v v' : Value) (l l' : List Pce) (hv : Rw pcC w v l) (hv' : Rw pcC w v' l') : Does Tryz.prog 117 #[v,v'] w fun r w'=>r = .bool (decide (l = l')) ∧ Ext w w':=by
 refine does2 Tryz.func117 rfl (by kernel_rfl) ?_
 obtain ⟨A,c,rfl,hc1,hc2,hA⟩:=hv.op pcC_len
 obtain ⟨A',c',rfl,hc1',hc2',hA'⟩:=hv'.op pcC_len
 by_cases hlen : l.length = l'.length
 ·refine goL ?_
  refine tloop (α:=Nat) (fun i=>[(0,.slice A l.length c),(1,.slice A' l'.length c'),(12,.int .i64 (l.length : Int)),(13,.int .i64 (i : Int))]) (fun i w'=>Ext w w' ∧ i ≤ l.length ∧ decide (l.drop i = l'.drop i) = decide (l = l')) (fun i=>l.length - i) 0 (sub ⟨rfl,rfl,rfl,rfl⟩) ⟨Fr.refl _ _,Nat.zero_le _,rfl⟩ ?_
  rintro i w1 ⟨hE,hi,hgo⟩
  by_cases hlt : i < l.length
  ·obtain ⟨b,o,x,rfl,_,hx,hdr,hcell⟩:=hA.at_ hlt
   obtain ⟨b',o',y,rfl,_,hy,hdr',hcell'⟩:=hA'.at_ (i:=i) (by omega)
   rw [hdr,hdr'] at hgo
   have hxc : ∀ j u,(pcC x)[j]? = some u → w1.drew.cell? ⟨b,o + i * 2 + j,none⟩ = some u:=fun j u hu=>hE.cell (hcell j u hu)
   have hyc : ∀ j u,(pcC y)[j]? = some u → w1.drew.cell? ⟨b',o' + i * 2 + j,none⟩ = some u:=fun j u hu=>hE.cell (hcell' j u hu)
   refine gz4 ?_
   refine xldz (cs:=pcC x) rfl rfl hxc ?_
   refine gz18 ?_
   refine xldz (cs:=pcC y) rfl rfl hyc ?_
   refine xstne rfl rfl (eq_pc x y) ?_
   by_cases e : x = y
   ·exact y8
   ·exact y5
  ·exact y2
 ·exact y9
theorem requal_ac (w : World) (v v' : Value) (l l' : List Ac) (hv : Rw acC w v l) (hv' : Rw acC w v' l') : Does Tryz.prog 119 #[v,v'] w fun r w'=>r = .bool (decide (l = l')) ∧ Ext w w':=by
 refine does2 Tryz.func119 rfl (by kernel_rfl) ?_
 obtain ⟨A,c,rfl,hc1,hc2,hA⟩:=hv.op acC_len
 obtain ⟨A',c',rfl,hc1',hc2',hA'⟩:=hv'.op acC_len
 by_cases hlen : l.length = l'.length
 ·refine goL ?_
  refine tloop (α:=Nat) (fun i=>[(0,.slice A l.length c),(1,.slice A' l'.length c'),(5,.int .i64 (i : Int))]) (fun i w'=>Ext w w' ∧ i ≤ l.length ∧ decide (l.drop i = l'.drop i) = decide (l = l')) (fun i=>l.length - i) 0 (sub ⟨rfl,rfl,rfl⟩) ⟨Fr.refl _ _,Nat.zero_le _,rfl⟩ ?_
  rintro i w1 ⟨hE,hi,hgo⟩
  by_cases hlt : i < l.length
  ·obtain ⟨b,o,x,rfl,_,hx,hdr,hcell⟩:=hA.at_ hlt
   obtain ⟨b',o',y,rfl,_,hy,hdr',hcell'⟩:=hA'.at_ (i:=i) (by omega)
   rw [hdr,hdr'] at hgo
   have hxc : ∀ j u,(acC x)[j]? = some u → w1.drew.cell? ⟨b,o + i * 3 + j,none⟩ = some u:=fun j u hu=>hE.cell (hcell j u hu)
   have hyc : ∀ j u,(acC y)[j]? = some u → w1.drew.cell? ⟨b',o' + i * 3 + j,none⟩ = some u:=fun j u hu=>hE.cell (hcell' j u hu)
   refine gz8 ?_
   refine xldz (cs:=acC x) rfl rfl hxc ?_
   repeat' (first | refine xizq i (o' + i * 3) rfl rfl rfl rfl rfl (by omega) ?_ | refine go1L ?_ | fail)
   refine xldz (cs:=acC y) rfl rfl hyc ?_
   refine xstne rfl rfl (eq_ac x y) ?_
   by_cases e : x = y
   ·exact y10
   ·exact y5
  ·exact y2
 ·exact y9
theorem requal_att (w : World) (v v' : Value) (l l' : List Att) (hv : Rw attC w v l) (hv' : Rw attC w v' l') : Does Tryz.prog 118 #[v,v'] w fun r w'=>r = .bool (decide (l = l')) ∧ Ext w w':=by
 refine does2 Tryz.func118 rfl (by kernel_rfl) ?_
 obtain ⟨A,c,rfl,hc1,hc2,hA⟩:=hv.op attC_len
 obtain ⟨A',c',rfl,hc1',hc2',hA'⟩:=hv'.op attC_len
 by_cases hlen : l.length = l'.length
 ·refine goL ?_
  refine tloop (α:=Nat) (fun i=>[(0,.slice A l.length c),(1,.slice A' l'.length c'),(5,.int .i64 (i : Int))]) (fun i w'=>Ext w w' ∧ i ≤ l.length ∧ decide (l.drop i = l'.drop i) = decide (l = l')) (fun i=>l.length - i) 0 (sub ⟨rfl,rfl,rfl⟩) ⟨Fr.refl _ _,Nat.zero_le _,rfl⟩ ?_
  rintro i w1 ⟨hE,hi,hgo⟩
  by_cases hlt : i < l.length
  ·obtain ⟨b,o,x,rfl,_,hx,hdr,hcell⟩:=hA.at_ hlt
   obtain ⟨b',o',y,rfl,_,hy,hdr',hcell'⟩:=hA'.at_ (i:=i) (by omega)
   rw [hdr,hdr'] at hgo
   have hxc : ∀ j u,(attC x)[j]? = some u → w1.drew.cell? ⟨b,o + i * 2 + j,none⟩ = some u:=fun j u hu=>hE.cell (hcell j u hu)
   have hyc : ∀ j u,(attC y)[j]? = some u → w1.drew.cell? ⟨b',o' + i * 2 + j,none⟩ = some u:=fun j u hu=>hE.cell (hcell' j u hu)
   refine gz4 ?_
   refine xldz (cs:=attC x) rfl rfl hxc ?_
   refine gz18 ?_
   refine xldz (cs:=attC y) rfl rfl hyc ?_
   refine xstne rfl rfl (eq_att x y) ?_
   by_cases e : x = y
   ·exact y10
   ·exact y5
  ·exact y2
 ·exact y9
theorem requal_pc (w : World) (v v' : Value) (l l' : List Pce) (hv : Rw pcC w v l) (hv' : Rw pcC w v' l') : Does Tryz.prog 87 #[v,v'] w fun r w'=>r = .bool (decide (l = l')) ∧ Ext w w':=by
 refine does2 Tryz.func87 rfl (by kernel_rfl) ?_
 obtain ⟨A,c,rfl,hc1,hc2,hA⟩:=hv.op pcC_len
 obtain ⟨A',c',rfl,hc1',hc2',hA'⟩:=hv'.op pcC_len
 by_cases hlen : l.length = l'.length
 ·refine goL ?_
  refine tloop (α:=Nat) (fun i=>[(0,.slice A l.length c),(1,.slice A' l'.length c'),(5,.int .i64 (i : Int))]) (fun i w'=>Ext w w' ∧ i ≤ l.length ∧ decide (l.drop i = l'.drop i) = decide (l = l')) (fun i=>l.length - i) 0 (sub ⟨rfl,rfl,rfl⟩) ⟨Fr.refl _ _,Nat.zero_le _,rfl⟩ ?_
  rintro i w1 ⟨hE,hi,hgo⟩
  by_cases hlt : i < l.length
  ·obtain ⟨b,o,x,rfl,_,hx,hdr,hcell⟩:=hA.at_ hlt
   obtain ⟨b',o',y,rfl,_,hy,hdr',hcell'⟩:=hA'.at_ (i:=i) (by omega)
   rw [hdr,hdr'] at hgo
   have hxc : ∀ j u,(pcC x)[j]? = some u → w1.drew.cell? ⟨b,o + i * 2 + j,none⟩ = some u:=fun j u hu=>hE.cell (hcell j u hu)
   have hyc : ∀ j u,(pcC y)[j]? = some u → w1.drew.cell? ⟨b',o' + i * 2 + j,none⟩ = some u:=fun j u hu=>hE.cell (hcell' j u hu)
   refine gz4 ?_
   refine xldz (cs:=pcC x) rfl rfl hxc ?_
   refine gz18 ?_
   refine xldz (cs:=pcC y) rfl rfl hyc ?_
   refine xstne rfl rfl (eq_pc x y) ?_
   by_cases e : x = y
   ·exact y10
   ·exact y5
  ·exact y2
 ·exact y9
end
end Go.Proofs.YtbpmlbjapapoaaaGreatDoor.Eng
