/-
  Parts of the proof: Ac.
-/
import Derived.Test.YtbpmlbjapapoaaaGreatDoorRB9
import Derived.Test.YtbpmlbjapapoaaaGreatDoorRYc
set_option maxRecDepth 100000
set_option maxHeartbeats 64000000
namespace Go.Proofs.YtbpmlbjapapoaaaGreatDoor.Eng
open Go.RowKit
section
open Go.RowKit Go.Lib
structure RcP where
 path : Str
 lead : Int
 nd : Nd
 pos : Int
deriving DecidableEq
structure RcV where
 path : Str
 lead : Int
 nd : NdV
 pos : Int
def RcV.p (r : RcV) : RcP:=⟨r.path,r.lead,r.nd.n,r.pos⟩
def rcC (r : RcV) : List Value:=.string (su r.path) :: .int .i64 r.lead :: (ndC r.nd ++ [.int .i64 r.pos])
theorem rcC_len (r : RcV) : (rcC r).length = 15:=rfl
structure RS where
 recs : List RcP
 whole : Str
 lead : List Int
 seen : Nat
def rstp (ns : List Nd) (s : RS) (e : En) : RS:=
 if e.node = (s.seen : Int) then
  ⟨s.recs ++ [⟨e.path,(s.recs.length : Int),bareN (ns.getD s.seen default),if (ns.getD s.seen default).data = [] then 0 else (s.whole.length : Int)⟩],s.whole ++ catP (ns.getD s.seen default).data,s.lead.set s.seen (s.recs.length : Int),s.seen + 1⟩
 else ⟨s.recs ++ [⟨e.path,s.lead.getD e.node.toNat 0,ndZ,0⟩],s.whole,s.lead,s.seen⟩
theorem catP_len (l : List Pce) : (catP l).length = bytesP l:=by
 induction l with
 | nil=>rfl
 | cons p l ih=>
  show (p.data ++ catP l).length = _
  rw [List.length_append,ih];rfl
def rst0 (ns : List Nd) : RS:=⟨[],[],List.replicate ns.length 0,0⟩
def rsts (ns : List Nd) (es : List En) : RS:=es.foldl (rstp ns) (rst0 ns)
def recsM (t : Tre) : RS:=rsts t.ns t.es
theorem rsts_take {ns : List Nd} {es : List En} {i : Nat} {e : En} (h : es[i]? = some e) : rsts ns (es.take (i + 1)) = rstp ns (rsts ns (es.take i)) e:=by
 unfold rsts
 rw [List.take_add_one,h,List.foldl_append];rfl
theorem rsts_len (ns : List Nd) : ∀ (es : List En) (s : RS),(es.foldl (rstp ns) s).recs.length = s.recs.length + es.length
 | [],_=>rfl
 | e :: r,s=>by
  rw [List.foldl_cons,rsts_len ns r]
  unfold rstp
  split <;> simp <;> omega
theorem rsts_recs {ns : List Nd} {es : List En} {i : Nat} (hi : i ≤ es.length) : (rsts ns (es.take i)).recs.length = i:=by
 unfold rsts
 rw [rsts_len]
 simp [rst0];omega
theorem ordB_step {ns : List Nd} {prev : Option Str} {u : Nat} {e : En} {r : List En} (h : ordB ns prev u (e :: r) = true) : 0 ≤ e.node ∧ e.node ≤ u ∧ e.node < ns.length ∧ if e.node < u then ordB ns (some e.path) u r = true else nodeOK (ns.getD u default) = true ∧ ordB ns (some e.path) (u + 1) r = true:=by
 simp only [ordB,Bool.and_eq_true,decide_eq_true_eq] at h
 refine ⟨h.1.1.1.2,h.1.1.2,h.1.2,?_⟩
 have h2:=h.2
 by_cases hc : e.node < (u : Int)
 ·rw [if_pos hc] at h2 ⊢
  rw [Bool.and_eq_true] at h2
  exact h2.2
 ·rw [if_neg hc] at h2 ⊢
  rw [Bool.and_eq_true] at h2
  exact h2
theorem ordB_len (ns : List Nd) : ∀ (l : List En) (prev : Option Str) (u : Nat),ordB ns prev u l = true → ns.length ≤ u + l.length
 | [],_,u,h=>by
  have : decide (u = ns.length) = true:=h
  simp at this;simp;omega
 | e :: r,_,u,h=>by
  obtain ⟨_,_,_,h2⟩:=ordB_step h
  split at h2
  ·have:=ordB_len ns r _ _ h2
   rw [List.length_cons];omega
  ·have:=ordB_len ns r _ _ h2.2
   rw [List.length_cons];omega
structure RecI (t : Tre) (w : World) (ve vn : Value) (g : Nat) (y : Nat × Nat × Value × Value × List RcV) (w' : World) : Prop where
 le : y.1 ≤ t.es.length
 B : Blk w' g 25 #[ve,vn]
 L : Blk w' y.2.1 3 ((rsts t.ns (t.es.take y.1)).lead.map (Value.int .i64)).toArray
 gl : w.heap.size ≤ y.2.1
 o : Ow rcC 15 w' w.heap.size 49 y.2.2.1 y.2.2.2.2
 p : y.2.2.2.2.map RcV.p = (rsts t.ns (t.es.take y.1)).recs
 k : ∀ x ∈ y.2.2.2.2,NdK w' x.nd
 wh : Own w' w.heap.size 5 y.2.2.2.1 (bs (rsts t.ns (t.es.take y.1)).whole)
 ext : Ext w w'
 ord : ∃ prev,ordB t.ns prev (rsts t.ns (t.es.take y.1)).seen (t.es.drop y.1) = true
 sn : (rsts t.ns (t.es.take y.1)).seen ≤ t.ns.length ∧ (rsts t.ns (t.es.take y.1)).seen ≤ 100
 wl : (rsts t.ns (t.es.take y.1)).whole.length ≤ 1000000 * (rsts t.ns (t.es.take y.1)).seen
 ll : (rsts t.ns (t.es.take y.1)).lead.length = t.ns.length
 m : mayT t = true
theorem sl_recs : SlT 28 49 (.agg (rcC ⟨[],0,ndZV,0⟩).toArray) 15 184:=slT Tryz.underlying28 (by kernel_rfl)
theorem rcC_one (l : List RcV) (h : ∀ x ∈ l,(rcC x).all (·.oneCell') = true) : ∀ u ∈ l.flatMap rcC,u.oneCell' = true:=fun u hu=>by
 obtain ⟨x,hx,hm⟩:=List.mem_flatMap.1 hu
 exact List.all_eq_true.1 (h x hx) u hm
section
variable {hs : List Nat} {H : World → Prop} {full : Array Oper} {K : Env → World → Prop} {rest : List Oper} {env : Env} {w : World} {d : Tmp} {ty : TypeId} {pos : String} {af : Array Edge}
theorem xeqb {t yt : TypeId} {x y : Operand} {k : IntKind} {a b : Int} (hx : evo env x = some (.int k a)) (hy : evo env y = some (.int k b)) (h : ∀ q : Bool,(q = true ↔ a = b) → xs Tryz.prog isI isS hs H full K rest ((d,.bool q) :: env) w) : xs Tryz.prog isI isS hs H full K (⟨some d,.binOp .eql t x y yt,ty,pos,af,none⟩ :: rest) env w:=by
 by_cases hc : a = b
 ·exact xt_eql hx hy hc (h true (by simp [hc]))
 ·exact xf_eql hx hy hc (h false (by simp [hc]))
end
structure MidI (t : Tre) (w : World) (ve vn vr : Value) (rl : List RcV) (s' : RS) (e : En) (g gl g10 g11 : Nat) (y : Value × NdV × Int) (w' : World) : Prop where
 B : Blk w' g 25 #[ve,vn]
 L : Blk w' gl 3 (s'.lead.map (Value.int .i64)).toArray
 o : Ow rcC 15 w' w.heap.size 49 vr rl
 k : ∀ x ∈ rl,NdK w' x.nd
 wh : Own w' w.heap.size 5 y.1 (bs s'.whole)
 ext : Ext w w'
 E : Blk w' g10 53 (enC e).toArray
 R : Blk w' g11 49 (rcC ⟨e.path,0,y.2.1,y.2.2⟩).toArray
 x : NdO w' w.heap.size y.2.1
 st : s'.recs = rl.map RcV.p ++ [⟨e.path,s'.lead.getD e.node.toNat 0,y.2.1.n,y.2.2⟩]
 ord : ∃ prev,ordB t.ns prev s'.seen (t.es.drop (rl.length + 1)) = true
 sn : s'.seen ≤ t.ns.length
 wl : s'.whole.length ≤ 1000000 * s'.seen
 ll : s'.lead.length = t.ns.length
def RecsR (t : Tre) (w : World) (r : Value) (w' : World) : Prop:=Ext w w' ∧ if mayT t = true then ∃ vr vw rl,r = .tuple #[vr,vw,.int .i64 0] ∧ Ow rcC 15 w' w.heap.size 49 vr rl ∧ rl.map RcV.p = (recsM t).recs ∧ (∀ x ∈ rl,NdK w' x.nd) ∧ Own w' w.heap.size 5 vw (bs (recsM t).whole) else r = .tuple #[.slice none 0 0,.slice none 0 0,.int .i64 1]
attribute [local irreducible] xs T
theorem NdO.k {w : World} {B : Nat} {x : NdV} (h : NdO w B x) : NdK w x:=⟨h.in,⟨fun _ hb=>h.a.typ hb,fun _ hb=>h.c.typ hb,fun _ hb=>h.d.typ hb⟩⟩
theorem own_form {w : World} {B : Nat} {e : TypeId} {v : Value} {vs : List Value} (h : Own w B e v vs) : ∃ A c,v = .slice A vs.length c:=by
 obtain ⟨A,c,h1,_⟩:=h.row
 exact ⟨A,c,h1⟩
theorem recs_does (w : World) (ve vn : Value) (nvs : List NdV) (t : Tre) (hv : TrV w ve vn nvs t) (hn : NsOK t.ns) (hL : ∀ n ∈ t.ns,NdL n) (hP : PowT w) : Does Tryz.prog 8 #[.agg #[ve,vn]] w (RecsR t w):=by
 refine does1 Tryz.func8 rfl (by kernel_rfl) ?_
 have hN : ∀ {a b c : World} {g : Nat},Ext a b → Fr (· = g) b c → a.heap.size ≤ g → Ext a c:=fun h1 h2 hg=>h1.trans h2 fun j hj e=>absurd hj (by omega)
 have hv0:=hv
 obtain ⟨A,c,rfl,hc1,hc2,hA⟩:=hv.e.op enC_len
 obtain ⟨A',c',rfl,hc1',hc2',hA'⟩:=hv.n.op ndC_len
 have hlen:=hv.len
 refine goL ?_
 refine xbox rfl (fun w1 hB1 hE1 hs1=>?_)
 obtain ⟨g,hg⟩ : ∃ g,g = w.heap.size:=⟨_,rfl⟩
 rw [← hg] at hB1 hs1 ⊢
 have hB1 : Blk w1 g 25 #[.slice A t.es.length c,.slice A' nvs.length c']:=hB1
 refine goL ?_
 refine tscope1 (α:=Nat × Nat × Value × Value × List RcV) 0 rfl (fun y=>[(1,.pointer (some ⟨g,0,none⟩)),(5,y.2.2.1),(6,y.2.2.2.1),(7,.slice (some ⟨y.2.1,0,none⟩) t.ns.length t.ns.length),(8,.int .i64 ((rsts t.ns (t.es.take y.1)).seen : Int))]) (RecI t w (.slice A t.es.length c) (.slice A' nvs.length c') g) (fun y=>t.es.length - y.1) ?_ ?_
 ·rintro ⟨i,gl,vr,vw,rl⟩ w' h
  obtain ⟨hi,hB,hLd,hgl,ho,hp,hk,hwh,hE,⟨prev,hord⟩,⟨hsn,hs100⟩,hwl,hll,hm⟩:=h
  dsimp only at hi hB hLd hgl ho hp hk hwh hord hsn hs100 hwl hll ⊢
  have hrl : rl.length = i:=by
   have:=congrArg List.length hp
   rw [List.length_map,rsts_recs hi] at this
   exact this
  subst hrl
  obtain ⟨s,hs⟩ : ∃ s,s = rsts t.ns (t.es.take rl.length):=⟨_,rfl⟩
  rw [← hs] at hLd hp hwh hord hsn hs100 hwl hll ⊢
  obtain ⟨Ar,cr,rfl,_,_⟩:=ho.form
  obtain ⟨Aw,cw,rfl⟩:=own_form hwh
  have k0 : w'.cell? ⟨g,0,none⟩ = some (.slice A t.es.length c):=hB.cell 0
  have z0:=hE.size
  have hm100 : t.ns.length ≤ 100 ∧ t.es.length ≤ 100:=by
   have:=hm
   unfold mayT at this
   simp only [Bool.and_eq_true,decide_eq_true_eq] at this
   have hnl:=ordB_len t.ns t.es none 0 this.1.1.2
   omega
  by_cases hlt : rl.length < t.es.length
  ·obtain ⟨b,oo,e,rfl,_,he,hdr,hce⟩:=hA.at_ hlt
   have hstep:=rsts_take (ns:=t.ns) he
   rw [← hs] at hstep
   rw [hdr] at hord
   obtain ⟨hn0,hnu,hnl,hnx⟩:=ordB_step hord
   repeat' (first | refine xizq rl.length (oo + rl.length * 2) rfl rfl rfl rfl rfl hlt ?_ | refine go1L ?_ | fail)
   refine xldz (cs:=enC e) rfl rfl (fun j u hu=>hE.cell (hce j u hu)) ?_
   refine xalloc (z:=.agg #[.string ⟨#[]⟩,.int .i64 0]) (by kernel_rfl) (fun w1 hB10 hE10 hs10=>?_)
   refine xsta (cs:=(enC e).toArray) hB10 rfl rfl rfl rfl (one_cells (l:=enC e) rfl) (fun w2 hB10' hF10=>?_)
   have hE2 : Ext w' w2:=hN hE10 hF10 (Nat.le_refl _)
   have j0 : w2.cell? ⟨w'.heap.size,0,none⟩ = some (.string (su e.path)):=hB10'.cell 0
   refine goL ?_
   refine xbd (cells:=(rcC ⟨e.path,0,ndZV,0⟩).toArray) rfl (by kernel_rfl) ?_
   refine xalloc (z:=.agg (rcC ⟨[],0,ndZV,0⟩).toArray) (by kernel_rfl) (fun w3 hB11 hE11 hs11=>?_)
   refine xsta hB11 rfl rfl (by kernel_rfl) rfl (one_cells (l:=rcC ⟨e.path,0,ndZV,0⟩) rfl) (fun w4 hR4 hF11=>?_)
   have hE24 : Ext w2 w4:=hN hE11 hF11 (Nat.le_refl _)
   have hE4 : Ext w' w4:=hE2.t hE24
   obtain ⟨g10,hg10⟩ : ∃ g10,g10 = w'.heap.size:=⟨_,rfl⟩
   obtain ⟨g11,hg11⟩ : ∃ g11,g11 = w2.heap.size:=⟨_,rfl⟩
   rw [← hg10] at hB10' ⊢
   rw [← hg11] at hR4 ⊢
   have z2:=hE2.size;have z4:=hE4.size
   have hEn4:=hB10'.ext hE24
   have i1 : w4.cell? ⟨g10,1,none⟩ = some (.int .i64 e.node):=hEn4.cell 1
   obtain ⟨s',hs'⟩ : ∃ s',s' = rstp t.ns s e:=⟨_,rfl⟩
   rw [← hs'] at hstep
   have hE04 : Ext w w4:=hE.t hE4
   have hB4:=hB.ext hE4
   have hL4:=hLd.ext hE4
   have ho4:=ho.ext hE4
   have hk4 : ∀ x ∈ rl,NdK w4 x.nd:=fun x hx=>(hk x hx).ext hE4
   have hwh4 : Own w4 w.heap.size 5 (.slice Aw (bs s.whole).length cw) (bs s.whole):=Own.ext hwh hE4
   refine goL ?_
   refine xeqb rfl rfl (fun q hq=>?_)
   refine gz0 ?_
   refine tcut (α:=Value × NdV × Int) (fun y=>[(1,.pointer (some ⟨g,0,none⟩)),(5,.slice Ar rl.length cr),(6,y.1),(7,.slice (some ⟨gl,0,none⟩) t.ns.length t.ns.length),(8,.int .i64 (s'.seen : Int)),(9,.int .i64 (rl.length : Int)),(10,.pointer (some ⟨g10,0,none⟩)),(11,.pointer (some ⟨g11,0,none⟩))]) (MidI t w (.slice (some ⟨b,oo,none⟩) t.es.length c) (.slice A' nvs.length c') (.slice Ar rl.length cr) rl s' e g gl g10 g11) ?_ ?_
   ·refine tcs rfl (fun hqt=>?_) (fun hqf=>?_)
    ·have hnew:=hq.1 hqt
     rw [if_neg (by omega)] at hnx
     obtain ⟨hnok,hnx⟩:=hnx
     have hsl : s.seen < nvs.length:=by omega
     obtain ⟨b',o',x,rfl,_,hx,_,hcx⟩:=hA'.at_ hsl
     have hxn : t.ns.getD s.seen default = x.n:=hv0.getD hx
     have hxi : x ∈ nvs:=List.mem_of_getElem? hx
     have hxm : x.n ∈ t.ns:=List.mem_of_getElem? (hv0.get hx)
     rw [hxn] at hnok
     have hxin:=hv0.i x hxi
     obtain ⟨Ad,cd,hvd,_,_,_⟩:=hxin.d.op pcC_len
     have hdl : (bareN x.n).data.length = x.n.data.length:=by unfold bareN;rw [if_pos hnok];simp
     have es' : s' = ⟨s.recs ++ [⟨e.path,(s.recs.length : Int),bareN x.n,if x.n.data = [] then 0 else (s.whole.length : Int)⟩],s.whole ++ catP x.n.data,s.lead.set s.seen (s.recs.length : Int),s.seen + 1⟩:=by rw [hs'];unfold rstp;rw [if_pos hnew,hxn]
     have hsr : s.recs.length = rl.length:=by rw [← hp,List.length_map]
     rw [hsr] at es'
     refine goL ?_
     refine xstb hL4 rfl rfl (by kernel_rfl) rfl (by simp only [decide_eq_true_eq,List.size_toArray,List.length_map];omega) (fun w5 hL5 hF5=>?_)
     have hL5' : Blk w5 gl 3 ((s.lead.set s.seen (rl.length : Int)).map (Value.int .i64)).toArray:=by
      rw [Nat.zero_add] at hL5
      simpa [List.map_set] using hL5
     have hB5:=hB4.fr hF5 (fun e=>hB4.ne_ hL4 (by decide) e)
     have ho5:=ho4.fr hF5 fun b hb e=>by obtain ⟨cs,hc⟩:=ho4.typ hb;exact hc.ne_ hL4 (by decide) e
     have hk5 : ∀ x ∈ rl,NdK w5 x.nd:=fun y hy=>(hk4 y hy).fr hF5 (Away.one hL4 (by decide))
     have hwh5 : Own w5 w.heap.size 5 (.slice Aw (bs s.whole).length cw) (bs s.whole):=Own.fr hwh4 hF5 fun b hb e=>by obtain ⟨_,cs,hc⟩:=own_ty8 hwh4 b hb;exact hc.ne_ hL4 (by decide) e
     have hEn5:=hEn4.fr hF5 (fun e=>hEn4.ne_ hL4 (by decide) e)
     have hR5:=hR4.fr hF5 (fun e=>hR4.ne_ hL4 (by decide) e)
     have hE05 : Ext w w5:=hN hE04 hF5 hgl
     have z5:=hF5.size
     have m1 : w5.cell? ⟨g,1,none⟩ = some (.slice (some ⟨b',o',none⟩) t.ns.length c'):=by rw [← hlen];exact hB5.cell 1
     have m2 : w5.cell? ⟨g10,1,none⟩ = some (.int .i64 e.node):=hEn5.cell 1
     repeat' (first | refine xizq s.seen (o' + s.seen * 12) rfl rfl rfl hnew rfl (by omega) ?_ | refine go1L ?_ | fail)
     refine xldz (cs:=ndC x) rfl rfl (fun j u hu=>hE05.cell (hcx j u hu)) ?_
     have hNd:=hL x.n hxm
     refine xcallE rfl rfl (bare_does w5 x (hxin.ext hE05) (hn x.n hxm) hNd.a hNd.c hNd.d (hP.ext hE05)) (fun r w6 h6=>?_)
     obtain ⟨⟨xn,xa,xc,xd⟩,rfl,hxb,hxo,hE6⟩:=h6
     dsimp only at hxb
     obtain ⟨A1,c1,e1,_,_⟩:=hxo.a.form
     obtain ⟨A2,c2,e2,_,_⟩:=hxo.c.form
     obtain ⟨A3,c3,e3,_,_⟩:=hxo.d.form
     dsimp only at e1 e2 e3
     subst e1;subst e2;subst e3
     have hR6:=hR5.ext hE6
     have z6:=hE6.size
     refine goL ?_
     refine xstk (q:=2) (vs:=ndC ⟨xn,.slice A1 xn.attrs.length c1,.slice A2 xn.acl.length c2,.slice A3 xn.data.length c3⟩) (nw:=(rcC ⟨e.path,0,⟨xn,.slice A1 xn.attrs.length c1,.slice A2 xn.acl.length c2,.slice A3 xn.data.length c3⟩,0⟩).toArray) hR6 rfl rfl (by kernel_rfl) (by show 2 + 12 ≤ 15;decide) (List.all_eq_true.1 (rfl : (ndC ⟨xn,.slice A1 xn.attrs.length c1,.slice A2 xn.acl.length c2,.slice A3 xn.data.length c3⟩).all (·.oneCell') = true)) rfl (fun w7 hR7 hF7=>?_)
     have hE06:=hE05.t hE6
     have hE07 : Ext w w7:=hN hE06 hF7 (by omega)
     have z7:=hF7.size
     have hB7:=(hB5.ext hE6).fr hF7 (fun e=>(hB5.ext hE6).ne_ hR6 (by decide) e)
     have hL7:=(hL5'.ext hE6).fr hF7 (fun e=>(hL5'.ext hE6).ne_ hR6 (by decide) e)
     have hrb : ∀ b,(Value.slice Ar rl.length cr).ownBlock = some b → b < w'.heap.size:=fun b hb=>(ho.blk hb).2
     have ho7:=(ho5.ext hE6).fr hF7 fun b hb e=>by have:=hrb b hb;have e : b = g11:=e;omega
     have hk7 : ∀ x ∈ rl,NdK w7 x.nd:=fun y hy=>((hk5 y hy).ext hE6).fr hF7 (Away.one hR6 (by decide))
     have hwh7 : Own w7 w.heap.size 5 (.slice Aw (bs s.whole).length cw) (bs s.whole):=Own.fr (Own.ext hwh5 hE6) hF7 fun b hb e=>by obtain ⟨_,cs,hc⟩:=own_ty8 (Own.ext hwh5 hE6) b hb;exact hc.ne_ hR6 (by decide) e
     have hEn7:=(hEn5.ext hE6).fr hF7 (fun e=>(hEn5.ext hE6).ne_ hR6 (by decide) e)
     have hx7 : NdO w7 w.heap.size ⟨xn,.slice A1 xn.attrs.length c1,.slice A2 xn.acl.length c2,.slice A3 xn.data.length c3⟩:=⟨OwnZ.mono (hxo.a.fr hF7 fun b hb e=>by obtain ⟨cs,hc⟩:=hxo.a.typ hb;exact hc.ne_ hR6 (by decide) e) (by omega),OwnZ.mono (hxo.c.fr hF7 fun b hb e=>by obtain ⟨cs,hc⟩:=hxo.c.typ hb;exact hc.ne_ hR6 (by decide) e) (by omega),OwnZ.mono (hxo.d.fr hF7 fun b hb e=>by obtain ⟨cs,hc⟩:=hxo.d.typ hb;exact hc.ne_ hR6 (by decide) e) (by omega)⟩
     have hxl : xn.data.length = x.n.data.length:=by rw [hxb];exact hdl
     have q10 : w7.cell? ⟨g11,10,none⟩ = some (.slice A3 xn.data.length c3):=hR7.cell 10
     have hlg : (s.lead.set s.seen (rl.length : Int)).getD e.node.toNat 0 = (rl.length : Int):=by
      rw [hnew,Int.toNat_natCast,List.getD_eq_getElem?_getD,List.getElem?_set_self (by omega)];rfl
     have hsb : s.whole.length ≤ 1000000 * s.seen:=hwl
     have hxb1:=hn x.n hxm
     by_cases hd : x.n.data = []
     ·have hx0 : xn.data.length = 0:=by rw [hxl,hd];rfl
      rw [hx0] at q10
      refine goL ?_
      refine tfin ⟨(.slice Aw (bs s.whole).length cw,⟨xn,.slice A1 xn.attrs.length c1,.slice A2 xn.acl.length c2,.slice A3 xn.data.length c3⟩,0),?_,?_⟩
      ·rw [es']
       exact sub ⟨rfl,rfl,rfl,rfl,ieq (by dsimp only;omega),rfl,rfl,rfl⟩
      ·rw [es',hd]
       exact ⟨hB7,hL7,ho7,hk7,by simpa [catP] using hwh7,hE07,hEn7,hR7,hx7,by show s.recs ++ _ = _;rw [hp,hlg,hxb];rfl,⟨_,hnx⟩,(by show s.seen + 1 ≤ _;omega),(by show (s.whole ++ []).length ≤ 1000000 * (s.seen + 1);rw [List.append_nil];omega),by show (s.lead.set _ _).length = _;rw [List.length_set];exact hll⟩
     ·have hx0 : 0 < xn.data.length:=by rw [hxl];exact List.length_pos_iff.2 hd
      refine goL ?_
      refine xstb hR7 rfl rfl (by kernel_rfl) rfl rfl (fun w8 hR8 hF8=>?_)
      have hR8' : Blk w8 g11 49 (rcC ⟨e.path,0,⟨xn,.slice A1 xn.attrs.length c1,.slice A2 xn.acl.length c2,.slice A3 xn.data.length c3⟩,(s.whole.length : Int)⟩).toArray:=by
       rw [← bs_len s.whole];exact hR8
      have hE08 : Ext w w8:=hN hE07 hF8 (by omega)
      have hB8:=hB7.fr hF8 (fun e=>hB7.ne_ hR7 (by decide) e)
      have hL8:=hL7.fr hF8 (fun e=>hL7.ne_ hR7 (by decide) e)
      have ho8:=ho7.fr hF8 fun b hb e=>by have:=hrb b hb;have e : b = g11:=e;omega
      have hk8 : ∀ x ∈ rl,NdK w8 x.nd:=fun y hy=>(hk7 y hy).fr hF8 (Away.one hR7 (by decide))
      have hwh8 : Own w8 w.heap.size 5 (.slice Aw (bs s.whole).length cw) (bs s.whole):=Own.fr hwh7 hF8 fun b hb e=>by obtain ⟨_,cs,hc⟩:=own_ty8 hwh7 b hb;exact hc.ne_ hR7 (by decide) e
      have hEn8:=hEn7.fr hF8 (fun e=>hEn7.ne_ hR7 (by decide) e)
      have hx8 : NdO w8 w.heap.size ⟨xn,.slice A1 xn.attrs.length c1,.slice A2 xn.acl.length c2,.slice A3 xn.data.length c3⟩:=⟨hx7.a.fr hF8 fun b hb e=>by obtain ⟨cs,hc⟩:=hx7.a.typ hb;exact hc.ne_ hR7 (by decide) e,hx7.c.fr hF8 fun b hb e=>by obtain ⟨cs,hc⟩:=hx7.c.typ hb;exact hc.ne_ hR7 (by decide) e,hx7.d.fr hF8 fun b hb e=>by obtain ⟨cs,hc⟩:=hx7.d.typ hb;exact hc.ne_ hR7 (by decide) e⟩
      have r1 : w8.cell? ⟨g,1,none⟩ = some (.slice (some ⟨b',o',none⟩) t.ns.length c'):=by rw [← hlen];exact hB8.cell 1
      have r2 : w8.cell? ⟨g10,1,none⟩ = some (.int .i64 e.node):=hEn8.cell 1
      have r3 : w8.cell? ⟨b',o' + s.seen * 12 + 8,none⟩ = some (.slice Ad x.n.data.length cd):=by rw [← hvd];exact hE08.cell (hcx 8 _ rfl)
      have hdr0:=hxin.d
      rw [hvd] at hdr0
      have hcl:=catP_len x.n.data
      repeat' (first | refine xizq s.seen (o' + s.seen * 12) rfl rfl rfl hnew rfl (by omega) ?_ | refine go1L ?_ | fail)
      refine xcallE rfl rfl (gather_does w w8 _ _ s.whole x.n.data hE08 hdr0 hwh8 (by omega)) (fun r w9 h9=>?_)
      obtain ⟨hwh9,hF9⟩:=h9
      have hE09:=Ty8.ext hE08 hF9
      have n8 : ∀ {b ty : Nat} {cs : Array Value},Blk w8 b ty cs → ty ≠ 5 → ¬ Ty8 w8 w.heap.size b:=fun h hne hT=>by
       obtain ⟨_,cs,hc⟩:=hT
       exact h.ne_ hc hne rfl
      have aw8 : Away w8 (Ty8 w8 w.heap.size):=fun b hb=>⟨_,hb.2.choose,hb.2.choose_spec,by decide⟩
      refine goL ?_
      refine tfin ⟨(r,⟨xn,.slice A1 xn.attrs.length c1,.slice A2 xn.acl.length c2,.slice A3 xn.data.length c3⟩,(s.whole.length : Int)),?_,?_⟩
      ·rw [es']
       exact sub ⟨rfl,rfl,rfl,rfl,ieq (by dsimp only;omega),rfl,rfl,rfl⟩
      ·rw [es',if_neg hd]
       exact ⟨hB8.fr hF9 (n8 hB8 (by decide)),hL8.fr hF9 (n8 hL8 (by decide)),ho8.fr hF9 (fun b hb=>by obtain ⟨cs,hc⟩:=ho8.typ hb;exact n8 hc (by decide)),fun y hy=>(hk8 y hy).fr hF9 aw8,hwh9,hE09,hEn8.fr hF9 (n8 hEn8 (by decide)),hR8'.fr hF9 (n8 hR8' (by decide)),⟨hx8.a.fr hF9 (fun b hb=>by obtain ⟨cs,hc⟩:=hx8.a.typ hb;exact n8 hc (by decide)),hx8.c.fr hF9 (fun b hb=>by obtain ⟨cs,hc⟩:=hx8.c.typ hb;exact n8 hc (by decide)),hx8.d.fr hF9 (fun b hb=>by obtain ⟨cs,hc⟩:=hx8.d.typ hb;exact n8 hc (by decide))⟩,by show s.recs ++ _ = _;rw [hp,hlg,hxb],⟨_,hnx⟩,(by show s.seen + 1 ≤ _;omega),(by show (s.whole ++ catP x.n.data).length ≤ 1000000 * (s.seen + 1);rw [List.length_append];omega),by show (s.lead.set _ _).length = _;rw [List.length_set];exact hll⟩
    ·have hold : ¬ e.node = (s.seen : Int):=fun hh=>by rw [hq.2 hh] at hqf;cases hqf
     have hlts : e.node < (s.seen : Int):=by omega
     rw [if_pos hlts] at hnx
     have es' : s' = ⟨s.recs ++ [⟨e.path,s.lead.getD e.node.toNat 0,ndZ,0⟩],s.whole,s.lead,s.seen⟩:=by rw [hs'];unfold rstp;rw [if_neg hold]
     refine goL ?_
     refine tfin ⟨(.slice Aw (bs s.whole).length cw,ndZV,0),?_,?_⟩
     ·rw [es']
      exact sub ⟨rfl,rfl,rfl,rfl,rfl,rfl,rfl,rfl⟩
     ·rw [es']
      exact ⟨hB4,hL4,ho4,hk4,hwh4,hE04,hEn4,hR4,⟨Ow.nil _ _ _,Ow.nil _ _ _,Ow.nil _ _ _⟩,by rw [hp];rfl,⟨_,hnx⟩,hsn,hwl,hll⟩
   ·rintro ⟨vw',⟨xn,xa,xc,xd⟩,pos'⟩ w5 hM
    obtain ⟨hB5,hL5,ho5,hk5,hwh5,hE05,hEn5,hR5,hx5,hst,hord5,hsn5,hwl5,hll5⟩:=hM
    dsimp only at hwh5 hR5 hx5 hst ⊢
    obtain ⟨Aw',cw',rfl⟩:=own_form hwh5
    obtain ⟨A1,c1,e1,_,_⟩:=hx5.a.form
    obtain ⟨A2,c2,e2,_,_⟩:=hx5.c.form
    obtain ⟨A3,c3,e3,_,_⟩:=hx5.d.form
    dsimp only at e1 e2 e3
    subst e1;subst e2;subst e3
    obtain ⟨kn,hkn⟩:=Int.eq_ofNat_of_zero_le hn0
    have hkl : kn < t.ns.length:=by omega
    have hlk : s'.lead[kn]? = some (s'.lead.getD kn 0):=by rw [List.getD_eq_getElem?_getD,List.getElem?_eq_getElem (by omega)];rfl
    have l1 : w5.cell? ⟨g10,1,none⟩ = some (.int .i64 (kn : Int)):=by rw [← hkn];exact hEn5.cell 1
    have l2 : w5.cell? ⟨gl,0 + kn,none⟩ = some (.int .i64 (s'.lead.getD kn 0)):=by
     rw [hL5.cell,Nat.zero_add,List.getElem?_toArray,List.getElem?_map,hlk];rfl
    refine goL ?_
    refine xstb hR5 rfl rfl (by kernel_rfl) rfl rfl (fun w6 hR6 hF6=>?_)
    have hR6' : Blk w6 g11 49 (rcC ⟨e.path,s'.lead.getD kn 0,⟨xn,.slice A1 xn.attrs.length c1,.slice A2 xn.acl.length c2,.slice A3 xn.data.length c3⟩,pos'⟩).toArray:=hR6
    have hrb : ∀ b,(Value.slice Ar rl.length cr).ownBlock = some b → b < w'.heap.size:=fun b hb=>(ho.blk hb).2
    have hE06 : Ext w w6:=hN hE05 hF6 (by omega)
    have hB6:=hB5.fr hF6 (fun e=>hB5.ne_ hR5 (by decide) e)
    have hL6:=hL5.fr hF6 (fun e=>hL5.ne_ hR5 (by decide) e)
    have ho6:=ho5.fr hF6 fun b hb e=>by have:=hrb b hb;have e : b = g11:=e;omega
    have hk6 : ∀ x ∈ rl,NdK w6 x.nd:=fun y hy=>(hk5 y hy).fr hF6 (Away.one hR5 (by decide))
    have hwh6:=Own.fr hwh5 hF6 fun b hb e=>by obtain ⟨_,cs,hc⟩:=own_ty8 hwh5 b hb;exact hc.ne_ hR5 (by decide) e
    have hx6 : NdK w6 ⟨xn,.slice A1 xn.attrs.length c1,.slice A2 xn.acl.length c2,.slice A3 xn.data.length c3⟩:=(NdO.k hx5).fr hF6 (Away.one hR5 (by decide))
    refine goL ?_
    refine xlda (t:=49) hR6' rfl rfl ?_
    refine xbz1 sl_recs rfl rfl (by decide) (by decide) (fun w7 hB7 hE7 hs7=>?_)
    have ho7:=ho6.ext hE7
    have hE07:=hE06.t hE7
    have z7:=hE07.size
    refine xapz (B:=w.heap.size) (news:=rcC ⟨e.path,s'.lead.getD kn 0,⟨xn,.slice A1 xn.attrs.length c1,.slice A2 xn.acl.length c2,.slice A3 xn.data.length c3⟩,pos'⟩) sl_recs rfl (by decide) rfl ho7 rfl (blk_row hB7 (by decide) rfl) rfl (List.all_eq_true.1 (rfl : (rcC ⟨e.path,s'.lead.getD kn 0,⟨xn,.slice A1 xn.attrs.length c1,.slice A2 xn.acl.length c2,.slice A3 xn.data.length c3⟩,pos'⟩).all (·.oneCell') = true)) (by unfold maxLen;omega) (by omega) (by omega) (fun v8 w8 hO8 hF8 _=>?_)
    have hO8' : Ow rcC 15 w8 w.heap.size 49 v8 (rl ++ [⟨e.path,s'.lead.getD kn 0,⟨xn,.slice A1 xn.attrs.length c1,.slice A2 xn.acl.length c2,.slice A3 xn.data.length c3⟩,pos'⟩]):=Ow.ext1 (l:=rl) (l':=[(⟨e.path,s'.lead.getD kn 0,⟨xn,.slice A1 xn.attrs.length c1,.slice A2 xn.acl.length c2,.slice A3 xn.data.length c3⟩,pos'⟩ : RcV)]) (by simpa using hO8)
    have nb : ∀ {b ty : Nat} {cs : Array Value},Blk w7 b ty cs → ty ≠ 49 → ¬ (Value.slice Ar rl.length cr).ownBlock = some b:=fun h hne hb=>by
     obtain ⟨cs,hc⟩:=ho7.typ hb
     exact h.ne_ hc hne rfl
    have hE08 : Ext w w8:=hE07.trans hF8 fun j hj hb=>by have:=(ho7.blk hb).1;omega
    have hwh7:=Own.ext hwh6 hE7
    have hrec : rsts t.ns (t.es.take (rl.length + 1)) = s':=hstep
    have hlr : (rl ++ [(⟨e.path,s'.lead.getD kn 0,⟨xn,.slice A1 xn.attrs.length c1,.slice A2 xn.acl.length c2,.slice A3 xn.data.length c3⟩,pos'⟩ : RcV)]).length = rl.length + 1:=by simp
    refine goL ?_
    refine tgoto rfl ⟨_,(by show t.es.length - (rl.length + 1) < t.es.length - rl.length;omega),rfl,(rl.length + 1,gl,v8,.slice Aw' (bs s'.whole).length cw',rl ++ [⟨e.path,s'.lead.getD kn 0,⟨xn,.slice A1 xn.attrs.length c1,.slice A2 xn.acl.length c2,.slice A3 xn.data.length c3⟩,pos'⟩]),?_,?_,rfl⟩
    ·dsimp only
     rw [hrec]
     exact sub ⟨rfl,rfl,rfl,rfl,rfl⟩
    ·refine ⟨(by show rl.length + 1 ≤ _;omega),(hB6.ext hE7).fr hF8 (nb (hB6.ext hE7) (by decide)),?_,hgl,hO8',?_,fun y hy=>?_,?_,hE08,?_,?_,?_,?_,hm⟩
     ·show Blk w8 gl _ ((rsts t.ns (t.es.take (rl.length + 1))).lead.map _).toArray
      rw [hrec];exact (hL6.ext hE7).fr hF8 (nb (hL6.ext hE7) (by decide))
     ·show (rl ++ [_]).map RcV.p = (rsts t.ns (t.es.take (rl.length + 1))).recs
      rw [hrec,hst,List.map_append,hkn,Int.toNat_natCast];rfl
     ·have hy : y ∈ rl ++ [⟨e.path,s'.lead.getD kn 0,⟨xn,.slice A1 xn.attrs.length c1,.slice A2 xn.acl.length c2,.slice A3 xn.data.length c3⟩,pos'⟩]:=hy
      rcases List.mem_append.1 hy with hy | hy
      ·exact ((hk6 y hy).ext hE7).fr hF8 (Away.own ho7 (by decide))
      ·rw [List.mem_singleton] at hy
       subst hy
       exact (hx6.ext hE7).fr hF8 (Away.own ho7 (by decide))
     ·show Own w8 _ _ _ (bs (rsts t.ns (t.es.take (rl.length + 1))).whole)
      rw [hrec]
      exact Own.fr hwh7 hF8 fun b hb=>by obtain ⟨_,cs,hc⟩:=own_ty8 hwh7 b hb;exact nb hc (by decide)
     ·show ∃ prev,ordB t.ns prev (rsts t.ns (t.es.take (rl.length + 1))).seen (t.es.drop (rl.length + 1)) = true
      rw [hrec];exact hord5
     ·show (rsts t.ns (t.es.take (rl.length + 1))).seen ≤ _ ∧ (rsts t.ns (t.es.take (rl.length + 1))).seen ≤ 100
      rw [hrec];exact ⟨hsn5,by omega⟩
     ·show (rsts t.ns (t.es.take (rl.length + 1))).whole.length ≤ 1000000 * (rsts t.ns (t.es.take (rl.length + 1))).seen
      rw [hrec];exact hwl5
     ·show (rsts t.ns (t.es.take (rl.length + 1))).lead.length = _
      rw [hrec];exact hll5
  ·have hle : rl.length = t.es.length:=by omega
   have hfin : s = recsM t:=by
    rw [hs,hle,List.take_length];rfl
   have hmt : mayT t = true:=hm
   refine goL ?_
   refine tret3 rfl rfl rfl rfl ⟨hE,?_⟩
   rw [if_pos hmt]
   exact ⟨_,_,rl,rfl,ho,by rw [hp,hfin],hk,by rw [← hfin];exact hwh⟩
 ·intro H
  refine goL ?_
  refine xlda (t:=25) hB1 rfl rfl ?_
  refine xcallE rfl rfl (tmay_does w1 _ _ nvs t (hv0.ext hE1) hn) (fun r w2 h2=>?_)
  obtain ⟨rfl,hE2⟩:=h2
  have hE02:=hE1.t hE2
  have hB2:=hB1.ext hE2
  cases hm : mayT t with
  | false=>
   refine goL ?_
   exact tret3 rfl rfl rfl rfl ⟨hE02,by rw [if_neg (by rw [hm];exact Bool.false_ne_true)]⟩
  | true=>
   have ho : ordB t.ns none 0 t.es = true ∧ t.es.length ≤ 100 ∧ 1 ≤ t.es.length:=by
    exact y58
   have hnl:=ordB_len t.ns t.es none 0 ho.1
   have k1 : w2.cell? ⟨g,1,none⟩ = some (.slice A' t.ns.length c'):=by rw [← hlen];exact hB2.cell 1
   refine goL ?_
   refine xmk sl_ints rfl rfl rfl (by omega) (by rw [Int.toNat_natCast];omega) (by omega) (fun w3 hB3 hE3 hs3=>?_)
   rw [Int.toNat_natCast] at hB3 ⊢
   have z2:=hE02.size
   refine goL ?_
   refine tlabel ?_
   exact tweak (H (0,w2.heap.size,.slice none 0 0,.slice none 0 0,[]) w3 ⟨Nat.zero_le _,hB2.ext hE3,by simpa [rsts,rst0] using hB3,z2,Ow.nil _ _ _,rfl,(fun x hx=>by cases hx),Own.nil _ _ _,hE02.t hE3,⟨none,ho.1⟩,⟨Nat.zero_le _,Nat.zero_le _⟩,Nat.zero_le _,by simp [rsts,rst0],hm⟩) (sub ⟨rfl,rfl,rfl,rfl,rfl⟩)
end
end Go.Proofs.YtbpmlbjapapoaaaGreatDoor.Eng
