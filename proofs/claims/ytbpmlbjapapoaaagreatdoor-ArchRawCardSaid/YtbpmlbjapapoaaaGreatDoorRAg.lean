/-
  Parts of the proof: Ag.
-/
import Derived.Test.YtbpmlbjapapoaaaGreatDoorRB11
import Derived.Test.YtbpmlbjapapoaaaGreatDoorRWp
set_option maxRecDepth 100000
set_option maxHeartbeats 64000000
namespace Go.Proofs.YtbpmlbjapapoaaaGreatDoor.Eng
open Go.RowKit
section
open Go.RowKit Go.Lib
structure LdI (t : Tre) (s : RS) (i : Nat) : Prop where
 ord : ∃ prev,ordB t.ns prev s.seen (t.es.drop i) = true
 ll : s.lead.length = t.ns.length
 rl : s.recs.length = i
 lt : ∀ j e,j < i → t.es[j]? = some e → 0 ≤ e.node ∧ e.node < s.seen
 li : ∀ k : Nat,k < s.seen → ∃ j : Nat,j < i ∧ s.lead.getD k 0 = (j : Int) ∧ (∃ e,t.es[j]? = some e ∧ e.node = k) ∧ ∀ j' < j,∀ e,t.es[j']? = some e → e.node ≠ k
def FirstE (t : Tre) (n : Int) (j : Nat) : Prop:=(∃ e,t.es[j]? = some e ∧ e.node = n) ∧ ∀ j' < j,∀ e,t.es[j']? = some e → e.node ≠ n
theorem LdI.step {t : Tre} {s : RS} {i : Nat} {e : En} (h : LdI t s i) (he : t.es[i]? = some e) : LdI t (rstp t.ns s e) (i + 1) ∧ ∃ j : Nat,j ≤ i ∧ FirstE t e.node j ∧
  (j = i → e.node = (s.seen : Int) ∧ nodeOK (t.ns.getD s.seen default) = true ∧ s.seen < t.ns.length) ∧ (j ≠ i → ¬ e.node = (s.seen : Int) ∧ s.lead.getD e.node.toNat 0 = (j : Int)):=by
 obtain ⟨⟨prev,hord⟩,hll,hrl,hlt,hli⟩:=h
 have hi : i < t.es.length:=(List.getElem?_eq_some_iff.1 he).1
 have hdr : t.es.drop i = e :: t.es.drop (i + 1):=by
  rw [List.drop_eq_getElem_cons hi];congr 1;exact (List.getElem?_eq_some_iff.1 he).2
 rw [hdr] at hord
 obtain ⟨hn0,hnu,hnl,hnx⟩:=ordB_step hord
 have old : ∀ j e',j < i + 1 → t.es[j]? = some e' → j < i ∨ e' = e:=fun j e' hj hj'=>by
  rcases Nat.lt_or_ge j i with h | h
  ·exact .inl h
  ·have : j = i:=by omega
   subst this;rw [he] at hj';exact .inr (Option.some.inj hj').symm
 by_cases hc : e.node = (s.seen : Int)
 ·rw [if_neg (by omega)] at hnx
  have e1 : rstp t.ns s e = ⟨s.recs ++ [⟨e.path,(s.recs.length : Int),bareN (t.ns.getD s.seen default),if (t.ns.getD s.seen default).data = [] then 0 else (s.whole.length : Int)⟩],s.whole ++ catP (t.ns.getD s.seen default).data,s.lead.set s.seen (s.recs.length : Int),s.seen + 1⟩:=by unfold rstp;rw [if_pos hc]
  rw [e1]
  have hfst : ∀ j' < i,∀ e',t.es[j']? = some e' → e'.node ≠ (s.seen : Int):=fun j' hj' e' he' hh=>by
   have:=(hlt j' e' hj' he').2;omega
  refine ⟨⟨⟨_,hnx.2⟩,by simpa using hll,by simp [hrl],fun j e' hj hj'=>?_,fun k hk=>?_⟩,i,Nat.le_refl _,⟨⟨e,he,rfl⟩,fun j' hj' e' he'=>by rw [hc];exact hfst j' hj' e' he'⟩,fun _=>⟨hc,hnx.1,by omega⟩,fun hh=>absurd rfl hh⟩
  ·show 0 ≤ e'.node ∧ e'.node < ((s.seen + 1 : Nat) : Int)
   rcases old j e' hj hj' with h | h
   ·have:=hlt j e' h hj';omega
   ·subst h;omega
  ·have hk : k < s.seen + 1:=hk
   show ∃ j : Nat,j < i + 1 ∧ (s.lead.set s.seen (s.recs.length : Int)).getD k 0 = (j : Int) ∧ _
   by_cases hks : k = s.seen
   ·subst hks
    refine ⟨i,Nat.lt_succ_self _,?_,⟨e,he,hc⟩,hfst⟩
    rw [List.getD_eq_getElem?_getD,List.getElem?_set_self (by omega),hrl];rfl
   ·obtain ⟨j,h1,h2,h3,h4⟩:=hli k (by omega)
    refine ⟨j,by omega,?_,h3,h4⟩
    rw [List.getD_eq_getElem?_getD,List.getElem?_set_ne (fun h=>hks h.symm),← List.getD_eq_getElem?_getD]
    exact h2
 ·rw [if_pos (by omega)] at hnx
  have e1 : rstp t.ns s e = ⟨s.recs ++ [⟨e.path,s.lead.getD e.node.toNat 0,ndZ,0⟩],s.whole,s.lead,s.seen⟩:=by unfold rstp;rw [if_neg hc]
  rw [e1]
  obtain ⟨kn,hkn⟩:=Int.eq_ofNat_of_zero_le hn0
  have hks : kn < s.seen:=by omega
  obtain ⟨j,h1,h2,h3,h4⟩:=hli kn hks
  refine ⟨⟨⟨_,hnx⟩,hll,by simp [hrl],fun j' e' hj hj'=>?_,fun k hk=>?_⟩,j,by omega,⟨by rw [hkn];exact h3,fun j' hj' e' he'=>by rw [hkn];exact h4 j' hj' e' he'⟩,fun hh=>absurd hh (by omega),fun _=>⟨hc,by rw [hkn,Int.toNat_natCast];exact h2⟩⟩
  ·show 0 ≤ e'.node ∧ e'.node < (s.seen : Int)
   rcases old j' e' hj hj' with h | h
   ·exact hlt j' e' h hj'
   ·subst h;omega
  ·obtain ⟨j',g1,g2,g3,g4⟩:=hli k hk
   exact ⟨j',by omega,g2,g3,g4⟩
theorem NdB.fr {S : Nat → Prop} {w0 w w' : World} {x : NdV} (h : NdB w0 w x) (hF : Fr S w w') (hA : ∀ b cs,Blk w b 65 cs → ¬ S b) : NdB w0 w' x:=
 ⟨h.a,h.c,h.d.fr hF (fun b hb=>by obtain ⟨cs,hc⟩:=h.t b hb;exact hA b cs hc),fun b hb=>by obtain ⟨cs,hc⟩:=h.t b hb;exact ⟨cs,hc.fr hF (hA b cs hc)⟩⟩
theorem whole_step {ns : List Nd} (hn : NsOK ns) {s : RS} (e : En) (h : s.whole.length ≤ 1000000 * s.seen) : (rstp ns s e).whole.length ≤ 1000000 * (rstp ns s e).seen ∧ (rstp ns s e).seen ≤ s.seen + 1:=by
 unfold rstp
 split
 ·refine ⟨?_,Nat.le_refl _⟩
  show (s.whole ++ catP (ns.getD s.seen default).data).length ≤ 1000000 * (s.seen + 1)
  rw [List.length_append,catP_len]
  have : bytesP (ns.getD s.seen default).data ≤ 1000000:=by
   rw [List.getD_eq_getElem?_getD]
   cases hg : ns[s.seen]? with
   | none=>exact Nat.zero_le _
   | some n=>exact hn n (List.mem_of_getElem? hg)
  omega
 ·exact ⟨h,Nat.le_succ _⟩
structure RrI (t : Tre) (w : World) (g : Nat) (ve vn : Value) (y : Nat × Value × List RcV) (w' : World) : Prop where
 le : y.1 ≤ t.es.length
 B : Blk w' g 25 #[ve,vn]
 o : Ow rcC 15 w' w.heap.size 49 y.2.1 y.2.2
 p : y.2.2.map RcV.p = (rsts t.ns (t.es.take y.1)).recs
 k : ∀ x ∈ y.2.2,NdB w w' x.nd
 ext : Ext w w'
 l : LdI t (rsts t.ns (t.es.take y.1)) y.1
 wl : (rsts t.ns (t.es.take y.1)).whole.length ≤ 1000000 * (rsts t.ns (t.es.take y.1)).seen
 sn : (rsts t.ns (t.es.take y.1)).seen ≤ y.1
def RRecsR (t : Tre) (w : World) (r : Value) (w' : World) : Prop:=Ext w w' ∧ if mayT t = true then ∃ vr rl,r = .tuple #[vr,.string (su (recsM t).whole),.int .i64 0] ∧ Ow rcC 15 w' w.heap.size 49 vr rl ∧ rl.map RcV.p = (recsM t).recs ∧ (∀ x ∈ rl,NdB w w' x.nd) else r = .tuple #[.slice none 0 0,.string (su []),.int .i64 1]
structure RmI (t : Tre) (w : World) (vr : Value) (rl : List RcV) (s' : RS) (e : En) (g g10 : Nat) (ve vn : Value) (y : NdV × Int) (w' : World) : Prop where
 B : Blk w' g 25 #[ve,vn]
 o : Ow rcC 15 w' w.heap.size 49 vr rl
 k : ∀ x ∈ rl,NdB w w' x.nd
 ext : Ext w w'
 R : ∃ j : Int,Blk w' g10 49 (rcC ⟨e.path,j,y.1,y.2⟩).toArray ∧ s'.recs = rl.map RcV.p ++ [⟨e.path,j,y.1.n,y.2⟩]
 x : NdB w w' y.1
attribute [local irreducible] xs T
theorem rrecs_does (w : World) (ve vn : Value) (nvs : List NdV) (t : Tre) (hv : TrV w ve vn nvs t) (hn : TsOK t) (hL : ∀ n ∈ t.ns,NdL n) (hns : t.ns.length ≤ 1000000) : Does Tryz.prog 9 #[.agg #[ve,vn]] w (RRecsR t w):=by
 refine does1 Tryz.func9 rfl (by kernel_rfl) ?_
 have hN : ∀ {a b c : World} {g : Nat},Ext a b → Fr (· = g) b c → a.heap.size ≤ g → Ext a c:=fun h1 h2 hg=>h1.trans h2 fun j hj e=>absurd hj (by omega)
 have hv0:=hv
 obtain ⟨A,c,rfl,hc1,hc2,hA⟩:=hv.e.op enC_len
 obtain ⟨A',c',rfl,hc1',hc2',hA'⟩:=hv.n.op ndC_len
 have hlen:=hv.len
 refine goL ?_
 refine xbox rfl (fun w1 hB1 hE1 hs1=>?_)
 obtain ⟨g,hg⟩ : ∃ g,g = w.heap.size:=⟨_,rfl⟩
 rw [← hg] at hB1 hs1 ⊢
 have hB1 : Blk w1 g 25 #[.slice A t.es.length c,.slice A' nvs.length c']:=hB1
 refine goL ?_
 refine xlda (t:=25) hB1 rfl rfl ?_
 refine goL ?_
 refine xcall rfl rfl (rtmay_does w1 _ _ nvs t (hv0.ext hE1) hn hns) (fun r w2 h2=>?_)
 obtain ⟨rfl,hE2⟩:=h2
 have hE02:=hE1.t hE2
 have hB2:=hB1.ext hE2
 cases hm : mayT t with
 | false=>
  refine goL ?_
  exact tret3 rfl rfl rfl rfl ⟨hE02,by rw [if_neg (by rw [hm];exact Bool.false_ne_true)];rfl⟩
 | true=>
 have ho : ordB t.ns none 0 t.es = true ∧ t.es.length ≤ 100 ∧ 1 ≤ t.es.length:=by
  exact y58
 have hnl:=ordB_len t.ns t.es none 0 ho.1
 refine goL ?_
 refine tloop (α:=Nat × Value × List RcV) (fun y=>[(1,.pointer (some ⟨g,0,none⟩)),(5,y.2.1),(6,.string (su (rsts t.ns (t.es.take y.1)).whole)),(7,.int .i64 (y.1 : Int))]) (RrI t w g (.slice A t.es.length c) (.slice A' nvs.length c')) (fun y=>t.es.length - y.1) (0,.slice none 0 0,[]) (sub ⟨rfl,rfl,rfl,rfl⟩) ⟨Nat.zero_le _,hB2,Ow.nil _ _ _,rfl,(fun x hx=>by cases hx),hE02,⟨⟨none,ho.1⟩,by simp [rsts,rst0],rfl,fun j e hj=>absurd hj (by omega),fun k hk=>absurd hk (by simp [rsts,rst0])⟩,Nat.zero_le _,Nat.zero_le _⟩ ?_
 rintro ⟨i,vr,rl⟩ w' ⟨hi,hB,hO,hp,hk,hE,hl,hwl,hsn⟩
 dsimp only at hi hO hp hk hl hwl hsn ⊢
 obtain ⟨s,hs⟩ : ∃ s,s = rsts t.ns (t.es.take i):=⟨_,rfl⟩
 rw [← hs] at hp hl hwl hsn ⊢
 have z0:=hE.size
 have k0 : w'.cell? ⟨g,0,none⟩ = some (.slice A t.es.length c):=hB.cell 0
 obtain ⟨Ar,cr,rfl,_,_⟩:=hO.form
 by_cases hlt : i < t.es.length
 ·obtain ⟨b,o,e,rfl,_,he,hdr,hce⟩:=hA.at_ hlt
  have hstep:=rsts_take (ns:=t.ns) he
  rw [← hs] at hstep
  obtain ⟨hl',j0,hj0,⟨⟨ej,hej,hejn⟩,hfst⟩,hnew,hold⟩:=hl.step he
  refine gz4 ?_
  refine xldz (cs:=enC e) rfl rfl (fun j u hu=>hE.cell (hce j u hu)) ?_
  refine xalloc (z:=.agg #[.string ⟨#[]⟩,.int .i64 0]) (by kernel_rfl) (fun w3 hB3 hE3 hs3=>?_)
  refine xsta (cs:=(enC e).toArray) hB3 rfl rfl rfl rfl (one_cells (l:=enC e) rfl) (fun w4 hB4 hF4=>?_)
  have hE4 : Ext w' w4:=hN hE3 hF4 (Nat.le_refl _)
  obtain ⟨g8,hg8⟩ : ∃ g8,g8 = w'.heap.size:=⟨_,rfl⟩
  rw [← hg8] at hB4 ⊢
  refine goL ?_
  refine tloop (α:=Nat) (fun y=>[(1,.pointer (some ⟨g,0,none⟩)),(5,.slice Ar rl.length cr),(6,.string (su s.whole)),(7,.int .i64 (i : Int)),(8,.pointer (some ⟨g8,0,none⟩)),(9,.int .i64 (y : Int))]) (fun y w''=>y ≤ j0 ∧ Ext w4 w'') (fun y=>j0 - y) 0 (sub ⟨rfl,rfl,rfl,rfl,rfl,rfl⟩) ⟨Nat.zero_le _,Fr.refl _ _⟩ ?_
  rintro k w5 ⟨hk0,hE5⟩
  have hE45 : Ext w' w5:=hE4.t hE5
  have hEd : Ext w w5.drew:=(hE.t hE45).t (Fr.drew _ _)
  have hkl : k < t.es.length:=by omega
  obtain ⟨b',o',ek,hbk,_,hek,_,hcek⟩:=hA.at_ hkl
  injection hbk with hbk
  injection hbk with e1 e2 _
  subst e1;subst e2
  have m0 : w5.drew.cell? ⟨g,0,none⟩ = some (.slice (some ⟨b,o,none⟩) t.es.length c):=(hB.ext (hE45.t (Fr.drew noneB _))).cell 0
  have m1 : w5.drew.cell? ⟨b,o + k * 2 + 1,none⟩ = some (.int .i64 ek.node):=hEd.cell (hcek 1 _ rfl)
  have hBg8 : Blk w5.drew g8 53 (enC e).toArray:=hB4.ext (hE5.t (Fr.drew noneB _))
  have m2 : w5.drew.cell? ⟨g8,1,none⟩ = some (.int .i64 e.node):=hBg8.cell 1
  by_cases hkj : k < j0
  ·have hne : ek.node ≠ e.node:=hfst k hkj ek hek
   repeat' (first | refine xizq k (o + k * 2) rfl rfl rfl rfl rfl hkl ?_ | refine go1L ?_ | fail)
   exact tfin ⟨k + 1,sub ⟨rfl,rfl,rfl,rfl,rfl,rfl⟩,⟨hkj,hE5.t (Fr.drew _ _)⟩,(by show j0 - (k + 1) < j0 - k;omega)⟩
  ·obtain rfl : k = j0:=by omega
   obtain rfl : ek = ej:=Option.some.inj (hek.symm.trans hej)
   have m3 : w5.drew.cell? ⟨g8,0,none⟩ = some (.string (su e.path)):=hBg8.cell 0
   repeat' (first | refine xizq k (o + k * 2) rfl rfl rfl rfl rfl hkl ?_ | refine go1L ?_ | fail)
   refine xbd (cells:=(rcC ⟨e.path,(k : Int),ndZV,0⟩).toArray) rfl (by kernel_rfl) ?_
   refine xalloc (z:=.agg (rcC ⟨[],0,ndZV,0⟩).toArray) (by kernel_rfl) (fun w6 hB6 hE6 hs6=>?_)
   refine xsta hB6 rfl rfl (by kernel_rfl) rfl (one_cells (l:=rcC ⟨e.path,(k : Int),ndZV,0⟩) rfl) (fun w7 hR7 hF7=>?_)
   have hE57 : Ext w5.drew w7:=hN hE6 hF7 (Nat.le_refl _)
   obtain ⟨g10,hg10⟩ : ∃ g10,g10 = w5.drew.heap.size:=⟨_,rfl⟩
   rw [← hg10] at hR7 ⊢
   have hE7 : Ext w w7:=hEd.t hE57
   have hE'7 : Ext w' w7:=(hE45.t (Fr.drew _ _)).t hE57
   have hE47 : Ext w4 w7:=(hE5.t (Fr.drew _ _)).t hE57
   have z5:=hEd.size
   have z45:=(hE45.t (Fr.drew noneB _)).size
   have hB7:=hB.ext hE'7
   have hO7:=hO.ext hE'7
   have hk7 : ∀ y ∈ rl,NdB w w7 y.nd:=fun y hy=>(hk y hy).ext hE'7
   have hg87 : Blk w7 g8 53 (enC e).toArray:=hB4.ext hE47
   obtain ⟨s',hs'⟩ : ∃ s',s' = rstp t.ns s e:=⟨_,rfl⟩
   rw [← hs'] at hstep hl'
   refine goL ?_
   refine xeqb rfl rfl (fun q hq=>?_)
   refine gz0 ?_
   refine tcut (α:=NdV × Int) (fun y=>[(1,.pointer (some ⟨g,0,none⟩)),(5,.slice Ar rl.length cr),(6,.string (su s'.whole)),(7,.int .i64 (i : Int)),(10,.pointer (some ⟨g10,0,none⟩))]) (RmI t w (.slice Ar rl.length cr) rl s' e g g10 (.slice (some ⟨b,o,none⟩) t.es.length c) (.slice A' nvs.length c')) ?_ ?_
   ·refine tcs rfl (fun hqt=>?_) (fun hqf=>?_)
    ·have hki:=hq.1 hqt
     obtain ⟨n1,n2,n3⟩:=hnew (by omega)
     obtain ⟨b2,o2,x,rfl,_,hx,_,hcx⟩:=hA'.at_ (i:=s.seen) (by omega)
     have hxn : t.ns.getD s.seen default = x.n:=hv0.getD hx
     have hxi : x ∈ nvs:=List.mem_of_getElem? hx
     have hxm : x.n ∈ t.ns:=List.mem_of_getElem? (hv0.get hx)
     have hxin:=hv0.i x hxi
     rw [hxn] at n2
     have hNd:=hL x.n hxm
     obtain ⟨Ad,cd,hvd,_,_,hD⟩:=hxin.d.op pcC_len
     have es' : s' = ⟨s.recs ++ [⟨e.path,(s.recs.length : Int),bareN x.n,if x.n.data = [] then 0 else (s.whole.length : Int)⟩],s.whole ++ catP x.n.data,s.lead.set s.seen (s.recs.length : Int),s.seen + 1⟩:=by rw [hs'];unfold rstp;rw [if_pos n1,hxn]
     have m1 : w7.cell? ⟨g,1,none⟩ = some (.slice (some ⟨b2,o2,none⟩) nvs.length c'):=hB7.cell 1
     have m2 : w7.cell? ⟨g8,1,none⟩ = some (.int .i64 e.node):=hg87.cell 1
     repeat' (first | refine xizq s.seen (o2 + s.seen * 12) rfl rfl rfl n1 rfl (by omega) ?_ | refine go1L ?_ | fail)
     refine xldz (cs:=ndC x) rfl rfl (fun j u hu=>hE7.cell (hcx j u hu)) ?_
     refine xalloc (z:=.agg (ndC ndZV).toArray) (by kernel_rfl) (fun w8 hB8 hE8 hs8=>?_)
     refine xsta (cs:=(ndC x).toArray) hB8 rfl rfl rfl rfl (one_cells (one_nd hxin)) (fun w9 hN9 hF9=>?_)
     have hE79 : Ext w7 w9:=hN hE8 hF9 (Nat.le_refl _)
     obtain ⟨g11,hg11⟩ : ∃ g11,g11 = w7.heap.size:=⟨_,rfl⟩
     rw [← hg11] at hN9 ⊢
     refine goL ?_
     refine xlda (t:=47) hN9 rfl rfl ?_
     refine goL ?_
     refine xcall rfl rfl (rbare_does w9 x (hxin.ext (hE7.t hE79)) (hn.b x.n hxm) (hn.g x.n hxm) hNd.d) (fun r w10 h10=>?_)
     obtain ⟨x',rfl,hxb,hsh,hNb,hE10⟩:=h10
     have hNw : NdB w w10 x':=by
      rcases hsh with rfl | ⟨e1,e2,e3,e4⟩
      ·exact NdB.nil _ _
      ·exact hNb.back (by rw [e1,e3];exact hxin.a) (by rw [e2,e4];exact hxin.c)
     clear hsh hNb
     obtain ⟨xn,xa,xc,xd⟩:=x'
     obtain ⟨A1,c1,e1,_,_,_⟩:=hNw.a.op attC_len
     obtain ⟨A2,c2,e2,_,_,_⟩:=hNw.c.op acC_len
     obtain ⟨A3,c3,e3,_,_,_⟩:=hNw.d.op pcC_len
     dsimp only at e1 e2 e3 hxb
     subst e1;subst e2;subst e3
     have hE710:=hE79.t hE10
     have hR10:=hR7.ext hE710
     have hN10:=hN9.ext hE10
     have z7:=hE7.size;have z79:=hE710.size
     have hg10l : g10 < g11:=by have:=hR7.lt;omega
     refine goL ?_
     refine xstk (q:=2) (vs:=ndC ⟨xn,.slice A1 xn.attrs.length c1,.slice A2 xn.acl.length c2,.slice A3 xn.data.length c3⟩) (nw:=(rcC ⟨e.path,(k : Int),⟨xn,.slice A1 xn.attrs.length c1,.slice A2 xn.acl.length c2,.slice A3 xn.data.length c3⟩,0⟩).toArray) hR10 rfl rfl (by kernel_rfl) (by show 2 + 12 ≤ 15;decide) (List.all_eq_true.1 (rfl : (ndC ⟨xn,.slice A1 xn.attrs.length c1,.slice A2 xn.acl.length c2,.slice A3 xn.data.length c3⟩).all (·.oneCell') = true)) rfl (fun w11 hR11 hF11=>?_)
     have hE711 : Ext w w11:=hN (hE7.t hE710) hF11 (by omega)
     have nR : ∀ {b ty : Nat} {cs : Array Value},Blk w10 b ty cs → ty ≠ 49 → ¬ b = g10:=fun h hne e=>h.ne_ hR10 hne e
     have hN11:=hN10.fr hF11 (nR hN10 (by decide))
     have hB11:=(hB7.ext hE710).fr hF11 (nR (hB7.ext hE710) (by decide))
     have hrb : ∀ b,(Value.slice Ar rl.length cr).ownBlock = some b → b < w'.heap.size:=fun b hb=>(hO.blk hb).2
     have hO11:=(hO7.ext hE710).fr hF11 fun b hb e=>by have:=hrb b hb;have e : b = g10:=e;omega
     have hk11 : ∀ y ∈ rl,NdB w w11 y.nd:=fun y hy=>((hk7 y hy).ext hE710).fr hF11 fun b cs hc=>nR hc (by decide)
     have hx11:=hNw.fr hF11 fun b cs hc=>nR hc (by decide)
     have q8 : w11.cell? ⟨g11,8,none⟩ = some (.slice Ad x.n.data.length cd):=by rw [← hvd];exact hN11.cell 8
     have hrn : s.recs.length = k:=by rw [hl.rl];omega
     have hbb:=hn.b x.n hxm
     have hlw : s.whole.length ≤ 1000000000:=by have:=ho.2.1;omega
     refine goN ?_
     refine tseq ?_
     refine tcut (α:=Int) (fun _=>[(1,.pointer (some ⟨g,0,none⟩)),(5,.slice Ar rl.length cr),(6,.string (su s.whole)),(7,.int .i64 (i : Int)),(10,.pointer (some ⟨g10,0,none⟩)),(11,.pointer (some ⟨g11,0,none⟩))]) (fun y w''=>y = (if x.n.data = [] then 0 else (s.whole.length : Int)) ∧ Blk w'' g10 49 (rcC ⟨e.path,(k : Int),⟨xn,.slice A1 xn.attrs.length c1,.slice A2 xn.acl.length c2,.slice A3 xn.data.length c3⟩,y⟩).toArray ∧ Fr (· = g10) w11 w'') ?_ ?_
     ·by_cases hz : x.n.data.length = 0
      ·refine goL ?_
       exact tfin ⟨0,sub ⟨rfl,rfl,rfl,rfl,rfl,rfl⟩,by rw [if_pos (List.eq_nil_of_length_eq_zero hz)],hR11,Fr.refl _ _⟩
      ·refine gz2 ?_
       refine xstb hR11 rfl rfl (by kernel_rfl) rfl rfl (fun w12 hR12 hF12=>?_)
       refine goL ?_
       exact tfin ⟨(s.whole.length : Int),sub ⟨rfl,rfl,rfl,rfl,rfl,rfl⟩,by rw [if_neg (fun hh=>hz (by rw [hh];rfl))],hR12,hF12⟩
     ·rintro pos w12 ⟨hpos,hR12,hF12⟩
      have nR12 : ∀ {b ty : Nat} {cs : Array Value},Blk w11 b ty cs → ty ≠ 49 → ¬ b = g10:=fun h hne e=>h.ne_ hR11 hne e
      have hE12 : Ext w w12:=hN hE711 hF12 (by omega)
      have hN12:=hN11.fr hF12 (nR12 hN11 (by decide))
      have hB12:=hB11.fr hF12 (nR12 hB11 (by decide))
      have hO12:=hO11.fr hF12 fun b hb e=>by have:=hrb b hb;have e : b = g10:=e;omega
      have hk12 : ∀ y ∈ rl,NdB w w12 y.nd:=fun y hy=>(hk11 y hy).fr hF12 fun b cs hc=>nR12 hc (by decide)
      have hx12:=hx11.fr hF12 fun b cs hc=>nR12 hc (by decide)
      have r8 : w12.cell? ⟨g11,8,none⟩ = some (.slice Ad x.n.data.length cd):=by rw [← hvd];exact hN12.cell 8
      refine goL ?_
      refine tloop (α:=Nat) (fun y=>[(1,.pointer (some ⟨g,0,none⟩)),(5,.slice Ar rl.length cr),(6,.string (su (s.whole ++ catP (x.n.data.take y)))),(7,.int .i64 (i : Int)),(10,.pointer (some ⟨g10,0,none⟩)),(11,.pointer (some ⟨g11,0,none⟩)),(12,.int .i64 (y : Int))]) (fun y w''=>y ≤ x.n.data.length ∧ w'' = w12) (fun y=>x.n.data.length - y) 0 (sub ⟨rfl,rfl,(by rw [show s.whole ++ catP (x.n.data.take 0) = s.whole from by simp [catP]];rfl),rfl,rfl,rfl,rfl⟩) ⟨Nat.zero_le _,rfl⟩ ?_
      rintro k2 w13 ⟨hk2,rfl⟩
      by_cases hk2l : k2 < x.n.data.length
      ·obtain ⟨bd,od,pc,rfl,_,hpc,_,hcd⟩:=hD.at_ hk2l
       have r9 : w13.cell? ⟨bd,od + k2 * 2 + 1,none⟩ = some (.string (su pc.data)):=hE12.cell (hcd 1 _ rfl)
       have ht:=catP_take hpc
       have hle:=catP_le x.n.data (k2 + 1)
       rw [ht,List.length_append,catP_len x.n.data] at hle
       repeat' (first | refine xizq k2 (od + k2 * 2) rfl rfl rfl rfl rfl hk2l ?_ | refine go1L ?_ | fail)
       refine xuadd rfl rfl (by rw [List.length_append];omega) ?_
       refine goL ?_
       exact tfin ⟨k2 + 1,sub ⟨rfl,rfl,(by rw [ht,← List.append_assoc];rfl),rfl,rfl,rfl,rfl⟩,⟨hk2l,rfl⟩,(by show x.n.data.length - (k2 + 1) < x.n.data.length - k2;omega)⟩
      ·have hk2e : k2 = x.n.data.length:=by omega
       refine goL ?_
       refine tfin ⟨(⟨xn,.slice A1 xn.attrs.length c1,.slice A2 xn.acl.length c2,.slice A3 xn.data.length c3⟩,pos),?_,hB12,hO12,hk12,hE12,⟨(k : Int),hR12,?_⟩,hx12⟩
       ·rw [es',hk2e,List.take_length];exact sub ⟨rfl,rfl,rfl,rfl,rfl⟩
       ·rw [es',hp,hrn,hpos,hxb]
    ·have hne : k ≠ i:=fun hh=>by rw [hq.2 (by rw [hh])] at hqf;cases hqf
     obtain ⟨n1,n2⟩:=hold hne
     have es' : s' = ⟨s.recs ++ [⟨e.path,s.lead.getD e.node.toNat 0,ndZ,0⟩],s.whole,s.lead,s.seen⟩:=by rw [hs'];unfold rstp;rw [if_neg n1]
     refine goL ?_
     refine tfin ⟨(ndZV,0),?_,?_⟩
     ·rw [es'];exact sub ⟨rfl,rfl,rfl,rfl,rfl⟩
     ·rw [es']
      exact ⟨hB7,hO7,hk7,hE7,⟨(k : Int),hR7,by rw [hp,n2];rfl⟩,NdB.nil _ _⟩
   ·rintro ⟨x',pos'⟩ w8 ⟨hB8,hO8,hk8,hE8,⟨j,hR8,hst⟩,hx8⟩
    dsimp only at hR8 hst hx8 ⊢
    obtain ⟨xn,xa,xc,xd⟩:=x'
    obtain ⟨A1,c1,e1,_,_,_⟩:=hx8.a.op attC_len
    obtain ⟨A2,c2,e2,_,_,_⟩:=hx8.c.op acC_len
    obtain ⟨A3,c3,e3,_,_,_⟩:=hx8.d.op pcC_len
    dsimp only at e1 e2 e3
    subst e1;subst e2;subst e3
    have hrl : rl.length = i:=by
     have e1:=congrArg List.length hp
     rw [List.length_map,hl.rl] at e1
     exact e1
    refine goL ?_
    refine xlda (t:=49) hR8 rfl rfl ?_
    refine xbz1 sl_recs rfl rfl (by decide) (by decide) (fun w9 hB9 hE9 hs9=>?_)
    have hO9:=hO8.ext hE9
    have hE09:=hE8.t hE9
    obtain ⟨rn,hrn⟩ : ∃ rn : RcV,rn = ⟨e.path,j,⟨xn,.slice A1 xn.attrs.length c1,.slice A2 xn.acl.length c2,.slice A3 xn.data.length c3⟩,pos'⟩:=⟨_,rfl⟩
    have hrc : (rcC rn).all (·.oneCell') = true:=by rw [hrn];rfl
    have hB9' : Blk w9 w8.heap.size 49 (rcC rn).toArray:=by rw [hrn];exact hB9
    refine xapz (B:=w.heap.size) (news:=rcC rn) sl_recs rfl (by decide) rfl hO9 rfl (blk_row hB9' (by decide) rfl) rfl (List.all_eq_true.1 hrc) (by unfold maxLen;omega) (by omega) hE09.size (fun v10 w10 hO10 hF10 _=>?_)
    have hO10' : Ow rcC 15 w10 w.heap.size 49 v10 (rl ++ [rn]):=Ow.ext1 (l:=rl) (l':=[rn]) (by simpa using hO10)
    have hE10 : Ext w w10:=hE09.trans hF10 fun j hj hb=>by have:=(hO9.blk hb).1;omega
    have nb : ∀ {b ty : Nat} {cs : Array Value},Blk w9 b ty cs → ty ≠ 49 → ¬ (Value.slice Ar rl.length cr).ownBlock = some b:=fun h hne hb=>by
     obtain ⟨cs,hc⟩:=hO9.typ hb
     exact h.ne_ hc hne rfl
    have hw:=whole_step hn.b e hwl
    rw [← hs'] at hw
    have hrec : rsts t.ns (t.es.take (i + 1)) = s':=hstep
    refine goL ?_
    refine tfin ⟨(i + 1,v10,rl ++ [rn]),?_,⟨hlt,(hB8.ext hE9).fr hF10 (nb (hB8.ext hE9) (by decide)),hO10',?_,fun y hy=>?_,hE10,?_,?_,?_⟩,(by show t.es.length - (i + 1) < t.es.length - i;omega)⟩
    ·dsimp only
     rw [hrec]
     exact sub ⟨rfl,rfl,rfl,rfl⟩
    ·show (rl ++ [rn]).map RcV.p = (rsts t.ns (t.es.take (i + 1))).recs
     rw [hrec,hst,List.map_append,hrn];rfl
    ·have hy : y ∈ rl ++ [rn]:=hy
     refine NdB.fr (w:=w9) ?_ hF10 (fun b cs hc=>nb hc (by decide))
     rcases List.mem_append.1 hy with hy | hy
     ·exact (hk8 y hy).ext hE9
     ·rw [List.mem_singleton.1 hy,hrn];exact hx8.ext hE9
    ·show LdI t (rsts t.ns (t.es.take (i + 1))) (i + 1)
     rw [hrec];exact hl'
    ·show (rsts t.ns (t.es.take (i + 1))).whole.length ≤ 1000000 * (rsts t.ns (t.es.take (i + 1))).seen
     rw [hrec];exact hw.1
    ·show (rsts t.ns (t.es.take (i + 1))).seen ≤ i + 1
     rw [hrec];omega
 ·have hie : i = t.es.length:=by omega
  have hfin : s = recsM t:=by
   rw [hs,hie,List.take_length];rfl
  refine goL ?_
  refine tret3 rfl rfl rfl rfl ⟨hE,?_⟩
  rw [if_pos hm]
  exact ⟨_,rl,by rw [hfin],hO,by rw [hp,hfin],hk⟩
end
end Go.Proofs.YtbpmlbjapapoaaaGreatDoor.Eng
