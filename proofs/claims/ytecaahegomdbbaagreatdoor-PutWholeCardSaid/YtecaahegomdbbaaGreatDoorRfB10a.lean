/- Parts of the proof. -/
import Derived.Test.YtecaahegomdbbaaGreatDoorRfB9c
import Derived.Test.YtecaahegomdbbaaGreatDoorRfVd
import Derived.Test.YtecaahegomdbbaaGreatDoorRfVj
set_option linter.all false
set_option maxRecDepth 100000
set_option maxHeartbeats 64000000
namespace Go.Proofs.YtecaahegomdbbaaGreatDoor.gp
open Go.Proofs.Tryz
open Go.RowKit
variable {e:En} {c k:Int} {l:List hJ} {b i j:Nat} {n x y:Nd} {p q:fQ} {D:fQ->Bool} {S U:fY} {m:gZ}
section
open Wr
attribute [local irreducible] xs T
def ChC (w:World) (g:Nat) (d:FuncId) (cap:Array Value) (f:Nd->Nd×Int):Prop:=
 ∀w' (x:gG),Fr (· =g) w w'->ix w' x->G0 x.n->fE x.n.data<=1000000->fL prog d (#[.agg (gz x).toArray]++cap) w' λr a=>∃x',r= .tuple #[.agg (gz x').toArray,.int .i64 (f x.n).2]/\x'.n=(f x.n).1/\(∀u∈gz x',u.oneCell'=true)/\((f x.n).2=0->qH a w'.heap.size x')/\Ext w' a
theorem w3 (w:World) (g m u:Nat) (pos:Int) (s:fQ) (h1:w.cell? ⟨m,0,none⟩=some (.int .i64 pos)) (H:w.cell? ⟨u,0,none⟩=some (.string (su s))) (n1:m≠g) (V:u≠g) (T:s.length<=1000000) (S:pos<=4000000000000000000):
  ChC w g 49 #[.pointer (some ⟨m,0,none⟩),.pointer (some ⟨u,0,none⟩)] (λn=>gB n pos s):=by
 intro w0 x D U O B;refine kz func49 fx fF ?_;have k1:=D.cell h1 n1;have k2:=D.cell H V;refine fA ?_;refine hD fx (λG K C Y=>?_);refine fA ?_;refine gy (z:= .agg tP) fF (λd L v Z=>?_);have a:Ext w0 d:=C.t v;have J:fU d w0.heap.size 37 (gz x).toArray:=fU.ext K v;have q1:=a.cell k1;have q2:=a.cell k2;have ab:=C.size;refine fA ?_;refine gM (t:=37) J fx fx ?_;refine fA ?_;refine fG fx fx (Fo d x pos s (U.ext a) O B T S) (λr aa I=>?_);obtain⟨x',rfl,R,F,hO,y⟩:=I;refine fA ?_;refine hd (L.ext y) fx fx fF fx (fJ (l:=gz x') (lj.2 (iN F))) (λW M E=>?_);have z3:=y.size;have z2:=v.size;have N:Ext w0 W:=(a.t y).trans E λj X e=>by have:j=G.heap.size:=e;omega
 have Q:∀{b:Nat},d.heap.size<=b->b≠G.heap.size:=λh e=>fy
 refine fA ?_;exact hP fx fx fx M fF ⟨x',rfl,R,iN F,(λh=>((hO h).fr E λb B=>Q ((hO h).f b B)).mono fy),N⟩
theorem Iu (w:World) (g d:Nat) (size:Int) (h1:w.cell? ⟨d,0,none⟩=some (.int .i64 size)) (n1:d≠g):
  ChC w g 175 #[.pointer (some ⟨d,0,none⟩)] (λn=>ki n size):=by
 intro w0 x K O L v;refine gK func175 fx fF ?_;have k1:=K.cell h1 n1;refine fA ?_;refine hD fx (λD G y S=>?_);refine fA ?_;refine gy (z:= .agg tP) fF (λa H s T=>?_);have m:Ext w0 a:=y.t s;have F:fU a w0.heap.size 37 (gz x).toArray:=fU.ext G s;have q1:=m.cell k1;have V:=y.size;refine fA ?_;refine gM (t:=37) F fx fx ?_;refine fA ?_;refine fG fx fx (MJ a x size (O.ext m) L v) (λr U E=>?_);obtain⟨x',rfl,N,C,hO,u⟩:=E;refine fA ?_;refine hd (H.ext u) fx fx fF fx (fJ (l:=gz x') (lj.2 (iN C))) (λQ I B=>?_);have z3:=u.size;have z2:=s.size;have J:Ext w0 Q:=(m.t u).trans B λj R e=>by have:j=D.heap.size:=e;omega
 have M:∀{b:Nat},a.heap.size<=b->b≠D.heap.size:=λh e=>fy
 refine fA ?_;exact hP fx fx fx I fF ⟨x',rfl,N,iN C,(λh=>((hO h).fr B λb v=>M ((hO h).f b v)).mono fy),J⟩
end
section
open Wr
def jx (m:gZ) (t:fY) (p:fQ) (f:Nd->Nd×Int):Int:=
 if(hC t p).2≠0 then(hC t p).2 else if(nodeAt t (hC t p).1).kind=1 then 8 else if(nodeAt t (hC t p).1).kind≠2 then 9
 else if(f (nodeAt t (hC t p).1)).2≠0 then(f (nodeAt t (hC t p).1)).2
 else if m.ji<(gd t.ns:Int)-fE (nodeAt t (hC t p).1).data+fE (f (nodeAt t (hC t p).1)).1.data then 10 else 0
def kP (m:gZ) (t:fY) (p:fQ) (f:Nd->Nd×Int):fY:=if jx m t p f=0 then⟨t.es,t.ns.set (hC t p).1.toNat {(f (nodeAt t (hC t p).1)).1 with time:=m.calls}⟩else t
attribute [local irreducible] xs T
theorem rz (w:World) (B g:Nat) (m:gZ) (vf ve vn:Value) (fK:List gG) (t:fY) (p:fQ) (ag:FuncId) (cap:Array Value) (f:Nd->Nd×Int) (h:nC w B g m vf ve vn fK t) (a4:bit qs ag=true) (a3:ChC w g ag cap f)
  (aW:∀n∈t.ns,(f n).2=0->G0 (f n).1/\fE (f n).1.data<=1000000):
  fL prog 48 #[.pointer (some ⟨g,0,none⟩),.string (su p),.func (.func ag) #[] cap] w λr w'=>r= .int .i64 (jx m t p f)/\∃bb,iS w B g vf ve vn fK w' m (kP m t p f) ve vn bb:=by
 refine kz func48 fx fF ?_;have hlen:=h.i.tr.len;have bh:=h.i.k.lt;obtain⟨A,c,rfl,be,bf,_⟩:=h.i.tr.e.op gj;refine fA ?_;refine fI fx fx (mT w g _ vf _ _ fK t p h.i) ?_;rintro r H ⟨rfl,aa⟩;have O:=iS.ext h aa;unfold kP jx
 by_cases S:(hC t p).2=0
 ·rw [if_neg (λh=>h S),S];obtain⟨i,hi,bk⟩:=find_range h.i.r S;rw[hi,jf];obtain⟨E,cN,rfl,bi,bj,bg,_,a1⟩:=gD.go h.o.n fy;obtain⟨y,af⟩:∃y,fK[i]? =some y:=⟨_,kp fy⟩;have ba:nodeAt t (i:Int)=y.n:=by unfold nodeAt;rw[jf];exact h.i.tr.getD af
  rw[ba];have a5:E≠g:=h.i.a E (.inr (.inl rfl));have k5:H.cell? ⟨g,5,none⟩=some (.slice (some ⟨E,0,none⟩) fK.length cN):=O.o.i.k.cell 5;have an:=O.o.o.i y (jS af);have Z:=jS (h.i.tr.get af);refine PI ?_;refine hL (cs:=gz y) fx fF (λj u hu=>aa.cell (a1 _ u (flat_get gI af hu))) ?_;refine fA ?_;refine gy (z:= .agg tP) fF (λbq aK aQ bm=>?_);refine fA ?_;refine hd aK fx fx fF fx (fJ (l:=gz y) (lj.2 (iN an.in))) (λM ah aU=>?_);have K:Ext H M:=aQ.trans aU λj aB e=>by have:j=H.heap.size:=e;omega
  have ab:=O.t (iS.ext O.o K);have z3:=aa.size;have q0:M.cell? ⟨H.heap.size,0,none⟩=some (.int .i64 y.n.kind):=ah.cell 0
  by_cases k1:y.n.kind=1
  ·rw[if_pos k1];refine fA ?_;exact fB fx fx ⟨rfl,_,ab⟩
  rw[if_neg k1]
  by_cases k2:y.n.kind=2
  ·rw [if_neg (λh=>h k2)];refine fA ?_;refine gM (t:=37) ah fx fx ?_;refine fA ?_;refine vQ (vs:=[.agg (gz y).toArray]) fx fx a4 (a3 M y (show Ext w M from aa.t K).fr (an.in.ext K) (h.i.l y.n Z) (h.i.s y.n Z)) ?_;rintro r I ⟨v,rfl,ao,a7,aY,U⟩;have ad:=ab.t (iS.ext ab.o U);refine fA ?_;refine gy (z:= .agg tP) fF (λbr aN aT bn=>?_);refine hd aN fx fx fF fx (fJ (l:=gz v) (lj.2 a7)) (λF aO aV=>?_);have V:Ext I F:=aT.trans aV λj aB e=>by have:j=I.heap.size:=e;omega
   have ae:=ad.t (iS.ext ad.o V)
   by_cases T:(f y.n).2=0
   ·rw [if_neg (λh=>h T)];have aL:=(ah.ext U).ext V;have hq:fU F.drew H.heap.size 37 (gz y).toArray/\fU F.drew I.heap.size 37 (gz v).toArray/\F.drew.cell? ⟨g,0,none⟩=some (.int .i64 m.ji):=⟨aL.drew,aO.drew,ae.o.i.k.cell 0⟩;refine fA ?_;refine kZ [45,48,54] (λw'=>fU w' H.heap.size 37 (gz y).toArray/\fU w' I.heap.size 37 (gz v).toArray/\w'.cell? ⟨g,0,none⟩=some (.int .i64 m.ji)) fF (by decide+kernel) hq ?_;refine fA ?_;have am:=ae.t (iS.ext ae.o (Fr.drew hG F));refine fI fx fx (Dc F.drew g _ vf _ _ fK t am.o.i) ?_ (λr w' h=>⟨hq.1.ext h.2,hq.2.1.ext h.2,h.2.cell hq.2.2⟩);rintro r aG ⟨rfl,L⟩;have R:=And.intro (hq.1.ext L) (And.intro (hq.2.1.ext L) (L.cell hq.2.2));have aA:=am.t (iS.ext am.o L);have aR:Ext M aG:=((U.t V).t (Fr.drew hG F)).t L;have a9:=(an.in.ext K).ext aR;have ax:=(((aY T).ext V).ext (Fr.drew hG F)).ext L;obtain⟨ak,av⟩:=aW y.n Z T;have bo:=wv h.i.s;have bl:=h.i.ln;have bd:=h.i.s y.n Z;refine fA ?_;refine wZ (cs:=gz y) fx fF (λw' h j u hu=>by rw[iC,h.1.cell,pB];exact hu) ?_;refine fI fx fx (p5 aG y a9 (h.i.s y.n Z)) ?_ (λr w' h=>⟨R.1.ext h.2,R.2.1.ext h.2,h.2.cell R.2.2⟩);rintro r bc ⟨rfl,J⟩;have Q:=And.intro (R.1.ext J) (And.intro (R.2.1.ext J) (J.cell R.2.2));have ay:=aA.t (iS.ext aA.o J);refine fA ?_;refine wZ (cs:=gz v) fx fF (λw' h j u hu=>by rw[iC,h.2.1.cell,pB];exact hu) ?_;refine fI fx fx (p5 bc v (ax.in.ext J) (by rw[ao];exact av)) ?_ (λr w' h=>⟨Q.1.ext h.2,Q.2.1.ext h.2,h.2.cell Q.2.2⟩);rintro r aE ⟨rfl,N⟩;have a8:=And.intro (Q.1.ext N) (And.intro (Q.2.1.ext N) (N.cell Q.2.2));have az:=ay.t (iS.ext ay.o N);have aw:=(ax.ext J).ext N;have ap:=a8.2.1;have a0:fE v.n.data=fE (f y.n).1.data:=by rw[ao]
    rw[a0];have aS:Ext I aE:=(((V.t (Fr.drew hG F)).t L).t J).t N;have bs:=U.size
    by_cases aC:m.ji<(gd t.ns:Int)-fE y.n.data+fE (f y.n).1.data
    ·rw[if_pos aC,if_neg fV]
     repeat' (first|refine rO rfl rfl (λ_ h=>h.2.2) ?_|refine fT ?_|fail)
     exact fB fx fx ⟨rfl,_,az⟩
    ·rw[if_neg aC,if_pos rfl]
     repeat' (first|refine rO rfl rfl (λ_ h=>h.2.2) ?_|refine fT ?_|fail)
     refine fI fx fx (tC aE g _ vf _ _ az.o.i.k) ?_;rintro r D ⟨rfl,rfl⟩;refine fA ?_;refine iq ap fx fx fF fx fx (λD aH ar=>?_);have aI:fU D I.heap.size 37 (gz ⟨h7 v.n m.calls,v.va,v.vc,v.vd⟩).toArray:=aH;have a2:=Fr.drew hG D;have ai:Ext D D.drew:=a2;have aq:Ext I D.drew:=(aS.trans ar λj aB e=>by have:j=I.heap.size:=e;omega).t ai;have G:=ad.t (iS.ext ad.o aq);have al:=(aw.fr ar λb C=>aw.ne ap fV fV fV C).ext ai;have W:qH D.drew M.heap.size ⟨h7 v.n m.calls,v.va,v.vc,v.vd⟩:=⟨al.a,al.c,al.d⟩;have aJ:=aI.ext ai;have bp:D.drew.cell? ⟨g,5,none⟩=some (.slice (some ⟨E,0,none⟩) fK.length cN):=G.o.i.k.cell 5;have aM:B<=M.heap.size:=by have h1:=h.b;have:=K.size;omega
     refine fA ?_;refine gM (t:=37) aJ fx fx ?_;refine PI ?_;refine Le gI i G.o.o.n fx fx fx fF (iN W.in) fy (λaF aX aj=>?_);have au:Fr (DG g (.slice A t.es.length c) (.slice (some ⟨E,0,none⟩) fK.length cN)) D.drew aF:=aj.mono λb _ C=> .inr (.inr (by have:b=E:=C;rw[this];rfl))
     have a6:h7 v.n m.calls=h7 (f y.n).1 m.calls:=by rw[ao]
     have aD:∀n∈t.ns.set i (h7 (f y.n).1 m.calls),n∈t.ns∨n=h7 (f y.n).1 m.calls:=λn X=>AB X
     have aP:Ext H D.drew:=(K.t U).t aq
     have aZ:iS H B g vf (.slice A t.es.length c) (.slice (some ⟨E,0,none⟩) fK.length cN) fK aF m ⟨t.es,t.ns.set i (h7 (f y.n).1 m.calls)⟩ (.slice A t.es.length c) (.slice (some ⟨E,0,none⟩) fK.length cN) (fK.set i ⟨h7 v.n m.calls,v.va,v.vc,v.vd⟩):=
      ⟨G.o.step au rfl (G.o.i.k.fr aj (λe=>a5 e.symm)) (G.o.o.e.fr aj λb C e=>G.o.o.e.apart G.o.o.n fV C (by have:b=E:=e;rw[this];rfl)) aX
       (λx Y=>(AB Y).elim (G.o.o.i x) λe=>by rw[e];exact W.mono aM) (by rw[qu,h.o.m,a6]) (by rw[mo];exact h.i.r) h.i.h
       (λn X=>(aD n X).elim (h.i.l n) λe=>by rw[e];exact⟨ak.a,ak.c,ak.d⟩) (λn X=>(aD n X).elim (h.i.s n) λe=>by rw[e];exact av) h.i.le (by rw[mo];exact h.i.ln),aP.fr.t au,λ_ C=> .inl C,λx Y b C=>?_⟩
     ·refine fA ?_;exact fB fx fx ⟨rfl,_,O.t aZ⟩
     ·rcases AB Y with Y|rfl
      ·exact .inl ⟨x,Y,C⟩
      ·refine .inr ?_;have z5:=K.size;rcases C with C|C|C
       ·have:=(W.a.gH C).1;omega
       ·have:=(W.c.gH C).1;omega
       ·have:=(W.d.gH C).1;omega
   ·rw[if_pos T,if_neg T];refine fA ?_;exact fB fx fx ⟨rfl,_,ae⟩
  ·rw[if_pos k2];refine fA ?_;exact fB fx fx ⟨rfl,_,ab⟩
 ·rw[if_pos S,if_neg S];refine fA ?_;exact fB fx fx ⟨rfl,_,O⟩
end
section
structure lU (t:fY):Prop where
 f:ya t
 u:∀i:Nat,i<t.ns.length->∃e∈t.es,e.node=(i:Int)
theorem uH {ns:List Nd} {n':Nd} (hk:n'.kind=(ns.getD i default).kind) (k:Int):gf (ns.set i n') k=gf ns k:=by
 grind [gf,Int.toNat,List.getElem?_eq_none]
theorem lU.set {t:fY} (h:lU t) {i:Nat} {n':Nd} (hk:n'.kind=(t.ns.getD i default).kind) (x:fH n'=true):lU ⟨t.es,t.ns.set i n'⟩:=by
 refine⟨⟨⟨λe he=>by dsimp only;rw[mo];exact h.f.g.inr e he,h.f.g.len,h.f.g.path,h.f.g.nd,?_,λe he n=>?_,λe he=>?_,λe he m=>h.f.g.dir e he (by grind [uH])⟩,h.f.a⟩,λj w=>h.u j fS⟩
 ·obtain⟨e,he,s,m⟩:=h.f.g.root
  grind [uH]
 ·obtain⟨d,v,s,m⟩:=h.f.g.par e he n
  grind [uH]
 ·have h1:=h.f.g.inr e he;show fH ((t.ns.set i n').getD e.node.toNat default)=true
  rw[kv,OM];split
  ·grind
  ·rw[←kv];exact h.f.g.node e he
theorem lU.node {t:fY} (h:lU t) {i:Nat} (hi:i<t.ns.length):fH (t.ns.getD i default)=true:=by
 obtain⟨e,he,h1⟩:=h.u i hi;have:=h.f.g.node e he
 grind
theorem Hi (h:gT n=true) (hc:0<=c):gT (h7 n c)=true:=by
 grind [gT,h7]
theorem mY {n':Nd} (h:fH n=true) (hm:gT n'=true) (e:n'.kind=n.kind/\n'.size=n.size/\n'.data=n.data/\n'.target=n.target/\n'.major=n.major/\n'.minor=n.minor):fH n'=true:=by
 grind [fH,ib,jq,jG,jP]
theorem oN (h:fH n=true) (hc:0<=c):fH (h7 n c)=true:=
 mY h (by grind [Hi,fH]) ⟨rfl,rfl,rfl,rfl,rfl,rfl⟩
theorem lU.PS {t:fY} (h:lU t) (p:fQ) (hc:0<=c):lU (kT t p c):=by
 unfold kT tl;cases iL p with
 |none=>exact h
 | some q=>
  dsimp only;cases m:fR t.es q with
  |none=>exact h
  |some k=>
   obtain⟨e,he,_,d⟩:=hB m;have a:=h.f.g.node e he;rw[d]at a;exact h.set fx (oN a hc)
theorem Df:∀(l:List fQ) (x:fQ),iV l (l++[x])=true
 |[],_=>rfl
 |y::r,x=>by rw[qp,iV,if_pos rfl];exact Df r x
theorem NI (e:En) (r:List En) (p:fQ) (k:Int):oH (e::r) p k=if ie e.path p=true then e::oH r p k else⟨p,k⟩::e::r:=by
 grind [oH,B9]
theorem px (es:List En) (p:fQ) (k:Int):(oH es p k).Perm (⟨p,k⟩::es):=by
 grind [oH,List.perm_middle,List.take_append_drop]
theorem Ho {p:fQ} {k:Int} (f:gU p=true):∀{es:List En},es.Pairwise Bl->(∀e∈es,gU e.path=true)->(∀e∈es,e.path≠p)->(oH es p k).Pairwise Bl
 |[],_,_,_=>List.pairwise_singleton _ _
 | e::r,h,hm,g=>by
  rw[jr]at h;rw[NI];split
  ·rename_i d;rw[jr];refine⟨λy a=>?_,Ho f h.2 fS fS⟩;rcases hX.1 ((px r p k).mem_iff.1 a)with rfl|a
   ·exact d
   ·exact h.1 y a
  ·rename_i d;have fW:Bl ⟨p,k⟩ e:=by grind [VB,x8]
   rw[jr,jr];exact⟨λy a=>(hX.1 a).elim (λe'=>e'▸fW) λa=>lL _ _ _ fW (h.1 y a),h⟩
theorem ya.app {t:fY} (h:ya t) (n:Nd):ya ⟨t.es,t.ns++[n]⟩:=by
 have m:∀e∈t.es,(t.ns++[n]).getD e.node.toNat default=t.ns.getD e.node.toNat default:=λe he=>by
  have:=h.g.inr e he
  grind
 have hk:∀e∈t.es,gf (t.ns++[n]) e.node=gf t.ns e.node:=by grind [gf]
 refine⟨⟨λe he=>?_,h.g.len,h.g.path,h.g.nd,?_,λe he s=>?_,λe he=>?_,λe he f=>h.g.dir e he fS⟩,h.a⟩
 ·have:=h.g.inr e he
  grind
 ·obtain⟨e,he,u,f⟩:=h.g.root
  grind
 ·obtain⟨d,v,u,f⟩:=h.g.par e he s
  grind
 ·dsimp only;rw[m e he];exact h.g.node e he
theorem ya.ins {t:fY} (h:ya t) (D:t.es.length<100) (n:gU p=true) (B:∀e∈t.es,e.path≠p) (E:p≠[]->∃d∈t.es,d.path=oF p/\gf t.ns d.node=1) (hk:0<=k/\k<t.ns.length) (x:fH (t.ns.getD k.toNat default)=true) (u:gf t.ns k≠1∨∀e∈t.es,e.node≠k):ya ⟨oH t.es p k,t.ns⟩:=by
 have C:=px t.es p k;have f:∀e,e∈oH t.es p k↔e=⟨p,k⟩∨e∈t.es:=fS;refine⟨⟨λe he=>?_,?_,λe he=>?_,?_,?_,λe he y=>?_,λe he=>?_,λe he w e' m v=>?_⟩,Ho n h.a h.g.path B⟩
 ·rcases(f e).1 he with rfl|he
  ·exact hk
  ·exact h.g.inr e he
 ·grind [List.Perm.length_eq,List.length_cons]
 ·rcases(f e).1 he with rfl|he
  ·exact n
  ·exact h.g.path e he
 ·rw[(C.map (·.path)).nodup_iff,jm,O9];exact⟨fS,h.g.nd⟩
 ·obtain⟨e,he,h1,s⟩:=h.g.root
  grind
 ·rcases(f e).1 he with rfl|he
  ·grind
  ·obtain⟨d,u,h1,s⟩:=h.g.par e he y
   grind
 ·rcases(f e).1 he with rfl|he
  ·exact x
  ·exact h.g.node e he
 ·rcases(f e).1 he with rfl|he
  ·grind
  ·rcases(f e').1 m with rfl|m
   ·grind
   ·exact h.g.dir e he w e' m v
theorem rf (t:fY):∀(f:Nat) (o:Option fQ),jT t f o 7≠0
 |0,_=>by rw[jT];decide
 |_+1,none=>by rw[jT];decide
 | f+1,some q=>by
  rw[jT];split
  ·split
   ·exact rf t f _
   ·decide
  ·exact rf t f _
theorem HG {t:fY} (h:ja t p=0):gU p=true/\(p≠[]->iL p=some (oF p)/\∃d∈t.es,d.path=oF p/\gf t.ns d.node=1):=by
 unfold ja at h;split at h
 ·rename_i hm;refine⟨hm,λn=>?_⟩
  have f:iL p=some (oF p):=by
   unfold iL;rw[if_neg (by grind [qa])]
  refine⟨f,?_⟩;rw[f,jT]at h;cases a:fR t.es (oF p)with
  |none=>grind [absurd,rf]
  |some k=>
   rw[a]at h;dsimp only at h;split at h
   ·rename_i hk;obtain⟨d,m,h1,g⟩:=hB a;exact⟨d,m,h1,by rw[g];exact hk⟩
   ·cases h
 ·cases h
theorem KR {t:fY} (h:sQ t p=0):(∀e∈t.es,e.path≠p)/\t.es.length<100:=by
 unfold sQ at h;split at h
 ·cases h
 ·rename_i a;split at h
  ·cases h
  ·refine⟨p6 mu,fy⟩
theorem E1 (h:fH n=true) (hc:0<=c):fH (iD n c)=true:=by
 unfold fH at h⊢;rw[iO]at h⊢;obtain⟨h1,a⟩:=h;constructor
 ·unfold gT at h1⊢;unfold iD;simp only[iO,decide_eq_true_eq]at h1;obtain⟨⟨⟨⟨⟨⟨⟨⟨h1,a⟩,m⟩,s⟩,_⟩,t⟩,u⟩,v⟩,w⟩:=h1;rw[decide_eq_true h1,decide_eq_true a,decide_eq_true hc];rfl
 ·have d:ib (iD n c)=true:=rfl;have f:jq (iD n c)=jq n:=rfl;have g:jG (iD n c)=jG n:=rfl;have e4:jP (iD n c)=true:=rfl;rw[d,f,g,e4];show(if n.kind=1∨n.kind=6 then _ else if n.kind=2 then _ else if n.kind=3 then true&&jG n&&decide (1<=n.target.length)&&decide (n.target.length<=200)&&n.target.all _ else if n.kind=4∨n.kind=5 then true&&jq n&&decide (0<=n.major)&&decide (n.major<=65535)&&decide (0<=n.minor)&&decide (n.minor<=65535)else false)=true
  grind
theorem Hz {t:fY} (h:lU t) (hc:0<=(gi m).2.2.calls):lU (my m t p n):=by
 unfold my;split
 ·rename_i he;unfold sP at he;split at he
  ·grind
  split at he
  ·grind
  split at he
  ·cases he
  rename_i _ hw d;obtain⟨w,B⟩:=HG (by rw[Az]at hw;exact hw);obtain⟨s,v⟩:=KR he;have y:fH n=true:=by simpa using d
  have a:=h.f.app (iD n (gi m).2.2.calls)
  have x:∀e∈t.es,gf (t.ns++[iD n (gi m).2.2.calls]) e.node=gf t.ns e.node:=λe he=>by
   have:=h.f.g.inr e he
   grind [gf,List.getElem?_append_left]
  unfold pV;refine lU.PS ⟨a.ins (k:=(t.ns.length:Int)) v w s (λh0=>?_) ?_ ?_ (.inr λe he=>?_),λi hi=>?_⟩ p hc
  ·grind
  ·grind
  ·grind [Int.toNat_natCast,List.getElem?_append_right,E1]
  ·have:=h.f.g.inr e he;omega
  ·dsimp only at hi⊢;rw[hQ]at hi;simp only[iA,kh]at hi
   by_cases fW:i<t.ns.length
   ·obtain⟨e,he,h1⟩:=h.u i fW
    grind [px,List.mem_cons_of_mem]
   grind [List.length,px,List.mem_cons_self]
 ·exact h
theorem yl {t:fY} (h:(hC t p).2=0):ja t p=0/\fR t.es p=some (hC t p).1:=by
 grind [hC,absurd,fR]
theorem E8 {t:fY} (h:lU t) (hc:0<=(gi m).2.2.calls):lU (oK m t p q):=by
 unfold oK;split
 ·rename_i he;unfold tb at he;split at he
  ·grind
  split at he
  ·grind
  split at he
  ·cases he
  split at he
  ·grind
  rename_i _ v hk hw;obtain⟨C,D⟩:=HG (by rw[Az]at hw;exact hw);obtain⟨y,B⟩:=KR he;obtain⟨_,x⟩:=yl (by rw[Az]at v;exact v);obtain⟨d,a,E,w⟩:=hB x;have s:=h.f.g.inr d a;have n:=h.f.g.node d a;rw[w]at s n;unfold pV;refine lU.PS ⟨h.f.ins B C y (λh0=>(D h0).2) s n (.inl hk),λi hi=>?_⟩ p hc;obtain⟨e,he,h1⟩:=h.u i hi
  grind [px,List.mem_cons_of_mem]
 ·exact h
theorem uI {t:fY} {e:Nd->Int} {d:Nd->Nd} (h:lU t) (u:∀n,fH n=true->e n=0->gT (d n)=true->fH (d n)=true/\(d n).kind=n.kind):lU (nr m t p e d):=by
 unfold nr;split
 ·rename_i he;unfold nZ at he;split at he
  ·grind
  split at he
  ·grind
  split at he
  ·grind
  split at he
  ·cases he
  rename_i _ a B hm;obtain⟨_,v⟩:=yl (by rw[Az]at a;exact a);obtain⟨x,w,C,y⟩:=hB v;have s:=h.f.g.node x w;rw[y]at s;obtain⟨g1,g2⟩:=u (nodeAt t (hC t p).1) s fy fS;exact h.set g2 g1
 ·exact h
theorem An {t:fY} {f:Nd->Nd×Int} (h:lU t) (hc:0<=m.calls) (u:∀n,fH n=true->(f n).2=0->fH (f n).1=true/\(f n).1.kind=n.kind):lU (kP m t p f):=by
 unfold kP;split
 ·rename_i he;unfold jx at he;split at he
  ·grind
  split at he
  ·cases he
  split at he
  ·cases he
  split at he
  ·grind
  rename_i d _ _ a;obtain⟨_,v⟩:=yl (by rw[Az]at d;exact d);obtain⟨x,w,B,y⟩:=hB v;have s:=h.f.g.node x w;rw[y]at s;obtain⟨g1,g2⟩:=u _ s (by rw[Az]at a;exact a);exact h.set (n':=h7 _ _) g2 (oN g1 hc)
 ·exact h
theorem N6 {ns:List Nd} (a:0<=k) (he:0<=e.node) (d:e.node≠k):(ns.eraseIdx k.toNat).getD (ni k e).node.toNat default=ns.getD e.node.toNat default:=by
 grind [ni,Int.toNat,default]
theorem ya.drop {t:fY} (h:ya t) (hk:0<=k/\k<t.ns.length) (n:∀e∈t.es,e.node≠k):ya ⟨t.es.map (ni k),t.ns.eraseIdx k.toNat⟩:=by
 have C:∀e∈t.es,(t.ns.eraseIdx k.toNat).getD (ni k e).node.toNat default=t.ns.getD e.node.toNat default:=λe he=>N6 hk.1 (h.g.inr e he).1 (n e he)
 have G:∀e∈t.es,gf (t.ns.eraseIdx k.toNat) (ni k e).node=gf t.ns e.node:=by grind [gf]
 have v:(t.es.map (ni k)).map (·.path)=t.es.map (·.path):=by rw[sH];exact zC λe _=>pQ k e
 refine⟨⟨λe he=>?_,?_,λe he=>?_,?_,?_,λe he u=>?_,λe he=>?_,λe he F e' B m=>?_⟩,vr v.symm h.a⟩
 ·obtain⟨x,f,rfl⟩:=lN.1 he;have h1:=h.g.inr x f;have s:=n x f;dsimp only;rw[LR,if_pos fy];unfold ni;split<;>grind
 ·dsimp only;rw[jF];exact h.g.len
 ·obtain⟨x,f,rfl⟩:=lN.1 he;rw[pQ];exact h.g.path x f
 ·dsimp only;rw[v];exact h.g.nd
 ·obtain⟨e,he,h1,s⟩:=h.g.root
  grind [List.mem_map_of_mem,pQ]
 ·obtain⟨x,f,rfl⟩:=lN.1 he;rw[pQ]at u⊢;obtain⟨d,E,h1,s⟩:=h.g.par x f u
  grind [List.mem_map_of_mem,pQ]
 ·obtain⟨x,f,rfl⟩:=lN.1 he;dsimp only;rw[C x f];exact h.g.node x f
 ·obtain⟨x,f,rfl⟩:=lN.1 he;obtain⟨y,w,rfl⟩:=lN.1 B;have h1:=n x f;have s:=n y w
  have D:y.node=x.node:=by
   unfold ni at m;split at m<;>split at m<;>(try dsimp only at m)<;>omega
  rw[h.g.dir x f fS y w D]
theorem ya.less {t:fY} (h:ya t) (F:p≠[]) (hk:nE t p=[]):ya ⟨t.es.filter (nB (xx p)),t.ns⟩:=by
 have f:∀e,e∈t.es.filter (nB (xx p))↔e∈t.es/\e.path≠p:=by grind [nB,xx]
 refine⟨⟨λe he=>h.g.inr e ((f e).1 he).1,mn fS h.g.len,λe he=>h.g.path e ((f e).1 he).1,h.g.nd.sublist (List.Sublist.map _ QH),?_,λe he u=>?_,λe he=>h.g.node e ((f e).1 he).1,λe he B e' x y=>h.g.dir e ((f e).1 he).1 B e' ((f e').1 x).1 y⟩,h.a.sublist QH⟩
 ·obtain⟨e,he,h1,s⟩:=h.g.root
  grind
 ·obtain⟨n,D⟩:=(f e).1 he;obtain⟨d,v,h1,s⟩:=h.g.par e n u;refine⟨d,(f d).2 ⟨v,λw=>?_⟩,h1,s⟩
  have C:fZ e.path≠[]:=λh0=>by
   rcases qa.1 h0 with m|m
   ·exact u m
   ·rw[h.g.path e n]at m;cases m
  have E:mO e.path∈nE t p:=by
   unfold nE;refine lN.2 ⟨e,HD.2 ⟨n,?_⟩,rfl⟩;unfold iL;rw[if_neg C,←h1,w];exact decide_eq_true fx
  grind
theorem SU {t:fY} (h:lU t) (C:fR t.es p=some k) (K:p≠[]) (hk:nE t p=[]):lU (Iy t p k):=by
 obtain⟨d,m,n,w⟩:=hB C;have B:=h.f.g.inr d m;rw[w]at B;have D:=h.f.less K hk;have v:∀e,e∈t.es.filter (nB (xx p))↔e∈t.es/\e.path≠p:=by grind [nB,xx]
 have F:(tJ t p).length=(t.es.filter λe=>decide (e.node=k)).length:=by unfold tJ;rw[C];dsimp only;rw[jF]
 have G:d∈t.es.filter λe=>decide (e.node=k):=fS
 unfold Iy;rw[F];split
 ·rename_i h1;obtain⟨z,V⟩:=HR.1 h1
  have J:∀e∈t.es.filter (nB (xx p)),e.node≠k:=λe he R=>by
   obtain⟨N,O⟩:=(v e).1 he;have m1:e∈t.es.filter λe=>decide (e.node=k):=fS
   grind
  refine⟨D.drop B J,λi hi=>?_⟩;dsimp only at hi⊢;rw[LR,if_pos fy]at hi
  have key:∀j:Nat,j<t.ns.length->(j:Int)≠k->∃e∈t.es.filter (nB (xx p)),e.node=(j:Int):=λj H I=>by
   obtain⟨e,he,a⟩:=h.u j H;refine⟨e,(v e).2 ⟨he,λs=>I ?_⟩,a⟩;rw[←a,qo h.f.g.nd he m (s.trans n.symm),w]
  by_cases S:(i:Int)<k
  ·grind [ni,List.mem_map_of_mem]
  ·obtain⟨e,he,a⟩:=key (i+1) fy fy;exact⟨ni k e,wT he,by grind [ni]⟩
 ·rename_i h1;refine⟨D,λi hi=>?_⟩;obtain⟨e,he,a⟩:=h.u i hi
  by_cases s:e.path=p
  ·by_cases hex:∃x∈t.es,x.node=k/\x≠d
   ·obtain⟨x,E,T,L⟩:=hex;have Q:e=d:=qo h.f.g.nd he m (s.trans n.symm);exact⟨x,(v x).2 ⟨E,λM=>L (qo h.f.g.nd E m (M.trans n.symm))⟩,by grind⟩
   ·refine absurd (congrArg List.length (Qe ((rv h.f.g.nd).filter _) G λy U=>?_)) h1
    grind
  grind
theorem SA {t:fY} (h:ti m t p=0):(gi m).2.1=0/\(hC t p).2=0/\p≠[]/\nE t p=[]:=by
 grind [ti,absurd,List.eq_nil_of_length_eq_zero]
theorem GO {t:fY} (h:lU t) (hc:0<=(gi m).2.2.calls):lU (uP m t p):=by
 unfold uP;split
 ·rename_i he;obtain⟨_,a,d,f⟩:=SA he;exact(SU h (yl a).2 d f).PS p hc
 ·exact h
theorem OS {t:fY} (h:gQ t=true) (hi:i<t.ns.length):∃e∈t.es,e.node=(i:Int):=by
 grind [gQ,jB,rY,j1,List.countP_pos_iff]
theorem hy {t:fY} (h:gQ t=true):lU t:=⟨S4 h,by grind [OS]⟩
end
section
theorem P2 {p:hJ} {lo hi:Int} (h0:p.data≠[]) (h1:lo<=p.pos) (a:gO p<=hi):mP lo hi p=some p:=by
 have g:0<p.data.length:=fS;obtain⟨pos,data⟩:=p;unfold gO at a;dsimp only at h1 a g;have d:max lo pos=pos:=fy;have f:min hi (pos+(data.length:Int))=pos+(data.length:Int):=fy;unfold mP gO;dsimp only;rw[d,f,if_pos fy]
 grind [List.length,List.take_length]
theorem zj:∀{l:List hJ} {lo hi:Int},(∀p∈l,p.data≠[]/\lo<=p.pos/\gO p<=hi)->gW l lo hi=l
 |[],_,_,_=>rfl
 |p::r,lo,hi,h=>by
  obtain⟨h0,h1,a⟩:=h p ir;have d:=zj (l:=r) (lo:=lo) (hi:=hi) fS
  grind [gW,P2]
theorem BD:∀{l:List hJ} {lo hi:Int},(∀p∈l,gO p<=lo)->gW l lo hi=[]
 |[],_,_,_=>rfl
 |p::r,lo,hi,h=>by
  have h0:=h p ir;have a:=BD (l:=r) (lo:=lo) (hi:=hi) fS
  grind [gW,mP]
theorem Gm:∀(r:List hJ) (c:hJ),js 1 (c::r)->lS c r=c::r
 |[],_,_=>rfl
 |p::r,c,h=>by
  unfold js at h;rw[jr]at h;have:=h.1 p ir;rw[lS,if_neg fy,Gm r p h.2]
theorem MO (h:js 1 l):jC l=l:=by
 cases l with
 |nil=>rfl
 |cons c r=>exact Gm r c h
theorem W4 {pos:Int} {s:fQ} (hs:js 1 l) (h:∀p∈l,p.data≠[]/\0<=p.pos/\gO p+1<=pos):qN l pos s=l++[⟨pos,s⟩]:=by
 unfold qN;rw[zj fS,BD fS,nk]
 grind [MO,js,List.mem_singleton]
end
section
theorem AA (h:fH n=true):G0 n/\fE n.data<=1000000:=⟨BG h,by have:=(j2 h).1;omega⟩
theorem zL {pos:Int} {s:fQ} (h:(gB n pos s).2=0):fH n=true:=by
 unfold gB at h;split at h
 ·cases h
 ·rename_i h1;cases a:fH n with
  |true=>rfl
  |false=>exact absurd (.inl a) h1
theorem Rh {size:Int} (h:(ki n size).2=0):fH n=true:=by
 unfold ki at h;split at h
 ·cases h
 ·rename_i h1;cases a:fH n with
  |true=>rfl
  |false=>exact absurd (.inl a) h1
def wH (m:gZ) (s:fQ):fQ:=if(gi m).1=2 then s.take (s.length/2)else s
def tt (m:gZ) (t:fY) (p:fQ) (pos:Int) (s:fQ):Int:=
 if(gi m).1≠2/\(gi m).2.1≠0 then(gi m).2.1 else if jx (gi m).2.2 t p (λn=>gB n pos (wH m s))≠0 then jx (gi m).2.2 t p (λn=>gB n pos (wH m s))else(gi m).2.1
def oZ (m:gZ) (t:fY) (p:fQ) (pos:Int) (s:fQ):fY:=if(gi m).1≠2/\(gi m).2.1≠0 then t else kP (gi m).2.2 t p (λn=>gB n pos (wH m s))
def Ak (m:gZ) (t:fY) (p:fQ) (size:Int):Int:=if(gi m).2.1≠0 then(gi m).2.1 else jx (gi m).2.2 t p (λn=>ki n size)
def sZ (m:gZ) (t:fY) (p:fQ) (size:Int):fY:=if(gi m).2.1≠0 then t else kP (gi m).2.2 t p (λn=>ki n size)
theorem iS.off {w v x:World} {B g k:Nat} {vf ve vn d s:Value} {fK a:List gG} {t:fY} (h:iS w B g vf ve vn fK v m t d s a) (u:Fr (· =k) v x) (hk:w.heap.size<=k) (C:∀b,b=g∨vf.ownBlock=some b∨II d s a b->b≠k):iS w B g vf ve vn fK x m t d s a:=
 ⟨h.o.fr u λb y e=>C b y e,h.f.trans u λj D e=>by have:j=k:=e;omega,h.k,h.n⟩
attribute [local irreducible] xs T
theorem JT (w:World) (B g:Nat) (m:gZ) (vf ve vn:Value) (fK:List gG) (t:fY) (p:fQ) (pos:Int) (s:fQ) (h:nC w B g m vf ve vn fK t) (hc:0<=m.calls/\m.calls<=4000000000000000000) (U:s.length<=1000000) (K:pos<=4000000000000000000):
  fL prog 19 #[.pointer (some ⟨g,0,none⟩),.string (su p),.int .i64 pos,.string (su s)] w λr w'=>r= .int .i64 (tt m t p pos s)/\∃X,iS w B g vf ve vn fK w' (gi m).2.2 (oZ m t p pos s) ve vn X:=by
 refine wS func19 fx fF ?_;have ae:=h.i.k.lt;obtain⟨A,c,rfl,ab,ad,_⟩:=h.i.tr.e.op gj;refine fA ?_;refine hD fx (λa O H ag=>?_);refine fA ?_;refine hD fx (λM Q I ah=>?_);have G:Ext w M:=H.t I;have u:=h.ext G;have aa:=H.size;refine fA ?_;refine fI fx fx (lJ M g m vf _ A _ c u.i.k u.i.h u.i.f hc u.i.af) ?_;rintro r C ⟨rfl,R,D⟩;have T:=u.i.put D R (iP m);have v:=(iS.ext h G).t (iS.put u D T (iP m));have k6:fU C w.heap.size 2 #[.int .i64 pos]:=(fU.ext O I).fr D (show ¬w.heap.size=g by omega);have k7:fU C a.heap.size 9 #[.string (su s)]:=fU.fr Q D (show ¬a.heap.size=g by omega);have fW:∀b,b=g∨vf.ownBlock=some b∨II (.slice A t.es.length c) vn fK b->b<w.heap.size:=λb F=>(h.gH F).2
 unfold tt oZ wH
 by_cases hk:(gi m).1=2
 ·have y:¬((gi m).1≠2/\(gi m).2.1≠0):=λh=>h.1 hk
  rw[if_neg y,if_neg y,if_pos hk];have q7:C.cell? ⟨a.heap.size,0,none⟩=some (.string (su s)):=k7.cell 0
  repeat' (first|refine B1 (s.length/2) rfl rfl rfl fy fy ?_|refine iH rfl rfl ?_|refine fT ?_|fail)
  refine iq k7 fx fx fF fx fx (λN S J=>?_);have E:=v.off J aa λb F=>by have:=fW b F;omega
  have W:=fU.fr k6 J (show ¬w.heap.size=a.heap.size by omega);have V:(s.take (s.length/2)).length<=1000000:=by rw[kt];omega
  refine Bi ?_
  refine fI fx fx (rz N B g _ vf _ vn fK t p 49 #[.pointer (some ⟨w.heap.size,0,none⟩),.pointer (some ⟨a.heap.size,0,none⟩)] (λn=>gB n pos (s.take (s.length/2))) E.o fF
   (w3 N g w.heap.size a.heap.size pos (s.take (s.length/2)) (W.cell 0) (fU.cell S 0) fy fy V K)
   (λn _ e=>AA (mA (zL e) _ _))) ?_
  rintro r Z ⟨rfl,Y,x⟩
  by_cases d:jx (gi m).2.2 t p (λn=>gB n pos (s.take (s.length/2)))=0
  ·rw[if_neg (λh=>h d)];rw[d];refine fA ?_;exact fB fx fx ⟨rfl,_,E.t x⟩
  ·rw[if_pos d];refine fA ?_;exact fB fx fx ⟨rfl,_,E.t x⟩
 ·by_cases e:(gi m).2.1=0
  ·have y:¬((gi m).1≠2/\(gi m).2.1≠0):=λh=>h.2 e
   rw[if_neg y,if_neg y,if_neg hk];refine Bi ?_
   refine fI fx fx (rz C B g _ vf _ vn fK t p 49 #[.pointer (some ⟨w.heap.size,0,none⟩),.pointer (some ⟨a.heap.size,0,none⟩)] (λn=>gB n pos s) v.o fF
    (w3 C g w.heap.size a.heap.size pos s (k6.cell 0) (k7.cell 0) fy fy U K)
    (λn _ e=>AA (mA (zL e) _ _))) ?_
   rintro r Z ⟨rfl,Y,x⟩
   by_cases d:jx (gi m).2.2 t p (λn=>gB n pos s)=0
   ·rw[if_neg (λh=>h d)];rw[d];refine fA ?_;exact fB fx fx ⟨rfl,_,v.t x⟩
   ·rw[if_pos d];refine fA ?_;exact fB fx fx ⟨rfl,_,v.t x⟩
  ·have L:(gi m).1≠2/\(gi m).2.1≠0:=⟨hk,e⟩;rw[if_pos L,if_pos L];refine fA ?_;exact fB fx fx ⟨rfl,_,v⟩
theorem N9 (w:World) (B g:Nat) (m:gZ) (vf ve vn:Value) (fK:List gG) (t:fY) (p:fQ) (size:Int) (h:nC w B g m vf ve vn fK t) (hc:0<=m.calls/\m.calls<=4000000000000000000):
  fL prog 116 #[.pointer (some ⟨g,0,none⟩),.string (su p),.int .i64 size] w λr w'=>r= .int .i64 (Ak m t p size)/\∃D,iS w B g vf ve vn fK w' (gi m).2.2 (sZ m t p size) ve vn D:=by
 refine kz func116 fx fF ?_;have H:=h.i.k.lt;obtain⟨A,c,rfl,F,G,_⟩:=h.i.tr.e.op gj;refine fA ?_;refine hD fx (λE v u I=>?_);have h1:=h.ext u;refine fA ?_;refine fI fx fx (lJ E g m vf _ A _ c h1.i.k h1.i.h h1.i.f hc h1.i.af) ?_;rintro r s ⟨rfl,x,a⟩;have C:=h1.i.put a x (iP m);have d:=(iS.ext h u).t (iS.put h1 a C (iP m));have k6:fU s w.heap.size 2 #[.int .i64 size]:=fU.fr v a (show ¬w.heap.size=g by omega);unfold Ak sZ
 by_cases e:(gi m).2.1=0
 ·rw[if_neg (λh=>h e),if_neg (λh=>h e),e];refine Bi ?_
  refine fI fx fx (rz s B g _ vf _ vn fK t p 175 #[.pointer (some ⟨w.heap.size,0,none⟩)] (λn=>ki n size) d.o fF
   (Iu s g w.heap.size size (k6.cell 0) fy)
   (λn _ e=>AA (yd (Rh e) _))) ?_
  rintro r K ⟨rfl,J,y⟩;refine fA ?_;exact fB fx fx ⟨rfl,_,d.t y⟩
 ·rw[if_pos e,if_pos e];refine fA ?_;exact fB fx fx ⟨rfl,_,d⟩
end
section
structure om where
 kind:Int
 path:fQ
 other:fQ
 n:Int
deriving DecidableEq,Inhabited
def ny (p:fQ):List om:=[⟨6,p,[],0⟩,⟨7,p,[],0⟩,⟨8,p,[],0⟩,⟨9,p,[],0⟩,⟨10,p,[],0⟩]
def gx (es:List En) (k:Int):Nat:=es.findIdx λe=>decide (e.node=k)
def mz (l:List hJ):Int:=match l.getLast? with
 |none=>0
 |some p=>gO p
def gY (t:fY) (i:Nat):En:=t.es.getD i default
def Gq (p:fQ) (k:Nat):List om:=(List.range k).map λ(j:Nat)=>⟨3,p,[],(j:Int)⟩
def n3 (p:fQ) (n:Nd):List om:=if n.kind=2 then Gq p n.data.length++(if n.size=mz n.data then[]else[⟨4,p,[],0⟩])else[]
def nI (t:fY) (i:Nat):List om:=
 if(nodeAt t (gY t i).node).kind=1 then[⟨1,(gY t i).path,[],0⟩]
 else if gx t.es (gY t i).node<i then[⟨5,(gY t i).path,(gY t (gx t.es (gY t i).node)).path,0⟩]
 else⟨2,(gY t i).path,[],0⟩::n3 (gY t i).path (nodeAt t (gY t i).node)
def NF (t:fY) (i:Nat):List om:=if(nodeAt t (gY t i).node).kind≠1/\gx t.es (gY t i).node=i then ny (gY t i).path else[]
def NP (t:fY) (d i:Nat):List om:=if(nodeAt t (gY t i).node).kind=1/\(fZ (gY t i).path).length=d then ny (gY t i).path else[]
def nH (t:fY) (D:fQ->Bool) (k:Nat):List om:=((List.range k).drop 1).flatMap λi=>if D (gY t i).path then[]else nI t i
def uw (t:fY) (k:Nat):List om:=(List.range k).flatMap (NF t)
def qI (t:fY) (d k:Nat):List om:=(List.range k).flatMap (NP t d)
def l8 (t:fY):Nat->List om
 |0=>qI t 0 t.es.length
 |d+1=>qI t (d+1) t.es.length++l8 t d
def pO (t:fY) (D:fQ->Bool):List om:=nH t D t.es.length++uw t t.es.length++l8 t 8
def ta (m:gZ) (S:fY) (n:Nd) (s:om):Int×gZ×fY:=
 if s.kind=1∨s.kind=2 then(sP m S s.path n,(gi m).2.2,my m S s.path n)
 else if s.kind=3 then
  if s.n<0∨(n.data.length:Int)<=s.n then(1,m,S)
  else(tt m S s.path (n.data.getD s.n.toNat default).pos (n.data.getD s.n.toNat default).data,(gi m).2.2,oZ m S s.path (n.data.getD s.n.toNat default).pos (n.data.getD s.n.toNat default).data)
 else if s.kind=4 then(Ak m S s.path n.size,(gi m).2.2,sZ m S s.path n.size)
 else if s.kind=6 then(nZ m S s.path (λ_=>0) (pI n.uid n.gid),(gi m).2.2,nr m S s.path (λ_=>0) (pI n.uid n.gid))
 else if s.kind=7 then(nZ m S s.path (λ_=>(lW n.attrs).1) (sG (lW n.attrs).2),(gi m).2.2,nr m S s.path (λ_=>(lW n.attrs).1) (sG (lW n.attrs).2))
 else if s.kind=8 then(nZ m S s.path (λ_=>(j4 n.acl).1) (tA (j4 n.acl).2),(gi m).2.2,nr m S s.path (λ_=>(j4 n.acl).1) (tA (j4 n.acl).2))
 else if s.kind=9 then(nZ m S s.path (λ_=>0) (qT n.mode),(gi m).2.2,nr m S s.path (λ_=>0) (qT n.mode))
 else if s.kind=10 then(nZ m S s.path (λ_=>0) (λx=>h7 x n.time),(gi m).2.2,nr m S s.path (λ_=>0) (λx=>h7 x n.time))
 else(1,m,S)
def nq (m:gZ) (S t:fY) (s:om):Int×gZ×fY:=
 match fR t.es s.path with
 |none=>(1,m,S)
 |some k=>
  if s.kind=5 then(if(fR t.es s.other).isNone then(1,m,S)else(tb m S s.path s.other,(gi m).2.2,oK m S s.path s.other))
  else if s.kind=11 then(ti m S s.path,(gi m).2.2,uP m S s.path)
  else ta m S (nodeAt t k) s
def runM (t:fY):List om->gZ->fY->Int×gZ×fY
 |[],m,S=>(0,m,S)
 |s::l,m,S=>if(nq m S t s).1≠0 then nq m S t s else runM t l (nq m S t s).2.1 (nq m S t s).2.2
theorem HS (t:fY):∀(a b:List om) (m:gZ) (S:fY),runM t (a++b) m S=if(runM t a m S).1≠0 then runM t a m S else runM t b (runM t a m S).2.1 (runM t a m S).2.2
 |[],b,m,S=>rfl
 |s::a,b,m,S=>by
  rw[qp,runM,runM]
  by_cases h:(nq m S t s).1≠0
  ·grind
  ·rw[if_neg h,if_neg h,HS t a b]
theorem u5:∀(a b:List En) (q:fQ),fR (a++b) q=(fR a q).or (fR b q)
 |[],b,q=>rfl
 |e::a,b,q=>by
  rw[qp,fR,fR]
  by_cases h:e.path=q
  ·grind
  ·rw[if_neg h,if_neg h,u5 a b q]
theorem Ov {l:List En} (h:∀e∈l,e.path≠p):fR l p=none:=by
 cases a:fR l p<;>grind [fR,hB,absurd]
theorem ui {es:List En} (h:fR es p=none) (q:fQ):fR (oH es p k) q=if q=p then some k else fR es q:=by
 grind [p6,oH,u5,fR,Ov,List.mem_of_mem_take,List.take_append_drop]
def EqT (x y:Nd):Prop:=h7 x 0=h7 y 0
def Ct (x y:Nd):Prop:=x.kind=y.kind/\x.size=y.size/\x.data=y.data/\x.target=y.target/\x.major=y.major/\x.minor=y.minor
theorem EqT.ct (h:EqT x y):Ct x y:=by
 grind [EqT,h7,Nd.mk.injEq,Ct]
theorem Ct.t {z:Nd} (h:Ct x y) (a:Ct y z):Ct x z:=⟨h.1.trans a.1,h.2.1.trans a.2.1,h.2.2.1.trans a.2.2.1,h.2.2.2.1.trans a.2.2.2.1,h.2.2.2.2.1.trans a.2.2.2.2.1,h.2.2.2.2.2.trans a.2.2.2.2.2⟩
theorem Gs {l:List Nd} (hi:i<l.length):(l.set i x).getD j default=if j=i then x else l.getD j default:=by
 grind
theorem nS:∀{l:List Nd} {i:Nat} (x:Nd),i<l.length->gd (l.set i x)+fE (l.getD i default).data=gd l+fE x.data
 |[],i,x,h=>fS
 |n::l,0,x,_=>by
  grind [fE,gd]
 |n::l,i+1,x,h=>by
  have:=nS (l:=l) (i:=i) x fS
  grind [fE,gd,default]
theorem Ar {t:fY} (hq:iL p=some q) (hk:fR t.es q=some k):kT t p c=⟨t.es,t.ns.set k.toNat (h7 (t.ns.getD k.toNat default) c)⟩:=by
 grind [kT,tl]
structure kH (m:gZ):Prop where
 f:m.mQ=[]
 d:m.down=false
 c:0<=m.calls
def A0 (m:gZ):gZ:={m with calls:=m.calls+1}
theorem kH.AY (h:kH m):gi m=(0,0,A0 m):=M8 h.f h.d
theorem kH.A0 {m:gZ} (h:kH m):kH (A0 m):=⟨h.f,h.d,by have:=h.c;show 0<=m.calls+1;omega⟩
theorem CU (h:ya S) (f:gU p=true) (hq:iL p=some q) (hk:fR S.es q=some k) (a:(nodeAt S k).kind=1):ja S p=0:=by
 obtain⟨d,g,h1,_⟩:=hB hk;unfold ja;rw[if_pos f,hq,jT,hk];dsimp only;rw[if_pos (show(S.ns.getD k.toNat default).kind=1 from a),←h1]
 grind [tz]
theorem iQ (h:ya S) (m:fR S.es p=some k):hC S p=(k,0)/\0<=k/\k<S.ns.length:=by
 obtain⟨d,a,h1,f⟩:=hB m;have:=(PG h a).2;rw[h1,f]at this;have n:=h.g.inr d a
 grind
structure Ent (S S':fY) (p q:fQ) (kq k:Int):Prop where
 g:lU S'
 f:∀r,fR S'.es r=if r=p then some k else fR S.es r
 l:S'.es.length=S.es.length+1
 n:∀z:Int,0<=z->z<S.ns.length->EqT (nodeAt S' z) (nodeAt S z)/\(z≠kq->nodeAt S' z=nodeAt S z)
 t:gd S'.ns=gd S.ns
theorem No {a:Int} (hm:kH m) (g:lU S) (H:gU p=true) (hq:iL p=some q) (hk:fR S.es q=some a) (E:(nodeAt S a).kind=1) (u:fR S.es p=none) (G:S.es.length<100) (y:fH n=true):
  sP m S p n=0/\Ent S (my m S p n) p q a S.ns.length/\(my m S p n).ns.length=S.ns.length+1/\nodeAt (my m S p n) S.ns.length=iD n (m.calls+1):=by
 have he:sP m S p n=0:=by
  unfold sP;rw[hm.AY];dsimp only;rw[if_neg (λh=>h rfl),if_neg (by grind [CU,lU.f]),if_neg (by rw[y];decide)];unfold sQ;rw[u,if_neg fV,if_neg fy]
 obtain⟨_,F,sX⟩:=iQ g.f hk;have B:q≠p:=fS
 have s:my m S p n=⟨oH S.es p S.ns.length,(S.ns++[iD n (m.calls+1)]).set a.toNat (h7 (nodeAt S a) (m.calls+1))⟩:=by
  unfold my;rw[if_pos he,hm.AY];unfold pV;have h1:fR (oH S.es p S.ns.length) q=some a:=by rw[ui u,if_neg B];exact hk
  have:=Ar (t:=⟨oH S.es p S.ns.length,S.ns++[iD n (m.calls+1)]⟩) (c:=m.calls+1) hq h1;rw[show(A0 m).calls=m.calls+1 from rfl,this]
  have d:(S.ns++[iD n (m.calls+1)]).getD a.toNat default=nodeAt S a:=by
   unfold nodeAt;rw[kv,pR fy,←kv]
  rw[d]
 have w:lU (my m S p n):=Hz g (by rw[hm.AY];exact hm.A0.c);have hlen:∀x:Nd,(S.ns++[x]).length=S.ns.length+1:=fS
 have C:∀z:Int,0<=z->nodeAt (my m S p n) z=if z=a then h7 (nodeAt S a) (m.calls+1)else(S.ns++[iD n (m.calls+1)]).getD z.toNat default:=λz v=>by
  rw[s];show((S.ns++[iD n (m.calls+1)]).set a.toNat _).getD z.toNat default=_
  grind
 refine⟨he,⟨w,by grind [ui],by grind [uX],λz h0 h1=>?_,?_⟩,by grind,?_⟩
 ·have v:(S.ns++[iD n (m.calls+1)]).getD z.toNat default=nodeAt S z:=by
   unfold nodeAt;rw[kv,pR fy,←kv]
  rw[C z h0,v]
  by_cases e:z=a
  ·rw[if_pos e,e];exact⟨rfl,λh=>absurd fx h⟩
  ·rw[if_neg e];exact⟨rfl,λ_=>rfl⟩
 ·rw[s];have h1:=nS (l:=S.ns++[iD n (m.calls+1)]) (i:=a.toNat) (h7 (nodeAt S a) (m.calls+1)) (by rw[hlen];omega)
  have d:((S.ns++[iD n (m.calls+1)]).getD a.toNat default)=nodeAt S a:=by
   unfold nodeAt;rw[kv,pR fy,←kv]
  rw[d]at h1;have D:gd (S.ns++[iD n (m.calls+1)])=gd S.ns:=by rw[oz];rfl
  grind [h7,nodeAt,gd,iD,Int.toNat]
 grind
theorem Oa {o:fQ} {a:Int} (hm:kH m) (d:lU S) (D:gU p=true) (hq:iL p=some q) (hk:fR S.es q=some a) (y:(nodeAt S a).kind=1) (n:fR S.es p=none) (C:S.es.length<100) (x:fR S.es o=some k) (v:(nodeAt S k).kind≠1):
  tb m S p o=0/\Ent S (oK m S p o) p q a k/\(oK m S p o).ns.length=S.ns.length:=by
 have g:=(iQ d.f x).1
 have he:tb m S p o=0:=by
  unfold tb;rw[hm.AY];dsimp only;rw[if_neg (λh=>h rfl),g,if_neg (λh=>h rfl),if_neg v,if_neg (by grind [CU,lU.f])];unfold sQ;rw[n,if_neg fV,if_neg fy]
 obtain⟨_,B,sX⟩:=iQ d.f hk;have w:q≠p:=fS
 have s:oK m S p o=⟨oH S.es p k,S.ns.set a.toNat (h7 (nodeAt S a) (m.calls+1))⟩:=by
  unfold oK;rw[if_pos he,hm.AY,g];unfold pV;have h1:fR (oH S.es p k) q=some a:=by rw[ui n,if_neg w];exact hk
  exact Ar (t:=⟨oH S.es p k,S.ns⟩) (c:=m.calls+1) hq h1
 have u:lU (oK m S p o):=E8 d (by rw[hm.AY];exact hm.A0.c);refine⟨he,⟨u,by grind [ui],by grind [uX],λz h0 h1=>?_,?_⟩,by grind⟩
 ·have:nodeAt (oK m S p o) z=if z=a then h7 (nodeAt S a) (m.calls+1)else nodeAt S z:=by
   rw[s];show(S.ns.set a.toNat _).getD z.toNat default=_
   rw[Gs fy]
   by_cases e:z=a
   ·grind
   ·rw[if_neg e,if_neg fy];rfl
  rw[this]
  by_cases e:z=a
  ·rw[if_pos e,e];exact⟨rfl,λh=>absurd fx h⟩
  ·rw[if_neg e];exact⟨rfl,λ_=>rfl⟩
 grind [gd,Int.toNat,h7,nodeAt,fE,nS]
structure R0 (S S':fY) (k:Int) (x:Nd):Prop where
 g:lU S'
 e:S'.es=S.es
 l:S'.ns.length=S.ns.length
 n:∀z:Int,0<=z->nodeAt S' z=if z=k then x else nodeAt S z
 t:gd S'.ns+fE (nodeAt S k).data=gd S.ns+fE x.data
theorem ON (hk:0<=k/\k<S.ns.length) (a:lU ⟨S.es,S.ns.set k.toNat x⟩):R0 S ⟨S.es,S.ns.set k.toNat x⟩ k x:=by
 refine⟨a,rfl,mo,λz d=>?_,nS x fy⟩;show(S.ns.set k.toNat x).getD z.toNat default=_
 rw[Gs fy]
 by_cases e:z=k
 ·grind
 ·rw[if_neg e,if_neg fy];rfl
theorem Qp {e:Nd->Int} {d:Nd->Nd} (hm:kH m) (n:lU S) (t:fR S.es p=some k) (he:e (nodeAt S k)=0) (hk:(d (nodeAt S k)).kind=(nodeAt S k).kind) (a:fH (d (nodeAt S k))=true):
  nZ m S p e d=0/\R0 S (nr m S p e d) k (d (nodeAt S k)):=by
 obtain⟨h1,s⟩:=iQ n.f t;have u:gT (d (nodeAt S k))=true:=by unfold fH at a;rw[iO]at a;exact a.1
 have g:nZ m S p e d=0:=by
  unfold nZ;rw[hm.AY];dsimp only;rw[if_neg (λh=>h rfl),h1,if_neg (λh=>h rfl),if_neg (λh=>h he),if_neg (by rw[u];decide)]
 refine⟨g,?_⟩;unfold nr;rw[if_pos g,h1];exact ON s (n.set (i:=k.toNat) hk a)
theorem wX {f:Nd->Nd×Int} (d:lU S) (hc:0<=m.calls) (s:fR S.es p=some k) (a:(nodeAt S k).kind=2) (he:(f (nodeAt S k)).2=0) (hk:(f (nodeAt S k)).1.kind=2) (t:fH (f (nodeAt S k)).1=true):
  (jx m S p f=10/\m.ji<(gd S.ns:Int)-fE (nodeAt S k).data+fE (f (nodeAt S k)).1.data)∨(jx m S p f=0/\(gd S.ns:Int)-fE (nodeAt S k).data+fE (f (nodeAt S k)).1.data<=m.ji/\R0 S (kP m S p f) k {(f (nodeAt S k)).1 with time:=m.calls}):=by
 obtain⟨h1,g⟩:=iQ d.f s
 have n:jx m S p f=if m.ji<(gd S.ns:Int)-fE (nodeAt S k).data+fE (f (nodeAt S k)).1.data then 10 else 0:=by
  unfold jx;rw[h1,if_neg (λh=>h rfl),if_neg (by rw[a];decide),if_neg (λh=>h a),if_neg (λh=>h he)]
 by_cases hq:m.ji<(gd S.ns:Int)-fE (nodeAt S k).data+fE (f (nodeAt S k)).1.data
 ·omega
 ·have h0:jx m S p f=0:=by rw[n,if_neg hq]
  refine .inr ⟨h0,fy,?_⟩;unfold kP;rw[if_pos h0,h1];exact ON g (d.set (i:=k.toNat) (n':={(f (nodeAt S k)).1 with time:=m.calls}) (hk.trans a.symm) (oN t hc))
end
section
def qF (t:fY) (i:Nat):Nat:=kE 0 (t.es.take i)
def pK (t:fY) (k:Int):fQ:=(gY t (gx t.es k)).path
theorem xO {t:fY} (h:gQ t=true):jz t.ns.length 0 t.es=true/\kE 0 t.es=t.ns.length:=by
 grind [gQ,jB]
theorem h8 {t:fY} (h:t.es[j]? =some e):gY t j=e:=by
 grind [gY]
theorem iE {t:fY} (h:t.es[j]? =some e):gx t.es e.node<=j/\t.es[gx t.es e.node]? =some (gY t (gx t.es e.node))/\(gY t (gx t.es e.node)).node=e.node/\∀i x,t.es[i]? =some x->i<gx t.es e.node->x.node≠e.node:=by
 grind [List.getElem?_eq_some_iff,gx,Nat.le_of_not_lt,List.not_of_lt_findIdx,decide,List.length,List.getElem?_eq_getElem,h8,List.findIdx_getElem]
theorem qg {t:fY} (h:gQ t=true) (he:t.es[j]? =some e):0<=e.node/\e.node<=qF t j/\e.node<t.ns.length/\qF t (j+1)=(if e.node<qF t j then qF t j else qF t j+1)/\(e.node<qF t j↔gx t.es e.node<j):=by
 have s:=(xO h).1;have w:=(j0.1 he).1
 have n:t.es.drop j=e::t.es.drop (j+1):=by
  rw[←(j0.1 he).2];exact mu
 have h1:=s;rw[←lv j t.es,CM,n,jz]at h1;simp only[iO,decide_eq_true_eq]at h1;obtain⟨d,⟨⟨f,g⟩,m⟩,_⟩:=h1
 have hu:qF t (j+1)=(if e.node<qF t j then qF t j else qF t j+1):=by
  unfold qF;rw[kO,he]
  have:∀(a:List En) (u:Nat) (b:En),kE u (a++[b])=if b.node<kE u a then kE u a else kE u a+1:=by
   intro a
   induction a with
   |nil=>intro u b;rfl
   |cons x a y=>grind [kE]
  exact this _ _ _
 refine⟨f,g,m,hu,?_⟩;have hc:=rY (t.es.take j) 0 e.node.toNat d (iy _)
 have fW:e.node<qF t j↔0<j1 e.node.toNat (t.es.take j):=by
  rw[hc];show e.node<((kE 0 (t.es.take j):Nat):Int)↔_
  omega
 rw[fW];unfold j1;rw[Wx];obtain⟨f1,f2,f3,f4⟩:=iE he;constructor
 ·grind [List.getElem_of_mem,List.length_take,List.getElem?_eq_getElem,Nat.lt_of_le_of_lt,Nat.le_of_not_lt]
 ·intro v;refine⟨gY t (gx t.es e.node),?_,by simp[f3];omega⟩;exact jS (i:=gx t.es e.node) fS
theorem jY {t:fY} (h:ya t) {e':En} (he:t.es[i]? =some e) (n:t.es[j]? =some e') (s:e.path=e'.path):i=j/\e=e':=by
 have key:∀(i j:Nat) (a b:En),t.es[i]? =some a->t.es[j]? =some b->i<j->a.path≠b.path:=λi j a b f m fW=>by
  obtain⟨h1,rfl⟩:=j0.1 f;obtain⟨d,rfl⟩:=j0.1 m;have:=G1.1 h.g.nd i j (by simpa using h1) (by simpa using d) fW;simpa using this
 grind
theorem oC {t:fY} (h:ya t) (he:e∈t.es):fR t.es e.path=some e.node:=jv h.g.nd he
theorem DV {t:fY} (h:ya t) (he:t.es[j]? =some e) (h0:e.path≠[]):∃i d,i<j/\t.es[i]? =some d/\iL e.path=some d.path/\(nodeAt t d.node).kind=1:=by
 have hm:=jS he
 have B:fZ e.path≠[]:=λh1=>by
  rcases qa.1 h1 with f|f
  ·exact h0 f
  ·rw[h.g.path e hm]at f;cases f
 obtain⟨d,v,h1,f,u⟩:=O8 h hm B;obtain⟨i,hi,n⟩:=Bc v;have w:t.es[i]? =some d:=by rw[←n];exact fS
 refine⟨i,d,?_,w,h1,u⟩
 have fW:ie d.path e.path=true:=by
  unfold ie;rw[f];exact Df _ _
 obtain⟨y,x⟩:=j0.1 he;refine Nat.lt_of_not_le λhle=>?_
 rcases pT j i with s|s
 ·have:=G1.1 h.a j i y hi s;rw[x,n]at this;have m:=tN (show iV (fZ e.path) (fZ d.path)=true from this);rw[show iV (fZ d.path) (fZ e.path)=true from fW]at m;cases m
 grind [Option.some.inj,ie,tN]
structure Bv (U t:fY) (D:fQ->Bool) (i c b:Nat) (S:fY):Prop where
 g:lU S
 l:S.es.length<=U.es.length+i
 le:(∀e∈t.es,D e.path=false)->S.es.length+1=U.es.length+i
 pr:∀j e,t.es[j]? =some e->j<i∨D e.path=true->∃z,fR S.es e.path=some z/\fR S.es (pK t e.node)=some z/\(nodeAt S z).kind=(nodeAt t e.node).kind
 ab:∀j e,t.es[j]? =some e->i<=j->D e.path=false->fR S.es e.path=none
 inj:∀e∈t.es,∀e'∈t.es,∀z,fR S.es e.path=some z->fR S.es e'.path=some z->e.node=e'.node
 ol:∀p,(∀e∈t.es,e.path≠p)->fR S.es p=fR U.es p/\∀z,fR U.es p=some z->nodeAt S z=nodeAt U z/\∀e∈t.es,fR S.es e.path≠some z
 ct:∀j e z,t.es[j]? =some e->j<c->fR S.es e.path=some z->Ct (nodeAt S z) (nodeAt t e.node)
 to:gd S.ns=gd U.ns+gd (t.ns.take (qF t c))+b
variable {t:fY}
theorem Bv.ent {v:fY} {M:Int} (O:gQ t=true) (N:∀e∈t.es,D e.path=true->(nodeAt t e.node).kind=1) (h:Bv U t D i i b S) (he:t.es[i]? =some e) (aa:D e.path=false) (s:Ent S v e.path q M k) (hq:∃x∈t.es,x.path=q) (ag:fR S.es q=some M) (hk:(nodeAt v k).kind=(nodeAt t e.node).kind)
  (u:(gx t.es e.node=i/\k=S.ns.length)∨(gx t.es e.node<i/\fR S.es (pK t e.node)=some k)):Bv U t D (i+1) i b v:=by
 have I:=(hy O).f;have hm:=jS he;have K:∀p z,fR S.es p=some z->0<=z/\z<S.ns.length:=λp z d=>(iQ h.g.f d).2
 have J:∀j x,t.es[j]? =some x->j≠i->x.path≠e.path:=by grind [jY]
 have hold:∀r,r≠e.path->fR v.es r=fR S.es r:=by grind [Ent.f]
 have W:fR v.es e.path=some k:=by rw[s.f,if_pos rfl]
 have ad:∀j x,t.es[j]? =some x->j<i∨D x.path=true->pK t x.node≠e.path:=λj x a m C=>by
  obtain⟨f1,f2,f3,f4⟩:=iE a;have:=jY I f2 he C;rcases m with m|m
  ·omega
  ·have E:=N x (jS a) m;have H:=I.g.dir x fS E e hm fS
   grind
 have af:∀z:Int,0<=z->z<S.ns.length->(nodeAt v z).kind=(nodeAt S z).kind:=λz h0 h1=>(s.n z h0 h1).1.ct.1
 refine⟨s.g,by have:=h.l;have:=s.l;omega,λd=>by have:=h.le d;have:=s.l;omega,λj x a m=>?_,λj x a m Q=>?_,λx a y w z d L=>?_,λp C=>?_,λj x z a m d=>?_,by grind [Ent.t,to]⟩
 ·by_cases ae:j=i
  ·grind [Option.some.inj,pK,h8,iE,jY]
  ·have R:j<i∨D x.path=true:=fS;obtain⟨z,h1,F,G⟩:=h.pr j x a R
   grind
 ·rw[hold _ (J j x a fy)];exact h.ab j x a fy Q
 ·
  have key:∀x∈t.es,∀y∈t.es,x.path=e.path->y.path≠e.path->fR S.es y.path=some k->x.node=y.node:=λx a y w ai ak Y=>by
   obtain rfl:x=e:=by
    obtain⟨Z,T⟩:=tB a
    grind
   rcases u with⟨_,u⟩|⟨u,V⟩
   ·grind
   ·obtain⟨_,f2,f3,_⟩:=iE he;have:=h.inj _ fS y w k V Y;omega
  by_cases E:x.path=e.path
  ·by_cases B:y.path=e.path
   ·obtain⟨Z,T⟩:=tB a
    grind [List.getElem?_of_mem,jY]
   grind
  ·rw[hold _ E]at d
   by_cases B:y.path=e.path
   ·grind
   ·rw[hold _ B]at L;exact h.inj x a y w z d L
 ·have ah:p≠e.path:=fS;obtain⟨h1,F⟩:=h.ol p C;refine⟨by grind,λz d=>?_⟩;obtain⟨G,H⟩:=F z d;obtain⟨r1,r2⟩:=K p z (h1.trans d);obtain⟨x,a,aj⟩:=hq;refine⟨((s.n z r1 r2).2 fS).trans G,λy w=>?_⟩
  by_cases B:y.path=e.path
  ·rw[B,W];intro e';obtain rfl:=jk e';rcases u with⟨_,u⟩|⟨_,u⟩
   ·omega
   ·obtain⟨_,f2,_,_⟩:=iE he;exact H _ fS u
  grind
 ·have X:x.path≠e.path:=J j x a fy;rw[hold _ X]at d;obtain⟨r1,r2⟩:=K _ _ d;exact(s.n z r1 r2).1.ct.t (h.ct j x z a m d)
theorem Bv.nod {c b':Nat} {w:fY} (h:Bv U t D i c b S) (he:e∈t.es) (C:fR S.es e.path=some k) (d:R0 S w k x) (hk:x.kind=(nodeAt t e.node).kind) (hc:∀j y,t.es[j]? =some y->j<c->y.node=e.node->Ct x (nodeAt t e.node)) (L:b'+fE (nodeAt S k).data=b+fE x.data):Bv U t D i c b' w:=by
 have E:∀p z,fR S.es p=some z->0<=z/\z<S.ns.length:=λp z a=>(iQ h.g.f a).2
 refine⟨d.g,by rw[d.e];exact h.l,by grind [R0.e,le],λj y m s=>?_,λj y m s G=>by rw[d.e];exact h.ab j y m s G,λy m J I z a F=>by rw[d.e]at a F;exact h.inj y m J I z a F,λp H=>?_,λj y z m s a=>?_,by grind [R0.t,to]⟩
 ·obtain⟨z,h1,v,B⟩:=h.pr j y m s;refine⟨z,by rw[d.e];exact h1,by rw[d.e];exact v,?_⟩;rw[d.n z (E _ _ h1).1]
  by_cases a:z=k
  ·rw[if_pos a,hk,h.inj y fS e he z h1 (by rw[a];exact C)]
  grind
 ·obtain⟨h1,v⟩:=h.ol p H;refine⟨by rw[d.e];exact h1,λz a=>?_⟩;obtain⟨B,K⟩:=v z a;have u:z≠k:=fS;exact⟨by rw[d.n z fS,if_neg u];exact B,by grind [R0.e]⟩
 ·rw[d.e]at a;rw[d.n z (E _ _ a).1]
  by_cases u:z=k
  ·have M:=h.inj y fS e he z a (by rw[u];exact C)
   grind
  ·rw[if_neg u];exact h.ct j y z m s a
theorem Bv.whole (a:gQ t=true) (h:Bv U t D (i+1) i b S) (he:t.es[i]? =some e) (hc:∀z,fR S.es e.path=some z->Ct (nodeAt S z) (nodeAt t e.node)) (v:b=if gx t.es e.node<i then 0 else fE (nodeAt t e.node).data):Bv U t D (i+1) (i+1) 0 S:=by
 refine⟨h.g,h.l,h.le,h.pr,h.ab,h.inj,h.ol,λj x z d w f=>?_,?_⟩
 ·by_cases y:j=i
  ·grind
  ·exact h.ct j x z d fy f
 ·obtain⟨h1,m,n,s,u⟩:=qg a he
  grind [to,gx,qF,Int.toNat,nodeAt,List.getElem?_eq_getElem,List.length,mW]
end
section
def sf (m:gZ) (k:Nat):gZ:={m with calls:=m.calls+(k:Int)}
theorem kH.sf {m:gZ} (h:kH m) (k:Nat):kH (sf m k):=⟨h.f,h.d,by have:=h.c;show 0<=m.calls+(k:Int);omega⟩
theorem x1 (m:gZ) (j k:Nat):sf (sf m j) k=sf m (j+k):=by
 grind [sf,Int.add_assoc,Int.natCast_add]
theorem Gg (m:gZ):sf m 0=m:=by simp_all [sf,Int.natCast_zero]
def Out (U t:fY) (m:gZ) (k:Nat) (P:fY->Prop) (r:Int×gZ×fY):Prop:=(r.1=10/\m.ji<((gd U.ns+gd t.ns:Nat):Int))∨(r.1=0/\r.2.1=sf m k/\P r.2.2)
variable {t:fY}
theorem Out.nil {P:fY->Prop} (h:P S):Out U t m 0 P (runM t [] m S):= .inr ⟨rfl,(Gg m).symm,h⟩
theorem Out.one {s:om} {P:fY->Prop} (h:Out U t m 1 P (nq m S t s)):Out U t m 1 P (runM t [s] m S):=by
 grind [runM]
theorem Out.app {a b:List om} {k:Nat} {P Q:fY->Prop} (h:Out U t m j P (runM t a m S)) (g:∀f,P f->Out U t (sf m j) k Q (runM t b (sf m j) f)):Out U t m (j+k) Q (runM t (a++b) m S):=by
 rw[HS];rcases h with⟨h1,d⟩|⟨h1,d,n⟩
 ·rw[if_pos (by rw[h1];decide)];exact .inl ⟨h1,d⟩
 ·rw[if_neg (λh=>h h1),d];rcases g _ n with⟨g1,g2⟩|⟨g1,g2,g3⟩
  ·exact .inl ⟨g1,g2⟩
  ·exact .inr (by grind [x1])
theorem Out.mono {k:Nat} {P Q:fY->Prop} {r:Int×gZ×fY} (h:Out U t m k P r) (a:∀S,P S->Q S):Out U t m k Q r:=h.imp id fS
structure aaD (n:Nd):Prop where
 s0:0<=n.size
 s1:n.size<=1099511627776
 dl:n.data.length<=16
 by_:fE n.data<=4000
 sep:js 1 n.data
 pc:∀p∈n.data,p.data≠[]/\0<=p.pos/\gO p<=n.size
theorem EI (h:fH n=true) (hk:n.kind=2):aaD n:=by
 unfold fH at h;rw[hk,if_neg fV,if_pos rfl]at h;unfold jP at h;simp only[iO,decide_eq_true_eq,lj]at h;obtain⟨_,⟨⟨⟨⟨⟨⟨h1,a⟩,d⟩,s⟩,f⟩,g⟩,_⟩,_⟩:=h;have m:∀p∈n.data,p.data≠[]:=by grind [jW]
 obtain⟨g1,g2,_⟩:=(ext_iff n.size n.data (-1) m).1 g;exact⟨h1,a,d,f,g1,fS⟩
structure Wr (n:Nd) (j:Nat) (x:Nd):Prop where
 k:x.kind=2
 d:x.data=n.data.take j
 s:x.size=mz (n.data.take j)
 t:x.target=n.target/\x.major=n.major/\x.minor=n.minor
theorem Ai {p:hJ} (h:l[j]? =some p):mz (l.take (j+1))=gO p:=by
 grind [mz,List.take_add_one]
theorem yx:∀(l:List hJ) (j:Nat),fE (l.take j)<=fE l
 |[],j=>by grind
 |p::l,0=>iy _
 |p::l,j+1=>by
  have:=yx l j
  grind [fE]
theorem sy {p:hJ} (u:fH n=true) (hk:n.kind=2) (G:fH x=true) (hw:Wr n j x) (a:n.data[j]? =some p):(gB x p.pos p.data).2=0/\Wr n (j+1) (gB x p.pos p.data).1:=by
 have F:=EI u hk;obtain⟨p1,p2,H⟩:=F.pc p fS;have m:gO p=p.pos+(p.data.length:Int):=rfl;have hlen:=tE.2 p1;have E:=F.s1;have f:n.data.take (j+1)=n.data.take j++[p]:=by rw[kO,a];rfl
 have v:js 1 (n.data.take j++[p]):=by rw[←f];exact F.sep.sublist (List.take_sublist _ _)
 have w:=j6.1 v;have C:∀q∈n.data.take j,gO q+1<=p.pos:=mu
 have y:qN x.data p.pos p.data=n.data.take (j+1):=by
  rw[hw.d,f,W4 w.1 λq hq=>?_];have:=F.pc q fS;exact fS
 have B:fE (n.data.take (j+1))<=4000:=mn (yx _ _) F.by_;have D:(n.data.take (j+1)).length<=16:=by rw[kt];have:=F.dl;omega
 have g:gB x p.pos p.data=({x with data:=n.data.take (j+1),size:=max x.size (p.pos+(p.data.length:Int))},0):=by
  unfold gB;rw[if_neg (by grind [Wr.k]),if_neg fy,if_neg p1,y,if_neg fy]
 rw[g];refine⟨rfl,hw.k,rfl,?_,hw.t⟩;show max x.size (p.pos+(p.data.length:Int))=_
 rw[Ai a,hw.s,m]
 grind [mz,List.length,List.mem_of_getLast?]
theorem Se (f:fH n=true) (hk:n.kind=2) (s:fH x=true) (hw:Wr n n.data.length x):(ki x n.size).2=0/\(ki x n.size).1={x with data:=n.data,size:=n.size}:=by
 have F:=EI f hk;have h1:=F.s0;have m:=F.s1;have a:x.data=n.data:=by rw[hw.d,km]
 unfold ki;rw[if_neg (by grind [Wr.k]),a,zj λp g=>?_]
 ·grind
 ·have:=F.pc p g;omega
theorem CC (a:gQ t=true) (he:t.es[i]? =some e) (u:gx t.es e.node=i):gd (t.ns.take (qF t i))+fE (nodeAt t e.node).data<=gd t.ns:=by
 obtain⟨h1,g,m,n,s⟩:=qg a he;have hu:¬e.node<qF t i:=fy;have f:e.node.toNat=qF t i:=fy
 have d:t.ns[qF t i]? =some (nodeAt t e.node):=by
  unfold nodeAt;rw[f,kv,kp fy];rfl
 rw[←mW d]
 conv=>rhs;rw[←lv (qF t i+1) t.ns]
 grind [oz]
structure Hand (U t:fY) (D:fQ->Bool) (i j:Nat) (e:En) (S:fY):Prop where
 a:Bv U t D (i+1) i (fE ((nodeAt t e.node).data.take j)) S
 w:∃k,fR S.es e.path=some k/\Wr (nodeAt t e.node) j (nodeAt S k)
theorem uz (h:lU S) (a:fR S.es p=some k):fH (nodeAt S k)=true:=by
 have:=iQ h.f a;exact h.node (i:=k.toNat) fy
theorem P7 {p:hJ} (E:gQ t=true) (hm:kH m) (he:t.es[i]? =some e) (K:gx t.es e.node=i) (hk:(nodeAt t e.node).kind=2) (B:(nodeAt t e.node).data[j]? =some p) (h:Hand U t D i j e S):Out U t m 1 (Hand U t D i (j+1) e) (nq m S t ⟨3,e.path,[],(j:Int)⟩):=by
 have C:=hy E;have x:=jS he;have L:fH (nodeAt t e.node)=true:=C.f.g.node e x;obtain⟨k,v,hw⟩:=h.w;have F:=uz h.a.g v;have T:=(j0.1 B).1;obtain⟨Q,u⟩:=sy L hk F hw B;have M:fH (gB (nodeAt S k) p.pos p.data).1=true:=mA F _ _;have hs:wH m p.data=p.data:=by unfold wH;rw[hm.AY,if_neg (show ¬(0:Int)=2 by decide)]
 have H:nq m S t ⟨3,e.path,[],(j:Int)⟩=(tt m S e.path p.pos p.data,(gi m).2.2,oZ m S e.path p.pos p.data):=by
  unfold nq;dsimp only;rw[oC C.f x];dsimp only;rw[if_neg fV,if_neg fV];unfold ta;dsimp only;rw[if_neg fV,if_pos rfl,if_neg fy,jf,kv,B];rfl
 have I:tt m S e.path p.pos p.data=jx (A0 m) S e.path (λn=>gB n p.pos p.data):=by
  unfold tt;rw[hm.AY,if_neg (λh=>h.2 rfl),hs];dsimp only;split
  ·rfl
  ·omega
 have J:oZ m S e.path p.pos p.data=kP (A0 m) S e.path (λn=>gB n p.pos p.data):=by
  unfold oZ;rw[hm.AY,if_neg (λh=>h.2 rfl),hs]
 rw[H,I,J,hm.AY];have R:fE ((nodeAt t e.node).data.take (j+1))<=fE (nodeAt t e.node).data:=yx _ _;have W:=h.a.to;have X:=CC E he K;rcases wX (m:=A0 m) (f:=λn=>gB n p.pos p.data) h.a.g hm.A0.c v hw.k Q u.k M with⟨c1,c2⟩|⟨c1,c2,c3⟩
 ·refine .inl ⟨c1,?_⟩;rw[u.d,hw.d]at c2;have c2:m.ji<(gd S.ns:Int)-fE ((nodeAt t e.node).data.take j)+fE ((nodeAt t e.node).data.take (j+1)):=c2;omega
 ·refine .inr ⟨c1,rfl,?_⟩
  have G:=h.a.nod (b':=fE ((nodeAt t e.node).data.take (j+1))) x v c3 (by grind [gB,nodeAt,Wr.k]) (λO y N V Y=>by
   have:=(iE he).2.2.2 O y N fy
   grind) (by
   grind [fE,gB,nodeAt,Wr.d])
  refine⟨G,k,by grind [R0.e],?_⟩;rw[c3.n k (iQ h.a.g.f v).2.1,if_pos rfl];exact⟨u.k,u.d,u.s,u.t⟩
theorem Uv (u:gQ t=true) (hm:kH m) (he:t.es[i]? =some e) (I:gx t.es e.node=i) (hk:(nodeAt t e.node).kind=2) (h:Hand U t D i (nodeAt t e.node).data.length e S):Out U t m 1 (Bv U t D (i+1) (i+1) 0) (nq m S t ⟨4,e.path,[],0⟩):=by
 have x:=hy u;have v:=jS he;have J:fH (nodeAt t e.node)=true:=x.f.g.node e v;obtain⟨k,s,hw⟩:=h.w;have B:=uz h.a.g s;obtain⟨O,Q⟩:=Se J hk B hw
 have F:nq m S t ⟨4,e.path,[],0⟩=(Ak m S e.path (nodeAt t e.node).size,(gi m).2.2,sZ m S e.path (nodeAt t e.node).size):=by
  unfold nq;dsimp only;rw[oC x.f v];dsimp only;rw[if_neg fV,if_neg fV];unfold ta;dsimp only;rw[if_neg fV,if_neg fV,if_pos rfl]
 have G:Ak m S e.path (nodeAt t e.node).size=jx (A0 m) S e.path (λn=>ki n (nodeAt t e.node).size):=by
  unfold Ak;rw[hm.AY,if_neg (λh=>h rfl)]
 have H:sZ m S e.path (nodeAt t e.node).size=kP (A0 m) S e.path (λn=>ki n (nodeAt t e.node).size):=by
  unfold sZ;rw[hm.AY,if_neg (λh=>h rfl)]
 rw[F,G,H,hm.AY];have K:=h.a.to;have V:=CC u he I;have R:(nodeAt S k).data=(nodeAt t e.node).data:=by rw[hw.d,km]
 rw[km]at K;rcases wX (m:=A0 m) (f:=λn=>ki n (nodeAt t e.node).size) h.a.g hm.A0.c s hw.k O (by grind [ki,nodeAt,Wr.k]) (yd B _)with⟨c1,c2⟩|⟨c1,c2,c3⟩
 ·refine .inl ⟨c1,?_⟩;have c2:m.ji<(gd S.ns:Int)-fE (nodeAt S k).data+fE (ki (nodeAt S k) (nodeAt t e.node).size).1.data:=c2
  grind
 ·refine .inr ⟨c1,rfl,?_⟩;have L:({(ki (nodeAt S k) (nodeAt t e.node).size).1 with time:=(A0 m).calls}:Nd)={nodeAt S k with data:=(nodeAt t e.node).data,size:=(nodeAt t e.node).size,time:=(A0 m).calls}:=by rw[Q]
  have c3:R0 S (kP (A0 m) S e.path (λn=>ki n (nodeAt t e.node).size)) k {nodeAt S k with data:=(nodeAt t e.node).data,size:=(nodeAt t e.node).size,time:=(A0 m).calls}:=by rw[←L];exact c3
  have E:=h.a.nod (b':=fE (nodeAt t e.node).data) v s c3 (by grind [nodeAt,Wr.k]) (λN y M T W=>by
   have:=(iE he).2.2.2 N y M fy
   grind) (by
   grind)
  refine E.whole u he (λz C=>?_) fS;rw[c3.e,s]at C;obtain rfl:=jk C;rw[c3.n k (iQ h.a.g.f s).2.1,if_pos rfl];exact⟨hw.k.trans hk.symm,rfl,rfl,hw.t.1,hw.t.2.1,hw.t.2.2⟩
theorem zg {i:Nat} {e:En} (a:gQ t=true) (he:t.es[i]? =some e) (d:gx t.es e.node=i) (hk:(nodeAt t e.node).kind=2) {m:gZ} (hm:kH m) {S:fY} (h:Hand U t D i 0 e S):∀j,j<=(nodeAt t e.node).data.length->Out U t m j (Hand U t D i j e) (runM t (Gq e.path j) m S)
 |0,_=>Out.nil h
 | j+1,u=>by
  have n:=zg a he d hk hm h j fy
  have f:Gq e.path (j+1)=Gq e.path j++[⟨3,e.path,[],(j:Int)⟩]:=by
   unfold Gq;rw[sV,pE];rfl
  rw[f];exact n.app λs g=>Out.one (P7 a (hm.sf j) he d hk (kp fy) g)
theorem OJ (n:gQ t=true) (he:t.es[i]? =some e) (C:gx t.es e.node=i) (hk:(nodeAt t e.node).kind=2) (hm:kH m) (h:Hand U t D i 0 e S):Out U t m (n3 e.path (nodeAt t e.node)).length (Bv U t D (i+1) (i+1) 0) (runM t (n3 e.path (nodeAt t e.node)) m S):=by
 have F:=hy n;have I:=jS he;have K:fH (nodeAt t e.node)=true:=F.f.g.node e I;have H:(Gq e.path (nodeAt t e.node).data.length).length=(nodeAt t e.node).data.length:=by unfold Gq;rw[jF,HP]
 have h1:=zg n he C hk hm h _ (gJ _);unfold n3;rw[if_pos hk,hQ,H];refine h1.app λJ u=>?_
 by_cases v:(nodeAt t e.node).size=mz (nodeAt t e.node).data
 ·rw[if_pos v];refine Out.nil ?_;have B:=u.a;rw[km]at B;obtain⟨k,G,hw⟩:=u.w;refine B.whole n he (λz E=>?_) fS;rw[G]at E;obtain rfl:=jk E;have x:=hw.d;have y:=hw.s;rw[km]at x y;exact⟨hw.k.trans hk.symm,y.trans v.symm,x,hw.t.1,hw.t.2.1,hw.t.2.2⟩
 ·rw[if_neg v];exact Out.one (Uv n (hm.sf _) he C hk u)
theorem qh (h:fH n=true) (hk:n.kind≠2):Ct (iD n c) n:=by
 have a:n.size=0/\n.data=[]:=by
  unfold fH ib at h
  grind
 exact⟨rfl,a.1.symm,a.2.symm,rfl,rfl,rfl⟩
theorem yy (h:fH n=true) (hk:n.kind≠2):fE n.data=0:=by
 have:=(qh (c:=0) h hk).2.2.1;rw[←this];rfl
theorem OB (v:gQ t=true) (I:∀e∈t.es,D e.path=true->(nodeAt t e.node).kind=1) (hlen:U.es.length+t.es.length<=100) (he:t.es[i]? =some e) (h0:e.path≠[]) (hm:kH m) (h:Bv U t D i i 0 S):
  Out U t m (if D e.path then([]:List om)else nI t i).length (Bv U t D (i+1) (i+1) 0) (runM t (if D e.path then[]else nI t i) m S):=by
 have s:=hy v;have y:=jS he;have K:fH (nodeAt t e.node)=true:=s.f.g.node e y;have hi:=(j0.1 he).1;obtain⟨f1,f2,f3,f4⟩:=iE he;cases C:D e.path with
 | true=>
  rw[if_pos rfl];refine Out.nil ?_;have a:=I e y C;have u:gx t.es e.node=i:=(jY s.f f2 he (by rw[s.f.g.dir e y a _ fS f3])).1
  have w:Bv U t D (i+1) i 0 S:=⟨h.g,by have:=h.l;omega,fS,λj x B aj=>h.pr j x B (by
   grind),λj x B aj=>h.ab j x B fy,h.inj,h.ol,h.ct,h.to⟩
  refine w.whole v he (λz E=>?_) (by grind [yy]);obtain⟨ar,h1,_,F⟩:=h.pr i e he (.inr C);rw[E]at h1;obtain rfl:=jk h1;have B:=uz h.g E;have c1:=qh (c:=0) B (by rw[F,a];decide);have c2:=qh (c:=0) K (by rw[a];decide);have ap:=F;have key:∀x:Nd,fH x=true->x.kind=1->x.size=0/\x.data=[]/\x.target=[]/\x.major=0/\x.minor=0:=by grind [fH,ib,jq,jG]
  obtain⟨Y,a2,a3,a4,a5⟩:=key _ B (F.trans a);obtain⟨Z,aa,ad,ae,af⟩:=key _ K a;exact⟨F,Y.trans Z.symm,a2.trans aa.symm,a3.trans ad.symm,a4.trans ae.symm,a5.trans af.symm⟩
 | false=>
  rw[if_neg fV];obtain⟨am,d,ak,M,W,al⟩:=DV s.f he h0;obtain⟨an,p1,p2,ao⟩:=h.pr am d M (.inl ak);have N:=jS M;have R:(nodeAt S an).kind=1:=ao.trans al;have X:=s.f.g.path e y;have V:=h.ab i e he (gJ _) C;have T:S.es.length<100:=by have:=h.l;omega
  have Q:=oC s.f y;have O:gY t i=e:=h8 he
  by_cases u:gx t.es e.node<i
  ·
   have a:(nodeAt t e.node).kind≠1:=λhk=>by
    have h1:=s.f.g.dir e y hk _ fS f3;have:=(jY s.f f2 he (by rw[h1])).1;omega
   obtain⟨k,k1,k2,k3⟩:=h.pr _ _ f2 (.inl u);rw[f3]at k3
   have ai:fR t.es (gY t (gx t.es e.node)).path=some e.node:=by
    rw[oC s.f fS,f3]
   obtain⟨g1,g2,g3⟩:=Oa hm h.g X W p1 R V T k1 (by rw[k3];exact a);unfold nI;rw[O,if_neg a,if_pos u];refine Out.one ?_
   have G:nq m S t ⟨5,e.path,(gY t (gx t.es e.node)).path,0⟩=(tb m S e.path (gY t (gx t.es e.node)).path,(gi m).2.2,oK m S e.path (gY t (gx t.es e.node)).path):=by
    unfold nq;dsimp only;rw[Q];dsimp only;rw[if_pos rfl,ai,if_neg ir]
   rw[G,hm.AY];refine .inr ⟨g1,rfl,?_⟩;have H:=(iQ h.g.f k1).2;have w:=h.ent v I he C g2 ⟨d,N,rfl⟩ p1 (by rw[((g2.n k H.1 H.2).1.ct).1];exact k3) (.inr ⟨u,k1⟩);refine w.whole v he (λz E=>?_) (by rw[if_pos u]);rw[g2.f,if_pos rfl]at E;obtain rfl:=jk E;have:=h.ct _ _ k f2 u k1;rw[f3]at this;exact(g2.n k H.1 H.2).1.ct.t this
  ·have u:gx t.es e.node=i:=fy;obtain⟨g1,g2,g3,g4⟩:=No hm h.g X W p1 R V T K;have w:=h.ent v I he C g2 ⟨d,N,rfl⟩ p1 (by rw[g4];rfl) (.inl ⟨u,rfl⟩);have ah:fR (my m S e.path (nodeAt t e.node)).es e.path=some (S.ns.length:Int):=by rw[g2.f,if_pos rfl]
   have G:∀c:Int,c=1∨c=2->Out U t m 1 (λL=>L=my m S e.path (nodeAt t e.node)) (nq m S t ⟨c,e.path,[],0⟩):=λc hc=>by
    have:nq m S t ⟨c,e.path,[],0⟩=(sP m S e.path (nodeAt t e.node),(gi m).2.2,my m S e.path (nodeAt t e.node)):=by
     unfold nq;dsimp only;rw[Q];dsimp only;rw[if_neg fy,if_neg fy];unfold ta;dsimp only;rw[if_pos hc]
    rw[this,hm.AY];exact .inr ⟨g1,rfl,rfl⟩
   have aq:(nodeAt t e.node).kind≠2->Bv U t D (i+1) (i+1) 0 (my m S e.path (nodeAt t e.node)):=λJ=>
    w.whole v he (by grind [Option.some.inj,qh]) (by grind [yy])
   unfold nI;rw[O]
   by_cases a:(nodeAt t e.node).kind=1
   ·rw[if_pos a];exact(Out.one (G 1 (.inl fx))).mono fS
   ·rw[if_neg a,if_neg fy,iA,O7];show Out U t m _ _ (runM t ([⟨2,e.path,[],0⟩]++n3 e.path (nodeAt t e.node)) m S)
    refine(Out.one (G 2 (.inr fx))).app λL ag=>?_
    subst ag
    by_cases J:(nodeAt t e.node).kind=2
    ·exact OJ v he u J (hm.sf 1) ⟨w,_,ah,by
      rw[g4]
      exact⟨J,rfl,rfl,rfl,rfl,rfl⟩⟩
    grind [n3,Out.nil]
theorem BT (a:gQ t=true) (d:∀e∈t.es,D e.path=true->(nodeAt t e.node).kind=1) (hlen:U.es.length+t.es.length<=100) {m:gZ} (hm:kH m) {S:fY} (h:Bv U t D 1 1 0 S):∀k,1<=k->k<=t.es.length->Out U t m (nH t D k).length (Bv U t D k k 0) (runM t (nH t D k) m S)
 |0,h1,_=>absurd h1 fV
 |1,_,_=>Out.nil h
 | k+2,_,hk=>by
  have B:=BT a d hlen hm h (k+1) fy fy;obtain⟨e,he⟩:∃e,t.es[k+1]? =some e:=⟨_,kp fy⟩;have w:gY t (k+1)=e:=h8 he
  have u:nH t D (k+2)=nH t D (k+1)++(if D e.path then[]else nI t (k+1)):=by
   unfold nH;rw[sV,Rj ir,tO,Cw,w]
  rw[u,hQ];refine B.app λC v=>?_
  have h0:e.path≠[]:=λH=>by
   have n:=(hy a).f;obtain⟨r,y,I,_⟩:=n.g.root;obtain⟨j,F⟩:=tB y
   have E:∃r0,t.es[0]? =some r0/\r0.path=[]:=by
    obtain⟨r0,s⟩:∃r0,t.es[0]? =some r0:=fS;refine⟨r0,s,?_⟩;refine Jh λx=>?_
    obtain⟨J,_,G,_⟩:=DV n s x;omega
   grind [jY]
  exact OB a d hlen he h0 (hm.sf _) v
end
section
theorem zr (f:Int->Int):∀(l:List En) (s:List Int),(∀a∈s++l.map (·.node),∀b∈s++l.map (·.node),f a=f b->a=b)->iB (s.map f) (l.map (Qk f))=((iB s l).1,(iB s l).2.map f)
 |[],_,_=>rfl
 | e::r,s,t=>by
  have u:∀a∈s,f a=f e.node->a=e.node:=fS;have hm:f e.node∈s.map f↔e.node∈s:=fS
  have v:∀d:List Int,(∀a∈d,a∈s)->(d.map f).idxOf (f e.node)=d.idxOf e.node:=λd hs=>by
   induction d with
   |nil=>rfl
   |cons a d w=>
    grind
  have h1:∀a∈s++r.map (·.node),∀b∈s++r.map (·.node),f a=f b->a=b:=fS;have n:∀a∈(s++[e.node])++r.map (·.node),∀b∈(s++[e.node])++r.map (·.node),f a=f b->a=b:=fS;rw[jm,iB,iB];show(if f e.node∈s.map f then _ else _)=_
  by_cases h:e.node∈s
  ·rw[if_pos (hm.2 h),if_pos h,zr f r s h1]
   grind [Qk]
  ·rw[if_neg (λm=>h (hm.1 m)),if_neg h];have g:s.map f++[(Qk f e).node]=(s++[e.node]).map f:=by rw[pE];rfl
   rw[g,zr f r (s++[e.node]) n,jF];rfl
theorem Mu {t u x:fY} (f:Int->Int) (H:∀a∈t.es,∀b∈t.es,f a.node=f b.node->a.node=b.node) (C:u.es.Perm (t.es.map (Qk f))) (n:∀e∈t.es,0<=f e.node/\f e.node<u.ns.length/\u.ns.getD (f e.node).toNat default=t.ns.getD e.node.toNat default) (h:hN t=some x):hN u=some x:=by
 have y:=Nr h;obtain⟨h1,d,g⟩:=vX h;have hs:=l7 t.es;have v:=jg t.es;obtain⟨s,E⟩:∃s,s=jR t.es:=⟨_,rfl⟩;rw[←E]at hs v d g;have B:(s.map (Qk f)).map (·.path)=s.map (·.path):=by rw[sH];rfl
 have F:=rG (λe he=>y.path e (v.mem_iff.1 he)) (by grind [sT.nd]) hs;have I:(s.map (Qk f)).Pairwise Bl:=vr B.symm F;have G:jR u.es=s.map (Qk f):=by grind [qU,l7,jg]
 have w:∀a∈([]:List Int)++s.map (·.node),∀b∈([]:List Int)++s.map (·.node),f a=f b->a=b:=fS
 have D:jw u.ns (s.map (Qk f))=jw t.ns s:=by
  unfold jw;rw[show([]:List Int)=([]:List Int).map f from rfl,zr f s [] w];dsimp only
  congr 1
  rw[sH];refine zC λk hk=>?_
  obtain⟨e,he,rfl⟩:=((pJ k s []).1 hk).resolve_left ir;exact fS
 unfold hN;rw[G,D,Kl (λe he=>?_),iU,if_pos d,g];obtain⟨e',m,rfl⟩:=lN.1 (C.mem_iff.1 he);exact⟨(n e' m).1,(n e' m).2.1⟩
end
section
theorem SC:∀a:Nat,a<64->∀b:Nat,b<64->decide (0<=Fk ((64*a+b:Nat):Int))=true/\decide (Fk ((64*a+b:Nat):Int)<=4095)=true:=by decide+kernel
theorem UF {z:Int} (h:0<=z/\z<=4095):0<=Fk z/\Fk z<=4095:=by
 obtain⟨n,rfl⟩:=lO h.1;have:=SC (n/64) fy (n% 64) fy
 grind
theorem Re {α:Type} {lt:α->α->Bool} (h:mH lt) {l:List α} (a:kQ lt none l=true):mH.Wk lt l:=((h.HQ l).1 a).imp λd=>h.asym d
theorem uG (h:fH n=true):gT n=true:=by grind [fH]
theorem TY (h:gT n=true):lW n.attrs=(0,n.attrs):=by
 unfold gT at h;simp only[iO,decide_eq_true_eq]at h;obtain⟨⟨⟨_,h1⟩,d⟩,a⟩:=h.1;exact Dz d pz (sS _) (Re pz a) a fy
theorem Sb (h:gT n=true):j4 n.acl=(0,n.acl):=by
 grind [gT,og,qm,lk,acLt,Dz,uq,List.Perm.refl,Re,j4]
variable {t:fY}
structure sK (U t:fY) (D:fQ->Bool) (Q:Int->Prop) (S:fY):Prop where
 a:Bv U t D t.es.length t.es.length 0 S
 f:∀e∈t.es,Q e.node->∀z,fR S.es e.path=some z->nodeAt S z=nodeAt t e.node
theorem uT {Q:Int->Prop} {s:om} {er:Nd->Int} {d:Nd->Nd} (hm:kH m) (h:sK U t D Q S) (he:e∈t.es) (C:¬Q e.node) (u:fR S.es e.path=some k) (B:nq m S t s=(nZ m S e.path er d,(gi m).2.2,nr m S e.path er d)) (E:er (nodeAt S k)=0) (hc:Ct (d (nodeAt S k)) (nodeAt t e.node)) (G:fH (d (nodeAt S k))=true):
  (nq m S t s).1=0/\(nq m S t s).2.1=sf m 1/\sK U t D Q (nq m S t s).2.2/\fR (nq m S t s).2.2.es e.path=some k/\nodeAt (nq m S t s).2.2 k=d (nodeAt S k):=by
 have w:Ct (nodeAt S k) (nodeAt t e.node):=by
  obtain⟨j,F⟩:=tB he;exact h.a.ct j e k F fS u
 obtain⟨g1,g2⟩:=Qp hm h.a.g u E (hc.1.trans w.1.symm) G;have H:=(iQ h.a.g.f u).2;rw[B,hm.AY];refine⟨g1,rfl,⟨h.a.nod he u g2 hc.1 (λ_ _ _ _ _=>hc) (by rw[hc.2.2.1,w.2.2.1]),λy x hq z v=>?_⟩,by grind [R0.e],by dsimp only;rw[g2.n k H.1,if_pos fx]⟩;dsimp only at v⊢;rw[g2.e]at v;rw[g2.n z (iQ h.a.g.f v).2.1,if_neg (λe'=>C (by rw[h.a.inj e he y x k u fS];exact hq))];exact h.f y x hq z v
theorem QG {Q:Int->Prop} (au:gQ t=true) (hm:kH m) (he:e∈t.es) (v:¬Q e.node) (h:sK U t D Q S):Out U t m 5 (sK U t D λk=>Q k∨k=e.node) (runM t (ny e.path) m S):=by
 have ab:=hy au;have G:fH (nodeAt t e.node)=true:=ab.f.g.node e he;have B:=uG G;obtain⟨j,F⟩:=tB he;have J:=(j0.1 F).1;obtain⟨k,I,_,_⟩:=h.a.pr j e F (.inl J);have hc:Ct (nodeAt S k) (nodeAt t e.node):=h.a.ct j e k F J I;have ag:=uz h.a.g I;obtain⟨n,O⟩:∃n,n=nodeAt t e.node:=⟨_,rfl⟩;have aJ:=B;rw[←O]at G B hc;unfold gT at B;simp only[iO,decide_eq_true_eq]at B;obtain⟨⟨⟨⟨⟨⟨⟨⟨m1,m2⟩,m3⟩,m4⟩,m5⟩,m6⟩,m7⟩,m8⟩,m9⟩:=B;have aK:=oC ab.f he;have w:∀(m:gZ) (S:fY) (c:Int),c≠5->c≠11->nq m S t ⟨c,e.path,[],0⟩=ta m S n ⟨c,e.path,[],0⟩:=by grind [nq]
 have ok:∀{x x':Nd},fH x=true->gT x'=true->Ct x' x->fH x'=true:=λh1 aq ar=>mY h1 aq ar
 have R:=uG ag;unfold gT at R;simp only[iO,decide_eq_true_eq]at R;obtain⟨⟨⟨⟨⟨⟨⟨⟨aE,aF⟩,aM⟩,aN⟩,H⟩,aG⟩,aH⟩,aI⟩,al⟩:=R
 have N:0<=(pI n.uid n.gid (nodeAt S k)).mode/\(pI n.uid n.gid (nodeAt S k)).mode<=4095:=by
  show 0<=(if(nodeAt S k).kind=1 then(nodeAt S k).mode else Fk (nodeAt S k).mode)/\(if(nodeAt S k).kind=1 then(nodeAt S k).mode else Fk (nodeAt S k).mode)<=4095
  split
  ·exact⟨aE,aF⟩
  ·simp_all [UF]
 have o1:fH (pI n.uid n.gid (nodeAt S k))=true:=ok ag (by
  unfold gT;simp only[iO,decide_eq_true_eq]
  exact⟨⟨⟨⟨⟨⟨⟨N,m3⟩,m4⟩,H⟩,aG⟩,aH⟩,aI⟩,al⟩) ⟨rfl,rfl,rfl,rfl,rfl,rfl⟩
 have o2:fH (sG n.attrs (pI n.uid n.gid (nodeAt S k)))=true:=ok o1 (by
  unfold gT;simp only[iO,decide_eq_true_eq]
  exact⟨⟨⟨⟨⟨⟨⟨N,m3⟩,m4⟩,H⟩,m6⟩,m7⟩,m8⟩,al⟩) ⟨rfl,rfl,rfl,rfl,rfl,rfl⟩
 have o3:fH (tA n.acl (sG n.attrs (pI n.uid n.gid (nodeAt S k))))=true:=ok o2 (by
  unfold gT;simp only[iO,decide_eq_true_eq]
  exact⟨⟨⟨⟨⟨⟨⟨N,m3⟩,m4⟩,H⟩,m6⟩,m7⟩,m8⟩,m9⟩) ⟨rfl,rfl,rfl,rfl,rfl,rfl⟩
 have o4:fH (qT n.mode (tA n.acl (sG n.attrs (pI n.uid n.gid (nodeAt S k)))))=true:=ok o3 (by
  unfold gT;simp only[iO,decide_eq_true_eq]
  exact⟨⟨⟨⟨⟨⟨⟨⟨m1,m2⟩,m3⟩,m4⟩,H⟩,m6⟩,m7⟩,m8⟩,m9⟩) ⟨rfl,rfl,rfl,rfl,rfl,rfl⟩
 have o5:h7 (qT n.mode (tA n.acl (sG n.attrs (pI n.uid n.gid (nodeAt S k))))) n.time=n:=by
  obtain⟨c1,c2,c3,c4,c5,c6⟩:=hc;show(⟨(nodeAt S k).kind,n.mode,n.uid,n.gid,n.time,n.attrs,n.acl,(nodeAt S k).size,(nodeAt S k).data,(nodeAt S k).target,(nodeAt S k).major,(nodeAt S k).minor⟩:Nd)=n
  rw[c1,c2,c3,c4,c5,c6]
 have ae:=TY (uG G);have af:=Sb (uG G);have E:∀x:Nd,Ct x (nodeAt S k)->Ct x (nodeAt t e.node):=λx h1=>by rw[←O];exact h1.t hc
 obtain⟨V,a2,a3,a4,a5⟩:=uT (s:=⟨6,e.path,[],0⟩) (er:=λ_=>0) (d:=pI n.uid n.gid) hm h he v I ((w _ _ 6 fV fV).trans rfl) rfl (E _ ⟨rfl,rfl,rfl,rfl,rfl,rfl⟩) o1;generalize ax:nq m S t ⟨6,e.path,[],0⟩=r1 at V a2 a3 a4 a5;have K:=hm.sf 1;rw[←a2]at K;obtain⟨W,X,Y,Z,C⟩:=uT (s:=⟨7,e.path,[],0⟩) (er:=λ_=>(lW n.attrs).1) (d:=sG (lW n.attrs).2) K a3 he v a4 ((w _ _ 7 fV fV).trans rfl) (by rw[ae]) (by rw[a5];exact E _ ⟨rfl,rfl,rfl,rfl,rfl,rfl⟩) fS;generalize ay:nq r1.2.1 r1.2.2 t ⟨7,e.path,[],0⟩=r2 at W X Y Z C;have L:=K.sf 1;rw[←X]at L;obtain⟨c1,c2,c3,c4,c5⟩:=uT (s:=⟨8,e.path,[],0⟩) (er:=λ_=>(j4 n.acl).1) (d:=tA (j4 n.acl).2) L Y he v Z ((w _ _ 8 fV fV).trans rfl) (by rw[af]) (by rw[C,a5];exact E _ ⟨rfl,rfl,rfl,rfl,rfl,rfl⟩) fS;generalize az:nq r2.2.1 r2.2.2 t ⟨8,e.path,[],0⟩=r3 at c1 c2 c3 c4 c5;have M:=L.sf 1;rw[←c2]at M;obtain⟨d1,d2,d3,d4,d5⟩:=uT (s:=⟨9,e.path,[],0⟩) (er:=λ_=>0) (d:=qT n.mode) M c3 he v c4 ((w _ _ 9 fV fV).trans rfl) rfl (by rw[c5,C,a5];exact E _ ⟨rfl,rfl,rfl,rfl,rfl,rfl⟩) fS;generalize aA:nq r3.2.1 r3.2.2 t ⟨9,e.path,[],0⟩=r4 at d1 d2 d3 d4 d5;have ad:=M.sf 1;rw[←d2]at ad
 have aw:h7 (nodeAt r4.2.2 k) n.time=n:=by
  rw[d5,c5,C,a5,ae,af];exact o5
 obtain⟨aa,ao,u,e4,ap⟩:=uT (s:=⟨10,e.path,[],0⟩) (er:=λ_=>0) (d:=λx=>h7 x n.time) ad d3 he v d4 ((w _ _ 10 fV fV).trans rfl) rfl (by rw[aw,O];exact⟨rfl,rfl,rfl,rfl,rfl,rfl⟩) fS;generalize aB:nq r4.2.1 r4.2.2 t ⟨10,e.path,[],0⟩=r5 at aa ao u e4 ap
 have aC:runM t (ny e.path) m S=(0,r5.2.1,r5.2.2):=by
  unfold ny;rw[runM,ax,if_neg (λh=>h V),runM,ay,if_neg (λh=>h W),runM,az,if_neg (λh=>h c1),runM,aA,if_neg (λh=>h d1),runM,aB,if_neg (λh=>h aa)];rfl
 rw[aC];refine .inr ⟨rfl,?_,⟨u.a,λy ah hq z T=>?_⟩⟩
 ·grind [x1]
 ·dsimp only at T⊢
  by_cases ai:y.node=e.node
  ·
   have aL:z=k:=by
    obtain⟨aD,av⟩:=tB ah;obtain⟨aO,am,an,_⟩:=u.a.pr aD y av fS;obtain⟨z2,aj,ak,_⟩:=u.a.pr j e F (.inl J);rw[T]at am;rw[e4]at aj;rw[ai]at an;rw[an]at ak;rw[jk am,jk aj];exact jk ak
   grind
  ·exact u.f y ah (hq.resolve_right ai) z T
theorem sc (u:gQ t=true) (pk:Nat->Bool) (s:∀i e,t.es[i]? =some e->pk i=true->gx t.es e.node=i):∀(k:Nat),k<=t.es.length->∀{m:gZ},kH m->∀{S:fY} {Q:Int->Prop},(∀i e,t.es[i]? =some e->pk i=true->¬Q e.node)->sK U t D Q S->
  Out U t m ((List.range k).flatMap λi=>if pk i then ny (gY t i).path else[]).length (sK U t D λz=>Q z∨∃i e,i<k/\t.es[i]? =some e/\pk i=true/\e.node=z) (runM t ((List.range k).flatMap λi=>if pk i then ny (gY t i).path else[]) m S)
 |0,_,m,_,S,Q,_,h=>by grind [Out.nil,sK.a,absurd]
 | k +1,hk,m,hm,S,Q,v,h=>by
  have G:=sc u pk s k fy hm v h;obtain⟨e,he⟩:∃e,t.es[k]? =some e:=⟨_,kp fy⟩;rw[sV,tO,Cw,hQ,h8 he];refine G.app λH C=>?_
  cases B:pk k with
  |false=>
   grind [Out.nil,sK.a,id,Nat.lt_or_ge]
  | true=>
   rw[if_pos rfl];refine(QG u (hm.sf _) fS (λhq=>?_) C).mono λI w=>⟨w.a,λy F hq=>w.f y F ?_⟩
   ·rcases hq with hq|⟨i,x,h1,d,n,g⟩
    ·exact v k e he B hq
    ·have g1:=s i x d n;have g2:=s k e he B;rw[g,g2]at g1;omega
   ·rcases hq with hq|⟨i,x,h1,d,n,g⟩
    ·exact .inl (.inl hq)
    ·by_cases E:i=k
     ·subst E;rw[he]at d;obtain rfl:=jk d;exact .inr g.symm
     ·exact .inl (.inr ⟨i,x,fy,d,n,g⟩)
theorem Qs (s:gQ t=true) (H:∀e∈t.es,D e.path=true->(nodeAt t e.node).kind=1) (hlen:U.es.length+t.es.length<=100) (hm:kH m) (h:Bv U t D 1 1 0 S):Out U t m (pO t D).length (sK U t D λ_=>True) (runM t (pO t D) m S):=by
 have w:=hy s
 have J:1<=t.es.length:=by
  obtain⟨e,he,_⟩:=w.f.g.root;exact fS
 have h1:=BT s H hlen hm h t.es.length J (gJ _)
 have M:∀{i e},t.es[i]? =some e->(nodeAt t e.node).kind=1->gx t.es e.node=i:=λ{i e} he hk=>by
  obtain⟨_,f2,f3,_⟩:=iE he;have:=w.f.g.dir e fS hk _ fS f3;exact(jY w.f f2 he (by rw[this])).1
 have G:uw t t.es.length=(List.range t.es.length).flatMap λi=>if(decide ((nodeAt t (gY t i).node).kind≠1)&&decide (gx t.es (gY t i).node=i))then ny (gY t i).path else[]:=by
  unfold uw;refine congrArg (λf=>(List.range t.es.length).flatMap f) (funext λi=>?_);unfold NF;simp only[iO,decide_eq_true_eq]
 have ed:∀d,qI t d t.es.length=(List.range t.es.length).flatMap λi=>if(decide ((nodeAt t (gY t i).node).kind=1)&&decide ((fZ (gY t i).path).length=d))then ny (gY t i).path else[]:=λd=>by
  unfold qI;refine congrArg (λf=>(List.range t.es.length).flatMap f) (funext λi=>?_)
  grind [NP]
 have I:∀d {m:gZ},kH m->∀{S:fY},sK U t D (λz=>∀e∈t.es,e.node=z->(nodeAt t z).kind≠1∨d<(fZ e.path).length) S->Out U t m (l8 t d).length (sK U t D λ_=>True) (runM t (l8 t d) m S):=by
  intro d
  induction d with
  |zero=>
   intro m hm S x;show Out U t m (qI t 0 t.es.length).length _ (runM t (qI t 0 t.es.length) m S)
   rw[ed];refine(sc s _ (λi e he u=>?_) t.es.length (gJ _) hm (λi e he u hq=>?_) x).mono λv n=>⟨n.a,λe he _=>n.f e he ?_⟩
   ·grind [h8]
   ·grind [h8,List.mem_of_getElem?]
   grind [nodeAt,List.getElem?_of_mem,Nat.pos_of_ne_zero,List.getElem?_eq_some_iff,h8]
  | succ d K=>
   intro m hm S x;rw[l8,hQ];refine Out.app (P:=sK U t D (λz=>∀e∈t.es,e.node=z->(nodeAt t z).kind≠1∨d<(fZ e.path).length)) ?_ λv n=>K (hm.sf _) n
   rw[ed];refine(sc s _ (λi e he u=>?_) t.es.length (gJ _) hm (λi e he u hq=>?_) x).mono λv n=>⟨n.a,λe he hq=>n.f e he ?_⟩
   ·grind [h8]
   ·grind [h8,List.mem_of_getElem?]
   ·refine Jh λB=>?_
    rw[not_or]at B;refine B.1 λy F C=>?_
    rcases hq y F C with h|h
    ·exact .inl h
    ·by_cases hk:(nodeAt t e.node).kind=1
     ·obtain⟨i,hi⟩:=tB F;refine .inr (Nat.lt_of_le_of_ne h λh0=>B.2 ⟨i,y,(j0.1 hi).1,hi,?_,C⟩);rw[h8 hi];simp only[iO,decide_eq_true_eq];exact⟨by rw[C];exact hk,h0.symm⟩
     ·exact .inl hk
 unfold pO;rw[hQ,hQ];refine Out.app (P:=sK U t D (λz=>(nodeAt t z).kind≠1)) ?_ λv n=>I 8 (hm.sf _) ⟨n.a,λe he hq=>n.f e he ?_⟩
 ·refine h1.app λv n=>?_
  rw[G];refine(sc (Q:=λ_=>False) s _ (λi e he u=>?_) t.es.length (gJ _) (hm.sf _) (λ_ _ _ _ h=>h) ⟨n,λ_ _ h=>h.elim⟩).mono λL E=>⟨E.a,λe he hk=>E.f e he (.inr ?_)⟩
  ·grind [h8]
  ·obtain⟨i,hi⟩:=tB he;obtain⟨f1,f2,f3,_⟩:=iE hi
   grind
 ·
  rcases hq e he rfl with h|h
  ·exact h
  ·have u:=w.f.g.path e he
   have:(fZ e.path).length<=8:=by
    by_cases h0:e.path=[]
    ·rw[h0];exact iy _
    ·simp_all [ig,sd]
   omega
theorem Qu (s:gQ t=true) (h:sK U t D (λ_=>True) S) (C:∀p z,fR U.es p=some z->∃e∈t.es,e.path=p):hN S=some t:=by
 have B:=hy s
 have K:∀e∈t.es,∃z,fR S.es e.path=some z/\fR S.es (pK t e.node)=some z:=λe he=>by
  obtain⟨j,F⟩:=tB he;obtain⟨z,h1,m,_⟩:=h.a.pr j e F fS
  grind
 have d:∀e∈t.es,fR S.es e.path=some ((fR S.es (pK t e.node)).getD 0):=fS;refine Mu (t:=t) (λk=>(fR S.es (pK t k)).getD 0) (λa u b E J=>?_) ?_ (λe he=>?_) (CE s)
 ·exact h.a.inj a u b E _ (d a u) fS
 ·have H:S.es.Nodup:=(zd.1 h.a.g.f.g.nd).imp fS;have I:(t.es.map (Qk λk=>(fR S.es (pK t k)).getD 0)).Nodup:=zd.2 ((zd.1 B.f.g.nd).imp (by grind [Qk]));refine(List.perm_ext_iff_of_nodup H I).2 λx=>⟨λn=>?_,λn=>?_⟩
  ·have v:=oC h.a.g.f n
   have:∃e∈t.es,e.path=x.path:=by
    refine Jh λG=>?_
    have h1:=(h.a.ol x.path fS).1;rw[v]at h1;exact G (C _ _ h1.symm)
   obtain⟨e,he,w⟩:=this;refine lN.2 ⟨e,he,?_⟩;have h1:=d e he;rw[w,v]at h1;show(⟨e.path,(fR S.es (pK t e.node)).getD 0⟩:En)=x
   rw[w,←jk h1]
  ·obtain⟨e,he,rfl⟩:=lN.1 n;obtain⟨y,L,h1,m⟩:=hB (d e he)
   have:y=Qk (λk=>(fR S.es (pK t k)).getD 0) e:=by
    show y=(⟨e.path,(fR S.es (pK t e.node)).getD 0⟩:En)
    rw[←h1,←m]
   grind
 ·obtain⟨h1,m⟩:=(iQ h.a.g.f (d e he)).2;exact⟨h1,m,h.f e he trivial _ (d e he)⟩
end
section
theorem XC (u:fH x=true) (v:fH y=true) (a:x.kind=1) (d:y.kind=1):Ct x y:=by
 have key:∀x:Nd,fH x=true->x.kind=1->x.size=0/\x.data=[]/\x.target=[]/\x.major=0/\x.minor=0:=by grind [fH,ib,jq,jG]
 obtain⟨f,a2,a3,a4,a5⟩:=key _ u a;obtain⟨g,m,n,s,t⟩:=key _ v d;exact⟨a.trans d.symm,f.trans g.symm,a2.trans m.symm,a3.trans n.symm,a4.trans s.symm,a5.trans t.symm⟩
variable {t:fY}
theorem wj (d:gQ t=true) (he:t.es[i]? =some e) (hk:(nodeAt t e.node).kind=1):gx t.es e.node=i:=by
 have a:=hy d;obtain⟨_,f2,f3,_⟩:=iE he;have:=a.f.g.dir e fS hk _ fS f3;exact(jY a.f f2 he (by rw[this])).1
theorem yB (n:gQ t=true):∃r,t.es[0]? =some r/\r.path=[]/\(nodeAt t r.node).kind=1:=by
 have a:=(hy n).f;obtain⟨r,v,h1,m⟩:=a.g.root;obtain⟨j,s⟩:=tB v;obtain⟨r0,d⟩:∃r0,t.es[0]? =some r0:=fS
 have h0:r0.path=[]:=by
  refine Jh λu=>?_
  obtain⟨x,_,w,_⟩:=DV a d u;omega
 obtain⟨_,rfl⟩:=jY a d s (h0.trans h1.symm);exact⟨r0,d,h0,m⟩
theorem Mj (y:gQ t=true) (s:lU U) (Y:∀e∈t.es,D e.path=true->(nodeAt t e.node).kind=1/\∃z,fR U.es e.path=some z/\(nodeAt U z).kind=1) (O:∀e∈t.es,e.path≠[]->D e.path=false->fR U.es e.path=none):Bv U t D 1 1 0 U:=by
 have m:=hy y;obtain⟨r,v,F,G⟩:=yB y;have Q:=jS v;obtain⟨x,S,T,V⟩:=s.f.g.root;have R:fR U.es []=some x.node:=by rw[←T];exact oC s.f S
 have both:∀(j:Nat) (e:En),t.es[j]? =some e->∀z,fR U.es e.path=some z->(nodeAt U z).kind=1/\(nodeAt t e.node).kind=1:=λj e he z d=>by
  have hm:=jS he
  by_cases h0:e.path=[]
  ·obtain⟨_,rfl⟩:=jY m.f he v (h0.trans F.symm);rw[h0,R]at d;obtain rfl:=jk d;exact⟨V,G⟩
  grind
 have one:∀p q z,fR U.es p=some z->fR U.es q=some z->(nodeAt U z).kind=1->p=q:=λp q z E hq hk=>by
  obtain⟨a,H,X,a2⟩:=hB E;obtain⟨b,I,C,B⟩:=hB hq;have:=s.f.g.dir a H (by rw[a2];exact hk) b I (B.trans a2.symm)
  grind
 have aa:∀(j:Nat) (e:En),t.es[j]? =some e->(nodeAt t e.node).kind=1->pK t e.node=e.path:=by grind [pK,wj,h8]
 have h1:qF t 1=1:=by
  obtain⟨g1,g2,g3,g4,_⟩:=qg y v;have w:qF t 0=0:=by unfold qF;rw[rk];rfl
  rw[g4,w];rw[w]at g2;rw[if_neg fy]
 refine⟨s,KT _,λ_=>rfl,λj e he u=>?_,λj e he u J=>?_,λe he e' K z d W=>?_,λp E=>⟨rfl,λz d=>⟨rfl,λe he Z=>?_⟩⟩,λ(j:Nat) (e:En) z he u d=>?_,?_⟩
 ·grind
 ·refine O e fS (λh0=>?_) J;have:=(jY m.f he v (h0.trans F.symm)).1;omega
 ·obtain⟨j,u⟩:=tB he;obtain⟨ab,M⟩:=tB K;have:=one _ _ z d W (both j e u z d).1;rw[(jY m.f u M this).2]
 ·grind [List.getElem?_of_mem]
 ·obtain⟨C,B⟩:=both j e he z d;exact XC (uz s d) (m.f.g.node e fS) C B
 ·have N:=m.f.g.node r Q;obtain⟨g1,g2,g3,_,_⟩:=qg y v;have w:qF t 0=0:=by unfold qF;rw[rk];rfl
  rw[w]at g2
  have L:t.ns[0]? =some (nodeAt t r.node):=by
   unfold nodeAt;rw[show r.node.toNat=0 from by omega,kv,kp fy];rfl
  rw[h1,mW L,rk,yy (n:=nodeAt t r.node) N (by rw[G];decide)];rfl
def uR (n:Nd):Nat:=if n.kind=2 then n.data.length+(if n.size=mz n.data then 0 else 1)else 0
def mq:List Nd->Nat
 |[]=>0
 |n::l=>uR n+mq l
theorem zK:∀(a b:List Nd),mq (a++b)=mq a+mq b
 |[],b=>by grind [mq]
 |n::a,b=>by rw[qp,mq,mq,zK a b,Hj]
theorem wD {l:List Nd} (h:l[i]? =some n):mq (l.take (i+1))=mq (l.take i)+uR n:=by
 rw[kO,h,zK];show _+(uR n+0)=_
 rw[kS]
theorem MA (p:fQ) (n:Nd):(n3 p n).length=uR n:=by
 grind [n3,uR,List.length_append,Gq,List.length_map,List.length_range,mz]
theorem CK (h:n.kind=1):uR n=0:=by grind [uR]
theorem Dl (a:gQ t=true):∀k,1<=k->k<=t.es.length->(nH t (λ_=>false) k).length=(k-1)+mq (t.ns.take (qF t k))
 |0,h,_=>absurd h fV
 | 1,_,_=>by
  obtain⟨r,m,v,n⟩:=yB a;obtain⟨g1,g2,g3,g4,_⟩:=qg a m;have f:qF t 0=0:=by unfold qF;rw[rk];rfl
  rw[f]at g2
  have d:t.ns[0]? =some (nodeAt t r.node):=by
   unfold nodeAt;rw[show r.node.toNat=0 from by omega,kv,kp fy];rfl
  rw[g4,f,if_neg fy,wD d,CK n];rfl
 | k+2,_,hk=>by
  have s:=Dl a (k+1) fy fy;obtain⟨e,he⟩:∃e,t.es[k+1]? =some e:=⟨_,kp fy⟩;have u:gY t (k+1)=e:=h8 he
  have g:nH t (λ_=>false) (k+2)=nH t (λ_=>false) (k+1)++nI t (k+1):=by
   unfold nH;rw[sV,Rj ir,tO,Cw];rfl
  obtain⟨g1,g2,g3,g4,g5⟩:=qg a he;rw[g,hQ,s,g4]
  by_cases fW:gx t.es e.node<k+1
  ·grind [nodeAt,wj,nI]
  ·have hu:¬e.node<qF t (k+1):=λh=>fW (g5.1 h)
   have d:t.ns[qF t (k+1)]? =some (nodeAt t e.node):=by
    unfold nodeAt;rw[show e.node.toNat=qF t (k+1)from by omega,kv,kp fy];rfl
   rw[if_neg hu,wD d]
   grind [nI,nodeAt,CK,List.length_cons,MA]
def yU (t:fY) (p:Nat->Bool) (k:Nat):Nat:=((List.range k).filter p).length
theorem wc (t:fY) (p:Nat->Bool) (k:Nat):yU t p (k+1)=yU t p k+if p k then 1 else 0:=by
 grind [yU,List.range_succ,List.length_append]
theorem se (t:fY) (p:Nat->Bool):∀k,((List.range k).flatMap λi=>if p i then ny (gY t i).path else[]).length=5*yU t p k
 |0=>rfl
 |k+1=>by
  rw[sV,tO,Cw,hQ,se t p k,wc];cases p k
  ·simp
  ·simp[ny];omega
theorem HO (a:gQ t=true):(pO t λ_=>false).length=(t.es.length-1)+mq t.ns+5*t.ns.length:=by
 have m:=hy a
 have v:1<=t.es.length:=by
  obtain⟨e,he,_⟩:=m.f.g.root;exact fS
 have u:qF t t.es.length=t.ns.length:=by unfold qF;rw[km];exact(xO a).2
 have s:=Dl a t.es.length v (gJ _);rw[u,km]at s
 have w:uw t t.es.length=(List.range t.es.length).flatMap λi=>if(decide ((nodeAt t (gY t i).node).kind≠1)&&decide (gx t.es (gY t i).node=i))then ny (gY t i).path else[]:=by
  unfold uw;refine congrArg (λf=>(List.range t.es.length).flatMap f) (funext λi=>?_);unfold NF;simp only[iO,decide_eq_true_eq]
 have ed:∀d,qI t d t.es.length=(List.range t.es.length).flatMap λi=>if(decide ((nodeAt t (gY t i).node).kind=1)&&decide ((fZ (gY t i).path).length=d))then ny (gY t i).path else[]:=λd=>by
  unfold qI;refine congrArg (λf=>(List.range t.es.length).flatMap f) (funext λi=>?_)
  grind [NP]
 have B:∀d,(l8 t d).length=5*yU t (λi=>decide ((nodeAt t (gY t i).node).kind=1)&&decide ((fZ (gY t i).path).length<=d)) t.es.length:=λd=>by
  induction d with
  |zero=>
   grind [l8,se,decide,nodeAt,gY,fZ]
  | succ d n=>
   rw[l8,hQ,ed,se,n,←Nat.mul_add]
   congr 1
   have:∀k,yU t (λi=>decide ((nodeAt t (gY t i).node).kind=1)&&decide ((fZ (gY t i).path).length=d+1)) k+yU t (λi=>decide ((nodeAt t (gY t i).node).kind=1)&&decide ((fZ (gY t i).path).length<=d)) k=yU t (λi=>decide ((nodeAt t (gY t i).node).kind=1)&&decide ((fZ (gY t i).path).length<=d+1)) k:=by
    intro k
    induction k with
    |zero=>rfl
    |succ k E=>
     grind [wc]
   exact this _
 have y:∀k,k<=t.es.length->yU t (λi=>decide ((nodeAt t (gY t i).node).kind≠1)&&decide (gx t.es (gY t i).node=i)) k+yU t (λi=>decide ((nodeAt t (gY t i).node).kind=1)&&decide ((fZ (gY t i).path).length<=8)) k=qF t k:=by
  intro k
  induction k with
  |zero=>intro _;unfold qF;rw[rk];rfl
  | succ k n=>
   intro hk;obtain⟨e,he⟩:∃e,t.es[k]? =some e:=⟨_,kp fy⟩;have C:gY t k=e:=h8 he;obtain⟨g1,g2,g3,g4,g5⟩:=qg a he
   have x:(fZ e.path).length<=8:=by
    have D:=m.f.g.path e fS
    by_cases h0:e.path=[]
    ·rw[h0];exact iy _
    ·simp_all [ig,sd]
   grind [iE,wc,nodeAt,wj,yU,gx]
 grind [List.length,pO,List.length_append,se]
end
section
def mV (s:om):List Value:=[.int .i64 s.kind,.string (su s.path),.string (su s.other),.int .i64 s.n]
theorem O6 (s:om):(mV s).length=4:=rfl
theorem QR (l:List om):∀u∈l.flatMap mV,u.oneCell'=true:=λu hu=>by
 obtain⟨s,_,hu⟩:=yu.1 hu;simp only[mV,hX,sC,or_false]at hu;rcases hu with rfl|rfl|rfl|rfl<;>rfl
theorem KC:xv 78 83 (.agg #[.int .i64 0,.string ⟨#[]⟩,.string ⟨#[]⟩,.int .i64 0]) 4 48:=M7 underlying78 fF
theorem T0:xv 22 3 (.int .i64 0) 1 8:=M7 underlying22 fF
def qC (e:TypeId) (B:Nat) (w w':World):Prop:=Fr (λb=>B<=b/\∃cs,fU w b e cs) w w'
section
variable {e ty:TypeId} {B g:Nat} {a b c w w':World}
theorem qC.t (h1:qC e B a b) (f:qC e B b c):qC e B a c:=Fr.trans h1 f λj n ⟨g,cs,m⟩=>Jh λd=>d ⟨g,cs,(Fr.block h1 j n d).symm.trans m⟩
theorem qC.ext (h:Ext a b):qC e B a b:=h.fr
theorem qC.te (h1:qC e B a b) (d:Ext b c):qC e B a c:=Fr.te h1 d
theorem qC.size (h:qC e B a b):a.heap.size<=b.heap.size:=Fr.size h
theorem qC.gH {cs:Array Value} (h:qC e B w w') (a:fU w g ty cs) (f:ty≠e):fU w' g ty cs:=a.fr h λ⟨_,_,d⟩=>a.Br d f rfl
theorem qC.of {α:Type} {d:α->List Value} {z:Nat} {v:Value} {l:List α} (hO:Ow d z w B e v l) (f:Fr (λb=>v.ownBlock=some b) w w'):qC e B w w':=f.mono λ_ _ a=>⟨(hO.gH a).1,hO.x3 a⟩
theorem qC.tr {ve vn:Value} {fK:List gG} {t:fY} (h:qC e B w w') (a:nj w ve vn fK t) (d:∀b,RW ve vn fK t b->b<B):nj w' ve vn fK t:=a.A4 h fS
theorem qC.cell {p:Addr} {v:Value} (h:qC e B w w') (hc:w.cell? p=some v) (a:p.block<B):w'.cell? p=some v:=Fr.cell h hc fy
end
def Oo (B:Nat) (w:World) (l:List om) (r:Value) (w':World):Prop:=Ow mV 4 w' B 83 r l/\qC 83 B w w'
section
variable {hs:List Nat} {full:Array Oper} {K:Env->World->Prop} {rest:List Oper} {env:Env} {w:World} {d1 d2 d3:Tmp} {y1 y2 y3:TypeId} {p1 p2 p3:String} {a1 a2 a3:Array Edge}
theorem Cr {parts:List (Nat×Operand)} {vs:List (Nat×Value)} {x y z:Operand} {v:Value} {B:Nat} {l:List om} (s:om) (n:UO env parts=some vs) (m:prog.built 83 vs=some (mV s).toArray) (hO:Ow mV 4 w B 83 v l) (H:l.length<=1000000) (F:B<=w.heap.size)
  (C:gh ((d1,.agg (mV s).toArray)::env) x=some (.agg (mV s).toArray)) (D:gh ((d2,.slice (some ⟨w.heap.size,0,none⟩) 1 1)::(d1,.agg (mV s).toArray)::env) y=some v) (E:gh ((d2,.slice (some ⟨w.heap.size,0,none⟩) 1 1)::(d1,.agg (mV s).toArray)::env) z=some (.slice (some ⟨w.heap.size,0,none⟩) 1 1))
  (h:∀a w',Ow mV 4 w' B 83 a (l++[s])->qC 83 B w w'->xs prog fD fC hs gL full K rest ((d3,a)::(d2,.slice (some ⟨w.heap.size,0,none⟩) 1 1)::(d1,.agg (mV s).toArray)::env) w'):
  xs prog fD fC hs gL full K (⟨some d1,.build 83 parts.toArray,y1,p1,a1,none⟩::⟨some d2,.buildSlice 78 1 #[(0,x)],y2,p2,a2,none⟩::⟨some d3,.call {callee:= .builtin .append,args:=⟨[y,z]⟩,argTypes:=⟨[78,78]⟩},y3,p3,a3,none⟩::rest) env w:=by
 refine qv n m ?_;refine nY KC C fx fV fV (λL f d I=>?_);refine jI (news:=mV s) KC fx fV D (gD.ext hO d) E (gS f fV fx) fx (λu hu=>QR [s] u (by simpa using hu)) (by grind [maxLen]) fy fy (λa w' G g J=>?_);exact h a w' (by grind [Ow.ext1,mV]) (qC.t (qC.ext d) (qC.of (hO.ext d) g))
end
def IJ:Array Value:= #[.int .i64 6,.int .i64 7,.int .i64 8,.int .i64 9,.int .i64 10]
theorem I5 (h:i<5):IJ[i]? =some (.int .i64 (6+(i:Int))):=by
 have:i=0∨i=1∨i=2∨i=3∨i=4:=fy;rcases this with rfl|rfl|rfl|rfl|rfl<;>rfl
theorem M4 (p:fQ) (h:i<5):(ny p).take (i+1)=(ny p).take i++[⟨6+(i:Int),p,[],0⟩]:=by
 have:i=0∨i=1∨i=2∨i=3∨i=4:=fy;rcases this with rfl|rfl|rfl|rfl|rfl<;>rfl
attribute [local irreducible] xs T
theorem ze (w:World) (B:Nat) (v:Value) (l:List om) (p:fQ) (hO:Ow mV 4 w B 83 v l) (D:B<=w.heap.size) (F:l.length<=900000):fL prog 114 #[v,.string (su p)] w (Oo B w (l++ny p)):=by
 refine gK func114 fx fF ?_;refine fA ?_;refine h9 (α:=Nat×Value) 0 fx (λx=>[(0,x.2),(1,.string (su p)),(5,.pointer (some ⟨w.heap.size,0,none⟩)),(6,.int .i64 (x.1:Int))]) (λx w'=>x.1<=5/\Oo B w (l++(ny p).take x.1) x.2 w'/\fU w' w.heap.size 233 IJ) (λx=>5-x.1) ?_ ?_
 ·rintro⟨i,v1⟩ s ⟨hi,⟨f,d⟩,n⟩;dsimp only at hi f⊢;have I:=d.size
  by_cases fW:i<5
  ·have q0:s.cell? ⟨w.heap.size,0+i,none⟩=some (.int .i64 (6+(i:Int))):=by rw[n.cell,iC];exact I5 fW
   have hlen:(l++(ny p).take i).length<=1000000:=by
    have:((ny p).take i).length<=5:=fS;rw[hQ];omega
   refine goX ?_;refine Cr ⟨6+(i:Int),p,[],0⟩ (vs:=[(0,.int .i64 (6+(i:Int))),(1,.string (su p))]) fx fF f hlen fy fx fx fx (λv2 g E a=>?_);refine fA ?_;exact gX fx ⟨_,fS,rfl,(i+1,v2),sub ⟨rfl,rfl,rfl,rfl⟩,⟨fW,⟨by grind [M4,List.append_assoc],d.t a⟩,a.gH n fV⟩,rfl⟩
  ·obtain rfl:i=5:=fy;refine fA ?_;exact fB fx fx ⟨f,d⟩
 ·intro H;refine fA ?_;refine qv (cells:=IJ) fx fF ?_;refine fA ?_;refine gy (z:= .agg #[.int .i64 0,.int .i64 0,.int .i64 0,.int .i64 0,.int .i64 0]) fF (λs u C G=>?_);refine hd u fx fx fF fx fF (λg y a=>?_);have m:Ext w g:=C.trans a fS;refine fA ?_;refine hv ?_;exact ic (H (0,v) g ⟨iy 5,⟨by simpa using hO.ext m,qC.ext m⟩,y⟩) (sub ⟨rfl,rfl,rfl,rfl⟩)
def Nl (es:List En) (i k:Nat):Nat:=if(es.drop i).any (λe=>decide (e.node=(k:Int)))then i+(es.drop i).findIdx (λe=>decide (e.node=(k:Int)))else 0
def tj (t:fY) (i:Nat):Array Value:=((List.range t.ns.length).map λk=>Value.int .i64 ((Nl t.es i k:Nat):Int)).toArray
theorem Od {es:List En} (h:es.drop i=e::es.drop (i+1)) (k:Nat):Nl es i k=if e.node=(k:Int)then i else Nl es (i+1) k:=by
 grind [Nl,decide_false]
theorem OP (t:fY):tj t t.es.length=Array.replicate t.ns.length (.int .i64 0):=by
 grind [tj,Nl,List.drop_length,List.map_const']
theorem Mf (t:fY) (i:Nat):(tj t i).size=t.ns.length:=by unfold tj;simp
theorem MY {t:fY} {k:Nat} (h:t.es.drop i=e::t.es.drop (i+1)) (hk:e.node=(k:Int)):(tj t (i+1)).setIfInBounds k (.int .i64 (i:Int))=tj t i:=by
 refine Array.ext (by simp[tj]) λj h1 a=>?_
 grind [tj,Od]
theorem Gz {t:fY} {k:Nat} (h:t.es[j]? =some e) (hk:e.node=(k:Int)) (fW:k<t.ns.length):(tj t 0)[k]? =some (.int .i64 ((gx t.es e.node:Nat):Int)):=by
 unfold tj Nl gx;have hm:=jS h;have a:t.es.any (λx=>decide (x.node=(k:Int)))=true:=fS
 simp_all
theorem HT (w:World) (ve vn:Value) (fK:List gG) (t:fY) (u:nj w ve vn fK t) (J:∀e∈t.es,0<=e.node/\e.node<t.ns.length) (S:t.es.length<=1000000) (T:t.ns.length<=1000000):fL prog 65 #[.agg #[ve,vn]] w λr w'=>∃g,r= .slice (some ⟨g,0,none⟩) t.ns.length t.ns.length/\fU w' g 3 (tj t 0)/\w.heap.size<=g/\Ext w w':=by
 refine gr func65 fx fF ?_;have hlen:=u.len;obtain⟨A,c,rfl,M,O,D⟩:=u.e.op gj;obtain⟨v,x,rfl,N,Q,_⟩:=u.n.op gI;refine fA ?_;refine hD fx (λd E s U=>?_);have m:fU d w.heap.size 26 #[.slice A t.es.length c,.slice v fK.length x]:=E;refine fA ?_;refine h9 (α:=Nat) 0 fx (λi=>[(1,.pointer (some ⟨w.heap.size,0,none⟩)),(3,.slice (some ⟨d.heap.size,0,none⟩) t.ns.length t.ns.length),(4,.int .i64 (i:Int))]) (λi w'=>i<=t.es.length/\Ext d w'/\fU w' d.heap.size 3 (tj t i)) (λi=>i) ?_ ?_
 ·rintro i f ⟨hi,a,y⟩;have m0:f.cell? ⟨w.heap.size,0,none⟩=some (.slice A t.es.length c):=(m.ext a).cell 0;rcases xE i with rfl|h0
  ·refine fA ?_;exact fB fx fx ⟨_,rfl,y,s.size,s.t a⟩
  ·obtain⟨i,rfl⟩:∃j,i=j+1:=⟨i-1,fy⟩;obtain⟨b,o,e,rfl,_,he,R,I⟩:=D.at_ (show i<t.es.length from hi);obtain⟨h1,K⟩:=J e fS;obtain⟨k,hk⟩:=lO h1;have q1:f.cell? ⟨b,o+i*2+1,none⟩=some (.int .i64 (k:Int)):=by rw[←hk];exact a.cell (s.cell (I 1 _ rfl))
   have B:((i+1:Nat):Int)-1=(i:Int):=fy
   repeat' (first|refine gF i (o+i*2) rfl rfl rfl B rfl hi ?_|refine gF k k rfl rfl rfl rfl fy fy ?_|refine fT ?_|fail)
   refine iq y fx fx fF fx (by grind [Mf,decide_eq_true]) (λW L G=>?_);refine fA ?_;exact gX fx ⟨_,yD i,rfl,i,sub ⟨rfl,rfl,jX fy⟩,⟨Rx hi,a.trans G fS,by grind [MY]⟩,rfl⟩
 ·intro H;have m1:d.cell? ⟨w.heap.size,1,none⟩=some (.slice v fK.length x):=m.cell 1;refine fA ?_;refine XQ (n:=((fK.length:Nat):Int)) T0 fx fx fx fy fy fy (λf F a V=>?_) (λ_ _=>True.intro);have C:((fK.length:Nat):Int).toNat=t.ns.length:=fy;rw[C]at F⊢;have m0:f.cell? ⟨w.heap.size,0,none⟩=some (.slice A t.es.length c):=(m.ext a).cell 0;refine fA ?_;refine hv ?_;exact ic (H t.es.length f (by grind [OP])) (sub ⟨rfl,rfl,rfl⟩)
theorem JE (w:World) (p:fQ) (h:gU p=true):fL prog 115 #[.string (su p)] w λr w'=>r= .int .i64 ((fZ p).length:Int)/\Ext w w':=by
 refine gr func115 fx fF ?_;refine fA ?_;refine fI fx fx (oa w p) ?_;rintro r g ⟨rfl,a⟩;rw[h];refine fA ?_;refine fI fx fx (zq g p) ?_;rintro r m ⟨f,d⟩;obtain⟨A,c,rfl,_,_⟩:=f.form;refine fA ?_;exact fB fx fx ⟨rfl,a.t d⟩
end
end Go.Proofs.YtecaahegomdbbaaGreatDoor.gp
