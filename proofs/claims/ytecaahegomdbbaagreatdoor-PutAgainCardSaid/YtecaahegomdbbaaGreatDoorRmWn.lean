/- Parts of the proof. -/
import Derived.Test.YtecaahegomdbbaaGreatDoorRmWi
import Derived.Test.YtecaahegomdbbaaGreatDoorRmWk
set_option linter.all false
set_option maxRecDepth 99999
set_option maxHeartbeats 0
namespace Go.Proofs.YtecaahegomdbbaaGreatDoor.gr
open Go.Proofs.Tryz
open Go.RowKit
section
attribute [local irreducible] xs T
def yy (e:En):(hR e).toArray.all (·.oneCell')=true:=by simp[hR,Value.oneCell']
def kk (w:i5) (ve vn:i6) (l:ip En) (p:fL) (y:Rw hR w ve l):fQ prog 63 #[.agg #[ve,vn],.U p] w λr w'=>r= .tuple #[.I ((fK l p).getD 0),.bool (fK l p).isSome]/\Ext w w':=by
 refine gP func63 fx fE ?_;obtain⟨A,c,rfl,B,C,n⟩:=y.op gi;refine fA ?_;refine hP fx (λf u g D=>?_);have t:fW f w.heap.size 26 #[.slice A l.length c,vn]:=u;have k0:gc f w.heap.size 0 (.slice A l.length c):=t.cell 0;refine fA ?_;refine iq (α:=Nat) 0 fx (λi=>[(1,.U p),(2,.P w.heap.size),(6,.I (i:Int))]) (λi w'=>f=w'/\i<=l.length/\fK (l.drop i) p=fK l p) (λi=>l.length-i) ?_ ?_
 .rintro i F ⟨rfl,hi,d⟩
  by_cases fY:i<l.length
  .obtain⟨b,o,x,rfl,_,E,v,m⟩:=n.at_ fY;have q0:gc f b (o+i*2+0) (.U x.path):=g.cell (m 0 _ rfl);have q1:gc f b (o+i*2+1) (.I x.node):=g.cell (m 1 _ rfl);rw[v,fK]at d
   by_cases e:x.path=p
   .rw[if_pos e]at d;refine abe ?_;exact ia fx fx fx ⟨by rw[<-d];rfl,g⟩
   .rw[if_neg e]at d;refine abl ?_;exact hy fx ⟨_,(by show l.length-(i+1)<l.length-i;omega),rfl,i+1,sub ⟨rfl,rfl,rfl⟩,⟨rfl,fy,d⟩,rfl⟩
  .obtain rfl:i=l.length:=fy;rw[jP]at d;refine fA ?_;exact ia fx fx fx ⟨by rw[<-d];rfl,g⟩
 .intro H;refine fA ?_;refine hI ?_;exact iw (H 0 f ⟨rfl,iF _,rfl⟩) (sub ⟨rfl,rfl,rfl⟩)
def um (w:i5) (ve vn:i6) (l:ip En) (p:fL) (y:Rw hR w ve l):fQ prog 24 #[.agg #[ve,vn],.U p] w λr w'=>r= .tuple #[.I ((fK l p).getD 0),.bool (fK l p).isSome]/\Ext w w':=by
 refine gP func24 fx fE ?_;obtain⟨A,c,rfl,B,C,n⟩:=y.op gi;refine fA ?_;refine hP fx (λf u g D=>?_);have t:fW f w.heap.size 26 #[.slice A l.length c,vn]:=u;have k0:gc f w.heap.size 0 (.slice A l.length c):=t.cell 0;refine fA ?_;refine gC (α:=Nat) (λi=>[(1,.U p),(2,.P w.heap.size),(6,.I (i:Int))]) (λi w'=>f=w'/\i<=l.length/\fK (l.drop i) p=fK l p) (λi=>l.length-i) 0 (sub ⟨rfl,rfl,rfl⟩) ⟨rfl,iF _,rfl⟩ ?_;rintro i F ⟨rfl,hi,d⟩
 by_cases fY:i<l.length
 .obtain⟨b,o,x,rfl,_,E,v,m⟩:=n.at_ fY;have q0:gc f b (o+i*2+0) (.U x.path):=g.cell (m 0 _ rfl);have q1:gc f b (o+i*2+1) (.I x.node):=g.cell (m 1 _ rfl);rw[v,fK]at d
  by_cases e:x.path=p
  .rw[if_pos e]at d;refine abe ?_;exact ia fx fx fx ⟨by rw[<-d];rfl,g⟩
  .rw[if_neg e]at d;refine abl ?_;exact gl ⟨i+1,sub ⟨rfl,rfl,rfl⟩,⟨rfl,fy,d⟩,(by show l.length-(i+1)<l.length-i;omega)⟩
 .obtain rfl:i=l.length:=fy;rw[jP]at d;refine fA ?_;exact ia fx fx fx ⟨by rw[<-d];rfl,g⟩
def uV (ns:ip Nd):Prop:=∀n∈ns,fF n.data<=1000000
theorem qk:∀(a b:ip Nd),gf (a++b)=gf a+gf b
 |[],b=>by simp[gf]
 |p::a,b=>by rw[rf,gf,gf,qk a b];omega
theorem oZ {l:ip Nd} {i:Nat} {n:Nd} (h:l[i]? =some n):gf (l.take (i+1))=gf (l.take i)+fF n.data:=by
 rw[j2,h,wD,qk];simp[gf]
def DE {l:ip Nd} (h:uV l):gf l<=1000000*l.length:=by
 induction l with
 |nil=>simp[gf]
 |cons n r f=>
  have:=f λx d=>h x (by simp[d])
  have:=h n iB;rw[gf,iP];omega
def xr (w:i5) (ve vn:i6) (fO:ip gG) (t:fZ) (f:mE w ve vn fO t) (B:uV t.ns) (O:t.ns.length<=1000000):fQ prog 39 #[.agg #[ve,vn]] w λr w'=>r= .I (gf t.ns:Int)/\Ext w w':=by
 refine gD func39 fx fE ?_;obtain⟨A,c,rfl,L,M,C⟩:=f.n.op gw;have hlen:=f.len;refine fA ?_;refine hP fx (λg E m Q=>?_);have D:fW g w.heap.size 26 #[ve,.slice A fO.length c]:=E;have k1:gc g w.heap.size 1 (.slice A fO.length c):=D.cell 1;refine fA ?_;refine iq (α:=Nat) 0 fx (λi=>[(1,.P w.heap.size),(3,.I (gf (t.ns.take i):Int)),(4,.I (i:Int))]) (λi w'=>Ext g w'/\i<=fO.length) (λi=>fO.length-i) ?_ ?_
 .rintro i y ⟨d,hi⟩;have m1:gc y w.heap.size 1 (.slice A fO.length c):=d.cell k1
  by_cases fY:i<fO.length
  .obtain⟨b,o,x,rfl,_,v,N,I⟩:=C.at_ fY;have K:∀j u,(gB x)[j]? =some u->gc y b (o+i*12+j) u:=λj u hu=>d.cell (m.cell (I j u hu))
   have J:=f.i x (jT v);have G:=B x.n (jT (f.get v));have R:=oZ (f.get v)
   have hle:gf (t.ns.take (i+1))<=1000000*(i+1):=by
    have:=DE (l:=t.ns.take (i+1)) λn hm=>B n (DC hm)
    rw[kv]at this;omega
   repeat' (first|refine gH i (o+i*12) fx fx fx fx fx fY ?_|refine fT ?_|fail)
   refine hV (cs:=gB x) fx fx K ?_;refine fH fx fx (qv y x (J.ext (m.t d)) G) (λr S h3=>?_);obtain⟨rfl,F⟩:=h3;refine fA ?_;exact hy fx ⟨_,(by show fO.length-(i+1)<fO.length-i;omega),rfl,i+1,sub ⟨rfl,km fy,rfl⟩,⟨d.t F,fy⟩,rfl⟩
  .obtain rfl:i=fO.length:=fy;refine fA ?_;exact fB fx fx ⟨by rw[hlen,kh],m.t d⟩
 .intro H;refine fA ?_;refine hI ?_;exact iw (H 0 g ⟨Fr.refl _ _,iF _⟩) (sub ⟨rfl,rfl,rfl⟩)
def Ro {ns:ip Nd} {es:ip En} {i used:Nat} {e:En} (he:es[i]? =some e):uO ns ((h6 es i).map (·.path)) used (es.drop i)=(gX e.path&&(match(h6 es i).map (·.path)with|none=>decide (e.path=[])|some p=>ix p e.path)&&decide (0<=e.node)&&decide (e.node<=used)&&decide (e.node<ns.length)&&
  (if e.node<used then decide (fV ns e.node≠1)&&uO ns ((h6 es (i+1)).map (·.path)) used (es.drop (i+1))else fG (ns.getD used default)&&uO ns ((h6 es (i+1)).map (·.path)) (used+1) (es.drop (i+1)))):=by
 rw[mA he,prev_next he];generalize h6 es i=p;cases p<;>rfl
structure OrI (t:fZ) (w1:World) (x:Nat×Nat) (w:World):Prop where
 i:x.1<=t.es.length
 u:x.2<=t.ns.length
 go:uO t.ns ((h6 t.es x.1).map (·.path)) x.2 (t.es.drop x.1)=uO t.ns none 0 t.es
 ext:Ext w1 w
def qm (w:i5) (ve vn:i6) (fO:ip gG) (t:fZ) (C:mE w ve vn fO t) (ah:uV t.ns):fQ prog 61 #[.agg #[ve,vn]] w λr w'=>r= .bool (uO t.ns none 0 t.es)/\Ext w w':=by
 refine gD func61 fx fE ?_;obtain⟨A,c,rfl,aA,aB,ab⟩:=C.e.op gi;obtain⟨L,M,rfl,ar,aC,ad⟩:=C.n.op gw;have hlen:=C.len;rw[hlen]at ar;refine fA ?_;refine hP fx (λI am f aF=>?_);have ae:fW I w.heap.size 26 #[.slice A t.es.length c,.slice L fO.length M]:=am;have k0:gc I w.heap.size 0 (.slice A t.es.length c):=ae.cell 0;have k1:I.cell? ⟨w.heap.size,1,none⟩=some (.slice L t.ns.length M):=by rw[<-hlen];exact ae.cell 1
 refine fA ?_;refine iq (α:=Nat×Nat) 0 fx (λx=>[(1,.P w.heap.size),(3,.I (x.2:Int)),(4,.I (x.1:Int))]) (OrI t I) (λx=>t.es.length-x.1) ?_ ?_
 .rintro⟨i,used⟩ D ⟨hi,hu,d,J⟩;dsimp only at hi hu d J|-;have m0:gc D w.heap.size 0 (.slice A t.es.length c):=J.cell k0;have m1:gc D w.heap.size 1 (.slice L t.ns.length M):=J.cell k1
  by_cases fY:i<t.es.length
  .obtain⟨b,o,e,rfl,_,he,_,au⟩:=ab.at_ fY;rw[Ro he]at d;have aw:∀j u,(hR e)[j]? =some u->gc D b (o+i*2+j) u:=λj u hu=>J.cell (f.cell (au j u hu))
   refine zD ?_;refine hV (cs:=hR e) fx fx aw ?_;refine gx (z:= .agg #[.string ⟨#[]⟩,.I 0]) fE (λaJ an ao aG=>?_);refine gY (cs:=(hR e).toArray) an fx fx fx fx (yy e) (λS af aq=>?_);have ap:Ext I S:=J.t (Ext.te ao aq λj aE e=>by have e':j=D.heap.size:=e;omega);have q0:gc S D.heap.size 0 (.U e.path):=af.cell 0;have q1:gc S D.heap.size 1 (.I e.node):=af.cell 1;refine fA ?_;refine fH fx fx (oC S e.path) (λr B ak=>?_);obtain⟨rfl,V⟩:=ak;have F:Ext I B:=ap.t V;have p0:gc B D.heap.size 0 (.U e.path):=V.cell q0;have p1:gc B D.heap.size 1 (.I e.node):=V.cell q1;have aI:gc B.drew D.heap.size 0 (.U e.path):=p0;cases hm:gX e.path with
   |false=>
    rw[hm]at d;simp only[hW]at d;refine fA ?_;exact fB fx fx ⟨by rw[<-d],f.t F⟩
   |true=>
   rw[hm,iV]at d;cases i with
   | zero=>
    have aD:=d;simp only[h6,PW]at d
    by_cases g0:e.path=[]
    case neg=>
     rw[decide_eq_false g0]at d;simp only[hW]at d
     repeat' (first|refine gk (op:= .neq) (b:=[]) (r:=true) fx fx (by simp[hG,g0]) ?_|refine fT ?_|fail)
     exact fB fx fx ⟨by rw[<-d],f.t F⟩
    rw[decide_eq_true g0,iV]at d;have E:Ext B B.drew:=Fr.drew _ _
    repeat' (first|refine gk (op:= .neq) (b:=[]) (r:=false) fx fx (by simp[hG,g0]) ?_|refine fT ?_|fail)
    have r1:gc B.drew D.heap.size 1 (.I e.node):=E.cell p1;have r2:gc B.drew w.heap.size 1 (.slice L t.ns.length M):=E.cell (F.cell k1);have v:Ext I B.drew:=F.t E
    by_cases g1:0<=e.node
    case neg=>
     rw[decide_eq_false g1]at d;simp only[hW]at d;exact Zj
    by_cases g2:e.node<=used
    case neg=>
     rw[decide_eq_false g2]at d;simp only[hW,tl]at d;exact Zj
    by_cases g3:e.node<t.ns.length
    case neg=>
     rw[decide_eq_false g3]at d;simp only[hW,tl]at d;exact Zj
    rw[decide_eq_true g1,decide_eq_true g2,decide_eq_true g3,iV,iV,iV]at d;obtain⟨k,hk⟩:=lZ g1;have pA:k<fO.length:=fy;obtain⟨b',o',n,rfl,_,G,_,O⟩:=ad.at_ pA;have Y:fV t.ns e.node=n.n.kind:=by unfold fV;rw[hk,je,C.getD G]
    have r3:gc B.drew b' (o'+k*12+0) (.I n.n.kind):=v.cell (f.cell (O 0 _ rfl))
    by_cases g4:e.node<used
    .rw[if_pos g4,Y]at d
     by_cases g5:n.n.kind=1
     .rw[decide_eq_false (by simpa using g5),hW]at d;refine UX ?_;exact fB fx fx ⟨by rw[<-d],f.t v⟩
     .rw[decide_eq_true (show n.n.kind≠1 from g5),iV]at d;refine UX ?_;exact hy fx ⟨_,(by show t.es.length-(0+1)<t.es.length-0;omega),rfl,(0+1,used),sub ⟨rfl,rfl,rfl⟩,⟨by dsimp only;omega,hu,d,v⟩,rfl⟩
    .rw[if_neg g4]at d;have Z:k=used:=fy;rw[<-Z,C.getD G]at d;have aa:∀j u,(gB n)[j]? =some u->gc B.drew b' (o'+k*12+j) u:=λj u hu=>v.cell (f.cell (O j u hu))
     have X:=C.i n (jT G);have W:=ah n.n (jT (C.get G))
     repeat' (first|refine gH k (o'+k*12) fx fx fx fy fx fy ?_|refine fT ?_|fail)
     refine hV (cs:=gB n) fx fx aa ?_;refine fH fx fx (nY B.drew n (X.ext (f.t v)) W) (λr ay U=>?_);obtain⟨rfl,N⟩:=U;cases Q:fG n.n with
     |false=>
      rw[Q,hW]at d;refine fA ?_;exact fB fx fx ⟨by rw[<-d],f.t (v.t N)⟩
     |true=>
      rw[Q,iV]at d;refine fA ?_;exact hy fx ⟨_,(by show t.es.length-(0+1)<t.es.length-0;omega),rfl,(0+1,k+1),sub ⟨rfl,km (by dsimp only;omega),rfl⟩,⟨by dsimp only;omega,by dsimp only;omega,d,v.t N⟩,rfl⟩
   | succ m=>
    obtain⟨y,ai⟩:∃y,t.es[m]? =some y:=⟨_,j9 fy⟩;have ax:h6 t.es (m+1)=some y:=ai;rw[ax]at d;simp only[tT]at d;obtain⟨az,o2,aK,T,_,R,_,av⟩:=ab.at_ (i:=m) fy;injection T with T
    injection T with aj e4
    subst aj;subst e4;rw[ai]at R;injection R with R
    subst R;have p2:gc B.drew b (o+m*2+0) (.U y.path):=F.cell (f.cell (av 0 _ rfl));have aH:gc B.drew w.heap.size 0 (.S b o t.es.length c):=F.cell k0
    repeat' (first|refine gH m (o+m*2) fx fx fx fy fx fy ?_|refine fT ?_|fail)
    refine fH fx fx (sW B.drew y.path e.path) (λr K E=>?_);obtain⟨rfl,al⟩:=E;have E:Ext B K:=(Fr.drew _ _).t al;cases ag:ix y.path e.path with
    |false=>
     rw[ag]at d;simp only[hW]at d;refine fA ?_;exact fB fx fx ⟨by rw[<-d],f.t (F.t E)⟩
    | true=>
     rw[ag,iV]at d;refine fA ?_;have r1:gc K D.heap.size 1 (.I e.node):=E.cell p1;have r2:gc K w.heap.size 1 (.slice L t.ns.length M):=E.cell (F.cell k1);have v:Ext I K:=F.t E
     by_cases g1:0<=e.node
     case neg=>
      rw[decide_eq_false g1]at d;simp only[hW]at d;exact Zj
     by_cases g2:e.node<=used
     case neg=>
      rw[decide_eq_false g2]at d;simp only[hW,tl]at d;exact Zj
     by_cases g3:e.node<t.ns.length
     case neg=>
      rw[decide_eq_false g3]at d;simp only[hW,tl]at d;exact Zj
     rw[decide_eq_true g1,decide_eq_true g2,decide_eq_true g3,iV,iV,iV]at d;obtain⟨k,hk⟩:=lZ g1;have pA:k<fO.length:=fy;obtain⟨b',o',n,rfl,_,G,_,O⟩:=ad.at_ pA;have Y:fV t.ns e.node=n.n.kind:=by unfold fV;rw[hk,je,C.getD G]
     have r3:gc K b' (o'+k*12+0) (.I n.n.kind):=v.cell (f.cell (O 0 _ rfl))
     by_cases g4:e.node<used
     .rw[if_pos g4,Y]at d
      by_cases g5:n.n.kind=1
      .rw[decide_eq_false (by simpa using g5),hW]at d;refine UX ?_;exact fB fx fx ⟨by rw[<-d],f.t v⟩
      .rw[decide_eq_true (show n.n.kind≠1 from g5),iV]at d;refine UX ?_;exact hy fx ⟨_,(by show t.es.length-(m+1+1)<t.es.length-(m+1);omega),rfl,(m+1+1,used),sub ⟨rfl,rfl,rfl⟩,⟨by dsimp only;omega,hu,d,v⟩,rfl⟩
     .rw[if_neg g4]at d;have Z:k=used:=fy;rw[<-Z,C.getD G]at d;have aa:∀j u,(gB n)[j]? =some u->gc K b' (o'+k*12+j) u:=λj u hu=>v.cell (f.cell (O j u hu))
      have X:=C.i n (jT G);have W:=ah n.n (jT (C.get G))
      repeat' (first|refine gH k (o'+k*12) fx fx fx fy fx fy ?_|refine fT ?_|fail)
      refine hV (cs:=gB n) fx fx aa ?_;refine fH fx fx (nY K n (X.ext (f.t v)) W) (λr ay U=>?_);obtain⟨rfl,N⟩:=U;cases Q:fG n.n with
      |false=>
       rw[Q,hW]at d;refine fA ?_;exact fB fx fx ⟨by rw[<-d],f.t (v.t N)⟩
      |true=>
       rw[Q,iV]at d;refine fA ?_;exact hy fx ⟨_,(by show t.es.length-(m+1+1)<t.es.length-(m+1);omega),rfl,(m+1+1,k+1),sub ⟨rfl,km (by dsimp only;omega),rfl⟩,⟨by dsimp only;omega,by dsimp only;omega,d,v.t N⟩,rfl⟩
  .obtain rfl:i=t.es.length:=fy;rw[jP,uO]at d
   by_cases g:used=t.ns.length
   .refine fA ?_;exact fB fx fx ⟨by rw[<-d,decide_eq_true g],f.t J⟩
   .refine fA ?_;exact fB fx fx ⟨by rw[<-d,decide_eq_false g],f.t J⟩
 .intro H;refine fA ?_;refine hI ?_;exact iw (H (0,0) I ⟨iF _,iF _,rfl,Fr.refl _ _⟩) (sub ⟨rfl,rfl,rfl⟩)
