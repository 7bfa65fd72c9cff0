/- Parts of the proof. -/
import Derived.Test.YtecaahegomdbbaaGreatDoorRmWo
set_option linter.all false
set_option maxRecDepth 99999
set_option maxHeartbeats 0
namespace Go.Proofs.YtecaahegomdbbaaGreatDoor.gr
open Go.Proofs.Tryz
open Go.RowKit
structure NmS where
 i:Nat
 X:List Tg
 seen:List Int
 v5:Value
 nv:List gG
 S:List En
 v4:Value
 gm:Nat
 B4:Nat
 B5:Nat
structure NmI (t:fZ) (g g2:Nat) (vn:Value) (w0:World) (x:NmS) (w:World):Prop where
 perm:x.S.Perm t.es
 A7:x.S.Pairwise yD
 ext:Ext w0 w
 box:w.cell? ⟨g,1,none⟩=some vn
 res:fW w g2 26 #[.slice none 0 0,.slice none 0 0]
 le:x.i<=x.S.length
 len:x.X.length=x.S.length
 rst:(x.X.map Prod.snd).drop x.i=x.S.drop x.i
 go:((x.X.map Prod.snd).take x.i++(iJ x.seen (x.S.drop x.i)).1,(iJ x.seen (x.S.drop x.i)).2)=iJ [] x.S
 inr:(x.S.drop x.i).all (yj t.ns.length)=x.S.all (yj t.ns.length)
 dw:Dw w x.B4 x.v4 x.X
 mp:vO w x.gm (Dp x.seen)
 own:Ow gB 12 w x.B5 37 x.v5 x.nv
 sl:x.seen.length<=x.i
 nd:x.nv.map (·.n)=x.seen.map λk=>t.ns.getD k.toNat default
 ndi:∀y∈x.nv,im w0 y/\y.n∈t.ns
 s1:w0.heap.size<=g2/\g<g2/\g2<x.B4/\g2<x.gm/\x.gm<x.B5/\x.B5<=w.heap.size
 s2:∀b,x.v4.ownBlock=some b->x.X≠[]->b<x.gm
structure aaU where
 j:Nat
 v5:Value
 nv:List gG
 v4:Value
 g11:Nat
 B5:Nat
 t':fZ
structure adw (t:fZ) (g2:Nat) (w0:World) (x:aaU) (w:World):Prop where
 nt:hQ t=some x.t'
 ext:Ext w0 w
 res:fW w g2 26 #[.slice none 0 0,.slice none 0 0]
 xP:fW w x.g11 26 #[x.v4,x.v5]
 le:x.j<=x.nv.length
 ahr:x.nv.length<=100
 re:Ow hR 2 w w0.heap.size 49 x.v4 x.t'.es
 own:Ow gB 12 w x.B5 37 x.v5 x.nv
 nd:x.nv.map (·.n)=x.t'.ns
 ndi:∀y∈x.nv,(im w0 y\/im w y/\NdF x.g11 y)/\y.n∈t.ns
 s1:w0.heap.size<=g2/\g2<x.B5/\g2<x.g11
 s2:∀b,x.v4.ownBlock=some b->g2<b/\b<x.B5
 s3:∀b,x.v5.ownBlock=some b->b<x.g11
 cp:∀i y,i<x.j->x.nv[i]? =some y->rj w x.g11 y
theorem iC {w:i5} {y:gG} (h:im w y):∀u∈gB y,u.oneCell'=true:=λu hu=>by
 obtain⟨n,c1,f,_⟩:=h.a;obtain⟨t,c2,g,_⟩:=h.c;obtain⟨v,c3,m,_⟩:=h.d;unfold gB at hu;rw[f,g,m]at hu;simp only[iu,tf,or_false]at hu;rcases hu with rfl|rfl|rfl|rfl|rfl|rfl|rfl|rfl|rfl|rfl|rfl|rfl<;>rfl
def tF {α:Type} {l:ip α} {j:Nat} {a:α} (h:l[j]? =some a):l.set j a=l:=by
 obtain⟨d,rfl⟩:=jR.1 h;exact List.set_getElem_self d
def IH {α:Type} {l:ip α} {i:Nat} (h:i<l.length) (a:α):(l.set i a).take (i+1)=l.take i++[a]:=by
 rw[j2,LH h,Xe (gJ _)];rfl
def RG (w:i5):(zeroValue 3).run prog w= .ok (.I 0) w:=by
 have d:(prog.info? 3).bind (·.zero)=some (.I 0):=by kernel_rfl
 cases hi:prog.info? 3 with
 |none=>rw[hi]at d;cases d
 |some i=>
  rw[hi]at d;simp only[Cy]at d;simp[zeroValue,typeInfo,hi,d]
theorem Dw.put {w w':i5} {B n c g:Nat} {l l':ip Tg} (h:Dw w B (.S g 0 n c) l) (h0:l≠[]) (d:l'.length=l.length) (x:DB (c*2) w' g l'):Dw w' B (.S g 0 n c) l':=by
 obtain⟨A,y,e,h1,u,h3⟩:=h;injection e with f m t
 subst f;subst t;obtain⟨C,e4,v,_⟩:=h3.resolve_left h0;injection e4 with e4
 injection e4 with e4
 subst e4;exact⟨_,c,by rw[d,m],by rw[d];exact h1,u,.inr ⟨g,rfl,v,x⟩⟩
def ZR (t:fZ) (w:i5) (r:i6) (w':i5):Prop:=Ext w w'/\match hQ t with
 |none=>r= .tuple #[.agg #[.slice none 0 0,.slice none 0 0],.I 1]
 |some t'=>∃ve vn fO,r= .tuple #[.agg #[ve,vn],.I 0]/\Fs w' w.heap.size ve vn fO t'
def ZC (t:fZ) (w:i5) (r:i6) (w':i5):Prop:=Ext w w'/\match hQ t with
 |none=>r= .tuple #[.agg #[.slice none 0 0,.slice none 0 0],.I 1]
 |some t'=>∃ve vn fO,r= .tuple #[.agg #[ve,vn],.I 0]/\mE w' ve vn fO t'
def zL (w:i5) (ve vn:i6) (fO:ip gG) (t:fZ) (aI:mE w ve vn fO t) (bR:uV t.ns) (bw:∀n∈t.ns,GZ n):fQ prog 37 #[.agg #[ve,vn]] w (ZR t w):=by
 refine gD func37 fx fE ?_;have aJ:=aI;obtain⟨A,c,rfl,b5,b6,b1⟩:=aI.e.op gi;obtain⟨ax,ar,rfl,bG,b7,bq⟩:=aI.n.op gw;have hlen:=aI.len;rw[hlen]at bG;refine fA ?_;refine hP fx (λD br bv ch=>?_);have a4:fW D w.heap.size 26 #[.slice A t.es.length c,.slice ax fO.length ar]:=br;have k0:gc D w.heap.size 0 (.slice A t.es.length c):=a4.cell 0;have k1:D.cell? ⟨w.heap.size,1,none⟩=some (.slice ax t.ns.length ar):=by rw[<-hlen];exact a4.cell 1
 refine fA ?_;refine gx (z:= .agg #[.slice none 0 0,.slice none 0 0]) fE (λM bs aP ci=>?_);have cl:gc M w.heap.size 0 (.slice A t.es.length c):=aP.cell k0;have bX:gc M w.heap.size 1 (.slice ax t.ns.length ar):=aP.cell k1;have aO:Ext w M:=bv.t aP;have a5:fW M D.heap.size 26 #[.slice none 0 0,.slice none 0 0]:=bs;have O:∀{a b c:i5} {g:Nat},Ext a b->Fr (· =g) b c->a.heap.size<=g->Ext a c:=λh1 ae ca=>h1.trans ae λj ai e=>absurd ai fy
 refine fA ?_
 by_cases g1:100<t.es.length
 .refine jh ?_;refine fA ?_;refine oQ (parts:=[]) (cells:= #[.slice none 0 0,.slice none 0 0]) fx fE ?_;refine fA ?_;refine gY a5 fx fx fE fx (fJ (l:=[.slice none 0 0,.slice none 0 0]) fx) (λF bt aR=>?_);refine fA ?_;exact hL fx fx fx bt fE ⟨O aO aR fy,by first|(rw[GX g1];done)|(rw[GX g1];exact fx)⟩
 have aD:∀(b:Bool) (S:ip En),S.Perm t.es->S.Pairwise yD->(S.all (yj t.ns.length)&&gM (jy t.ns S))=b->hQ t=if b then some (jy t.ns S)else none:=λb S h1 ae h3=>by rw[<-Qn h1 ae,h3]
 refine uA (α:=NmS) (β:=aaU) 0 1 fU fx fx
  (λx=>[(1,.P w.heap.size),(2,.P D.heap.size),(4,x.v4),(5,x.v5),(6,.map (some x.gm)),(7,.I (x.i:Int))])
  (NmI t w.heap.size D.heap.size (.slice ax t.ns.length ar) w) (λx=>x.S.length-x.i+101)
  (λx=>[(2,.P D.heap.size),(5,x.v5),(7,.I (x.j:Int)),(11,.P x.g11)])
  (adw t D.heap.size w) (λx=>x.nv.length-x.j) ?_ ?_ ?_
 .rintro⟨i,X,seen,v5,nv,S,v4,gm,B4,B5⟩ F ⟨T,ab,G,aT,L,hle,aW,aZ,an,ah,ag,au,C,bU,R,J,aw,U⟩ ai;dsimp only at T ab G aT L hle aW aZ an ah ag au C bU R J aw U ai|-;obtain⟨q1,q2,q3,q4,q5,q6⟩:=aw;have bV:∃ad ap c4,v4= .slice ad ap c4:=by obtain⟨A,c,e,_⟩:=ag;exact⟨_,_,_,e⟩
  obtain⟨ad,ap,c4,rfl⟩:=bV;obtain⟨cf,bM⟩:=ag.op;obtain⟨ak,c5,rfl,bH,bI⟩:=C.form;have b2:S.length=t.es.length:=T.length_eq;have bh:nv.length=seen.length:=by have:=congrArg List.length R;simpa using this
  by_cases fY:i<S.length
  .obtain⟨e,he⟩:∃e,S[i]? =some e:=⟨_,j9 fY⟩
   have bF:∃q,X[i]? =some (q,e):=by
    have h1:((X.map Prod.snd).drop i)[0]? =(S.drop i)[0]? :=by rw[aZ]
    rw[Bu,Bu,kB,he,qX]at h1;cases V:X[i]? with
    |none=>rw[V]at h1;cases h1
    |some y=>rw[V]at h1;injection h1 with h1;exact⟨y.1,by rw[<-h1]⟩
   obtain⟨q,hq⟩:=bF;obtain⟨path,node⟩:=e;have Q:X≠[]:=by rintro rfl;simp at hq
   obtain⟨g4,rfl,cb,aV⟩:=bM.resolve_left Q;have b4:=U g4 rfl Q;have c1:gc F g4 (i*2+1) (.I node):=aV.cell hq (j:=1) rfl;have aE:S.drop i=⟨path,node⟩::S.drop (i+1):=mA he
   by_cases cm:node<0
   .have aS:yj t.ns.length ⟨path,node⟩=false:=by unfold yj;rw[decide_eq_false (by dsimp only;omega)];rfl
    exact y6
   by_cases n1:(t.ns.length:Int)<=node
   .have aS:yj t.ns.length ⟨path,node⟩=false:=by unfold yj;rw[decide_eq_false (p:=node<(t.ns.length:Int)) fy,tl]
    exact y6
   have bN:yj t.ns.length ⟨path,node⟩=true:=by unfold yj;rw[decide_eq_true (by dsimp only;omega),decide_eq_true (by dsimp only;omega)];rfl
   rw[aE,ra,bN,iV]at ah;rw[aE,iJ]at an
   have bj:(X.map Prod.snd).drop (i+1)=S.drop (i+1):=by
    have:=congrArg (List.drop 1) aZ;rwa[rU,rU]at this
   have bc:i<(X.map Prod.snd).length:=by rw[jv];omega
   by_cases hm:node∈seen
   .rw[if_pos hm]at an;refine OH ?_;refine xlk underlying146 underlying3 RG au fx fx ?_;rw[AO,if_pos hm];simp only[Bl,AN];refine OH ?_;refine V5 aV fx fx fy hq (λH Z v=>?_);refine fA ?_;exact hy fx ⟨_,(by show S.length-(i+1)+101<S.length-i+101;omega),.inl ⟨rfl,⟨i+1,X.set i (q,⟨path,(seen.idxOf node:Int)⟩),seen,_,nv,S,_,gm,B4,B5⟩,sub ⟨rfl,rfl,rfl,rfl,rfl,rfl⟩,⟨T,ab,O G v fy,v.cell aT (show ¬w.heap.size=g4 by omega),L.fr v (show ¬D.heap.size=g4 by omega),fY,(by rw[nS];exact aW),(by dsimp only;rw[vz,List.drop_set,if_pos fy];exact bj),(by dsimp only;rw[<-an,vz,IH bc,kF];rfl),ah,ag.put Q (nS ..) Z,au.fr v (show ¬gm=g4 by omega),C.fr v (λb d=>by have:=(C.gO d).1;show ¬b=g4;omega),(by dsimp only;omega),R,J,⟨q1,q2,q3,q4,q5,by have:=v.size;dsimp only;omega⟩,λb d _=>U b d Q⟩,rfl⟩⟩
   .rw[if_neg hm]at an;obtain⟨k,hk⟩:=lZ (show 0<=node by omega);obtain⟨a3,o3,n,bp,_,aY,_,bK⟩:=bq.at_ (i:=k) fy;subst bp;refine OH ?_;refine xlk underlying146 underlying3 RG au fx fx ?_;rw[AO,if_neg hm];simp only[tx,BW];refine fA ?_;refine aaa underlying146 underlying3 au (by rw[AO,if_neg hm]) fx fx fx (λH a8 v=>?_);rw[bh,<-JE]at a8;have I:Ext w H:=O G v fy;have m1:gc H w.heap.size 1 (.S a3 o3 t.ns.length ar):=v.cell aT (show ¬w.heap.size=gm by omega);have aX:∀q u,(gB n)[q]? =some u->gc H a3 (o3+k*12+q) u:=λq u hu=>I.cell (bK q u hu)
    repeat' (first|refine gH k (o3+k*12) fx fx fx hk fx fy ?_|refine fT ?_|fail)
    refine hV (cs:=gB n) fx fx aX ?_;refine fA ?_;refine nV mi fx fx fU fU (λW az aa bT=>?_);refine fA ?_;have bS:=(C.fr v (λb d=>by have:=(C.gO d).1;show ¬b=gm;omega)).ext aa;have bf:=aJ.i n (jT aY);have z4:=v.size;refine jH (B:=B5) (news:=gB n) mi fx fU fx bS fx (gQ az fU fx) fx (iC bf) (by unfold maxLen;omega) fy fy (λv6 aq a9 ao _=>?_);have aF:∀x,x<B5->¬(Value.slice ak nv.length c5).ownBlock=some x:=λx V h=>by have:=(C.gO h).1;omega
    have ba:Ow gB 12 aq B5 37 v6 (nv++[n]):=Ow.ext1 (l':=[n]) (by simpa using a9);obtain⟨bZ,c6,rfl,_,_⟩:=a9.form;have aB:Ext w aq:=(I.t aa).trans ao λj ai h=>by have:=(C.gO h).1;omega
    have bL:=((aV.fr v (show ¬g4=gm by omega)).ext aa).fr ao (aF g4 fy);refine OH ?_;refine V5 bL fx fx fy hq (λbY aM af=>?_);have co:=af.size;have cn:=ao.size;refine fA ?_;refine hy fx ⟨_,(by show S.length-(i+1)+101<S.length-i+101;omega),.inl ⟨rfl,⟨i+1,X.set i (q,⟨path,(nv.length:Int)⟩),seen++[node],_,nv++[n],S,_,gm,B4,B5⟩,sub ⟨rfl,rfl,rfl,rfl,rfl,rfl⟩,⟨T,ab,O aB af fy,af.cell (ao.cell (aa.cell m1) (aF w.heap.size fy)) (show ¬w.heap.size=g4 by omega),(((L.fr v (show ¬D.heap.size=gm by omega)).ext aa).fr ao (aF _ fy)).fr af (show ¬D.heap.size=g4 by omega),fY,(by rw[nS];exact aW),(by dsimp only;rw[vz,List.drop_set,if_pos fy];exact bj),(by dsimp only;rw[<-an,vz,IH bc,kF,bh];rfl),ah,ag.put Q (nS ..) aM,((a8.ext aa).fr ao (aF _ fy)).fr af (show ¬gm=g4 by omega),ba.fr af (λb d=>by have:=(ba.gO d).1;show ¬b=g4;omega),(by dsimp only;rw[ib];simp only[iP,kL];omega),(by dsimp only;rw[pw,pw,R];congr 1;simp only[jj,PR,hk,je,aJ.getD aY]),?_,⟨q1,q2,q3,q4,q5,by dsimp only;omega⟩,λb d _=>U b d Q⟩,rfl⟩⟩;intro y E;rcases iS.1 E with E|E
    .exact J y E
    .rw[jS.1 E];exact⟨bf,jT (aJ.get aY)⟩
  .have bO:i=S.length:=fy;subst bO
   have bD:iJ [] S=(X.map Prod.snd,seen):=by
    rw[<-an,jP,iJ,mR,p8 (by rw[jv];omega)]
   rw[jP,Gf]at ah;have aC:jy t.ns S=⟨X.map Prod.snd,seen.map λk=>t.ns.getD k.toNat default⟩:=by unfold jy;rw[bD]
   refine fA ?_;refine oQ (parts:=[(0,.tmp 70),(1,.tmp 71)]) (cells:= #[.slice ad ap c4,.slice ak nv.length c5]) fx (by first|rfl|kernel_rfl) ?_;refine fA ?_;refine gx (z:= .agg #[.slice none 0 0,.slice none 0 0]) fE (λH Z I cj=>?_);have bu:fW H F.heap.size 26 #[.slice none 0 0,.slice none 0 0]:=Z;refine fA ?_;refine gY bu fx fx fE fx (fJ (l:=[.slice ad ap c4,.slice ak nv.length c5]) fx) (λW az N=>?_);have aA:Ext F W:=O I N (gJ _);refine fA ?_;refine gR (t:=26) az fx fx ?_
   have bb:∀w',Ext F w'->mE w' (.slice ad ap c4) (.slice ak nv.length c5) nv (jy t.ns S):=λw' aN=>by
    rw[aC];exact⟨ag.rw.ext aN,C.rw.ext aN,λy E=>(J y E).1.ext (G.t aN),R⟩
   have bz:uV (jy t.ns S).ns:=by
    rw[aC,<-R];intro m hm;obtain⟨y,E,rfl⟩:=lp.1 hm;exact bR _ (J y E).2
   refine fA ?_;refine fH fx fx (sy W _ _ nv (jy t.ns S) (bb W aA) bz) (λr aq al=>?_);obtain⟨rfl,aB⟩:=al;have am:=aA.t aB;cases hm:gM (jy t.ns S)with
   |false=>
    have aj:hQ t=none:=by have:=aD false S T ab (by rw[hm,tl]);simpa using this
    refine fA ?_;refine oQ (parts:=[]) (cells:= #[.slice none 0 0,.slice none 0 0]) fx fE ?_;refine fA ?_;refine gY (L.ext am) fx fx fE fx (fJ (l:=[.slice none 0 0,.slice none 0 0]) fx) (λbY aM af=>?_);refine fA ?_;exact hL fx fx fx aM fE ⟨O (G.t am) af fy,by first|(rw[aj];done)|(rw[aj];exact fx)⟩
   |true=>
    have av:hQ t=some (jy t.ns S):=by have:=aD true S T ab (by rw[hm,<-ah];rfl);simpa using this
    have Q:X≠[]:=by rintro rfl;rw[aC]at hm;simp[gM]at hm
    have bE:=bb aq am;refine fA ?_;refine hI ?_;exact iw (ai ⟨0,.slice ak nv.length c5,nv,.slice ad ap c4,F.heap.size,B5,jy t.ns S⟩ aq ⟨av,G.t am,L.ext am,fW.ext az aB,iF _,(by dsimp only;omega),(by show Ow hR 2 aq w.heap.size 49 _ (jy t.ns S).es;rw[aC];exact((ag.ow Q).ext am).mono fy),C.ext am,bE.m,(λy E=>⟨.inl (J y E).1,(J y E).2⟩),⟨q1,by dsimp only;omega,by dsimp only;omega⟩,(λb d=>by have h1:=(ag.gO Q d).1;have ae:=U b d Q;dsimp only at*;omega),(λb d=>(C.gO d).2),λi y hi=>absurd hi (Nat.not_lt_zero _)⟩ (by dsimp only;omega)) (sub ⟨rfl,rfl,rfl,rfl⟩)
 .rintro⟨j,v5,nv,v4,g11,B5,t'⟩ F ⟨av,G,L,aH,hle,bQ,aG,C,R,J,aw,U,a0,aU⟩ ai;dsimp only at av G L aH hle bQ aG C R J aw U a0 aU ai|-;obtain⟨q1,q2,q3⟩:=aw;obtain⟨ak,c5,rfl,bH,bI⟩:=C.form;obtain⟨ad,c4,rfl,b8,b9⟩:=aG.form;have b0:=aH.lt
  by_cases fY:j<nv.length
  .obtain⟨Y,c6,aK,cc,cd,_,_,bJ⟩:=gK.go C fy;injection aK with aK
   subst aK;have ce:=a0 Y rfl;have V:=j9 fY;generalize nv[j]=y at V;have a2:=J y (jT V);have bW:im F y:=a2.1.elim (λh=>h.ext G) (·.1);have aX:∀q u,(gB y)[q]? =some u->gc F Y (j*12+q) u:=λq u hu=>bJ _ u (flat_get gw V hu)
   repeat' (first|refine gH j (j*12) fx fx fx fx fy fy ?_|refine fT ?_|fail)
   refine hV (cs:=gB y) fx fx aX ?_;refine fH fx fx (D7 F y bW (bw _ a2.2)) (λr H aL=>?_);obtain⟨bn,rfl,a1,bm,I⟩:=aL;have bk:=a1.in;have bl:=a1.f
   repeat' (first|refine gH j (j*12) fx fx fx fx fy fy ?_|refine fT ?_|fail)
   refine F8 gw j (C.ext I) fx fx fx fE (iC bk) fY (λW bC N=>?_);have aA:∀{x:gG},im F x->NdF g11 x->im W x:=λh1 ae=>(h1.ext I).fr ae N λb d=>by show ¬b=Y;omega
   refine fA ?_;refine hy fx ⟨_,(by show(nv.set j bn).length-(j+1)<nv.length-j;rw[nS];omega),.inr ⟨rfl,⟨j+1,_,nv.set j bn,_,g11,B5,t'⟩,sub ⟨rfl,rfl,rfl,rfl⟩,⟨av,O (G.t I) N fy,(L.ext I).fr N (show ¬D.heap.size=Y by omega),(aH.ext I).fr N (show ¬g11=Y by omega),(by dsimp only;rw[nS];omega),(by dsimp only;rw[nS];omega),(aG.ext I).fr N (λb d=>by have:=U b d;show ¬b=Y;omega),bC,?_,?_,⟨q1,q2,q3⟩,U,a0,?_⟩,rfl⟩⟩
   .dsimp only;rw[vz,bm,tF (by rw[qX,V];rfl)];exact R
   .intro z K;rcases x3 K with K|rfl
    .exact⟨(J z K).1.imp id λh=>⟨aA h.1 h.2,h.2⟩,(J z K).2⟩
    .have a7:NdF g11 z:=λb d=>by have:=bl b d;omega
     exact⟨.inr ⟨bk.fr a7 N (λb d=>by show ¬b=Y;omega),a7⟩,by rw[bm];exact a2.2⟩
   .intro i z hi K;dsimp only at hi K|-
    by_cases e:i=j
    .subst e;rw[LH fY]at K;injection K with K
     subst K;exact((a1.fr N λb d=>by have:=bl b d;show ¬b=Y;omega).mono fy)
    .rw[List.getElem?_set_ne (λh=>e h.symm)]at K;have al:=aU i z fy K;exact(al.ext I).fr N λb d=>by have:=al.f b d;show ¬b=Y;omega
  .refine fA ?_;refine gR (t:=26) aH fx fx ?_;refine fA ?_;refine gY L fx fx fE fx (fJ (l:=[.slice ad t'.es.length c4,.slice ak nv.length c5]) fx) (λH Z v=>?_);refine fA ?_;refine hL fx fx fx Z fE ⟨O G v fy,?_⟩;rw[av];have cg:∀b,D.heap.size<b->¬b=D.heap.size:=λb d=>fy
   exact⟨_,_,nv,rfl,⟨aG.fr v (λb d=>by have:=U b d;show ¬b=D.heap.size;omega),(C.fr v (λb d=>by have:=(C.gO d).1;show ¬b=D.heap.size;omega)).mono fy,λy E=>by
    obtain⟨i,hi,bP⟩:=BV E;have al:=aU i y fy (by rw[j9 hi,bP])
    exact(al.fr v λb d=>by have:=al.f b d;show ¬b=D.heap.size;omega).mono fy,R⟩⟩
 .intro bo H1;refine fA ?_;refine jH (B:=M.heap.size) (news:=t.es.flatMap hR) iO fx fU fx (gK.nil _ _ _ _) fx (Row.ext aJ.e aO) (gn gi _) (mC _) (by unfold maxLen;omega) fy (gJ _) (λv1 F bA aR _=>?_);have G:Ext M F:=aR.mono λ_ _ h=>by cases h
  have bB:Ow hR 2 F M.heap.size 49 v1 ((D8 t.es).map Prod.snd):=by rw[Ar];unfold Ow;simpa using bA
  have bd:=Dw.of bB;have ck:(D8 t.es).length=t.es.length:=by simp[D8]
  have bg:∀x∈D8 t.es,x.2∈t.es:=λx V=>by
   have:=xc (f:=Prod.snd) V;rwa[Ar]at this
  refine fA ?_;refine fH fx fx (x6 F M.heap.size v1 85 #[] (λx=>x.2∈t.es) (λx=>(yk t.es x.2:Int)) (D8 t.es) bd fy (λg _=>Ol t.es g F) bg (QH _ _)) (λr H aL=>?_);obtain⟨ay,bi,hs,be,v⟩:=aL;have a6:Ext M H:=G.trans v λj ai h=>by have:=(bd.gO h.1 h.2).1;omega
  have T:(ay.map Prod.snd).Perm t.es:=by have:=bi.map Prod.snd;rwa[Ar]at this
  have ab:(ay.map Prod.snd).Pairwise yD:=by
   rw[zH];refine hs.imp_of_mem λ{a b} b3 d h=>?_
   unfold yD;cases e:ix b.2.path a.2.path with
   |false=>rfl
   |true=>
    have:=(MK (bg b (bi.mem_iff.1 d)) a.2).1 e;unfold lt at h;have:yk t.es b.2<yk t.es a.2:=this;exfalso;have ae:¬((yk t.es a.2:Int)<yk t.es b.2):=fy;have h3:¬((yk t.es a.2:Int)=yk t.es b.2):=fy;exact h.elim ae λh=>h3 h.1
  refine fA ?_;refine ZT (λW bx aa bT=>?_);have aQ:Ext M W:=a6.t aa;have z3:=a6.size;refine fA ?_;refine hI ?_;exact iw (bo ⟨0,ay,[],.slice none 0 0,[],ay.map Prod.snd,v1,H.heap.size,M.heap.size,W.heap.size⟩ W ⟨T,ab,aO.t aQ,aQ.cell bX,a5.ext aQ,iF _,iB,rfl,rfl,rfl,be.fr aa (λ_ _ h=>h),bx,Ow.nil _ _ _,iF _,rfl,(λy E=>by cases E),⟨by(try dsimp only);omega,fy,by(try dsimp only);omega,by(try dsimp only);omega,by(try dsimp only);omega,gJ _⟩,λb d h0=>(be.gO h0 d).2⟩) (sub ⟨rfl,rfl,rfl,rfl,rfl,rfl⟩)
