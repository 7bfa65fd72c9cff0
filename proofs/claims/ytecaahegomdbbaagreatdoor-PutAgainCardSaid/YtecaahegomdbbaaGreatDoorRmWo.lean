/- Parts of the proof. -/
import Derived.Test.YtecaahegomdbbaaGreatDoorRmWn
set_option linter.all false
set_option maxRecDepth 99999
set_option maxHeartbeats 0
namespace Go.Proofs.YtecaahegomdbbaaGreatDoor.gr
open Go.Proofs.Tryz
open Go.RowKit
section
attribute [local irreducible] xs T
def UO {p:fL} (h:fX p≠[]):iI p=some (n8 p)/\wi p=n8 p:=by
 have e:iI p=some (n8 p):=by unfold iI;rw[if_neg h]
 exact⟨e,by rw[wi,e];rfl⟩
def sy (w:i5) (ve vn:i6) (fO:ip gG) (t:fZ) (J:mE w ve vn fO t) (R:uV t.ns):fQ prog 29 #[.agg #[ve,vn]] w λr w'=>r= .bool (gM t)/\Ext w w':=by
 refine gD func29 fx fE ?_;have D:=J;obtain⟨A,c,rfl,aL,aM,V⟩:=J.e.op gi;obtain⟨U,B,rfl,ar,aN,W⟩:=J.n.op gw;have hlen:=J.len;rw[hlen]at ar;unfold gM;refine fA ?_;refine hP fx (λy an m aQ=>?_);have C:fW y w.heap.size 26 #[.slice A t.es.length c,.slice U fO.length B]:=an;have k0:gc y w.heap.size 0 (.slice A t.es.length c):=C.cell 0;have k1:y.cell? ⟨w.heap.size,1,none⟩=some (.slice U t.ns.length B):=by rw[<-hlen];exact C.cell 1
 refine fA ?_
 by_cases g1:1<=t.es.length
 case neg=>
  refine jh ?_;refine fA ?_;exact fB fx fx ⟨by simp only[decide_eq_false g1,hW],m⟩
 by_cases g2:t.es.length<=100
 case neg=>
  refine jh ?_;refine fA ?_;exact fB fx fx ⟨by simp only[decide_eq_false g2,hW,tl],m⟩
 rw[decide_eq_true g1,decide_eq_true g2,iV,iV];cases I:uO t.ns none 0 t.es with
 |false=>
  refine jh ?_;refine fA ?_;refine gR (t:=26) C fx fx ?_;refine fA ?_;refine fH fx fx (qm y _ _ fO t (D.ext m) R) (λr u E=>?_);obtain⟨rfl,f⟩:=E;rw[I];refine fA ?_;exact fB fx fx ⟨by simp only[hW],m.t f⟩
 |true=>
 rw[iV];obtain⟨af,aD,_⟩:=(jo t.ns t.es none 0 (iF _)).1 I;have ae:=qc aD;obtain⟨b,o,e0,al,_,G,Z,X⟩:=V.at_ (i:=0) fy;subst al
 have ay:t.es.headD default=e0:=by
  cases ab:t.es with
  |nil=>rw[ab]at G;cases G
  |cons x r=>rw[ab]at G;exact jb G
 rw[ay];have aC:=ae e0 (jT G);obtain⟨k,hk⟩:=lZ aC.1;have pA:k<fO.length:=fy;obtain⟨b',o',K,am,_,aE,_,Y⟩:=W.at_ pA;subst am;have aB:fV t.ns e0.node=K.n.kind:=by unfold fV;rw[hk,je,D.getD aE]
 rw[aB]
 have ag:iA (some e0.path) (t.es.drop 1)=true:=by
  rw[wK]at Z;rw[Z,iA,iU]at af;exact af.2
 by_cases g3:K.n.kind=1
 case neg=>
  refine jh ?_;refine fA ?_;refine gR (t:=26) C fx fx ?_;refine fA ?_;refine fH fx fx (qm y _ _ fO t (D.ext m) R) (λr u E=>?_);obtain⟨rfl,f⟩:=E;rw[I];have m0:gc u.drew w.heap.size 0 (.S b o t.es.length c):=f.cell k0;have m1:gc u.drew w.heap.size 1 (.S b' o' t.ns.length B):=f.cell k1;have q1:gc u.drew b (o+0*2+1) (.I e0.node):=f.cell (m.cell (X 1 _ rfl));have r1:gc u.drew b' (o'+k*12+0) (.I K.n.kind):=f.cell (m.cell (Y 0 _ rfl));refine aat ?_;exact fB fx fx ⟨by simp only[decide_eq_false g3,hW],(m.t f).d⟩
 rw[decide_eq_true g3,iV];refine iq (α:=Nat) 0 fx (λi=>[(1,.P w.heap.size),(3,.I (i:Int))]) (λi w'=>Ext y w'/\1<=i/\i<=t.es.length/\(t.es.drop i).all (qH t)=(t.es.drop 1).all (qH t)) (λi=>t.es.length-i) ?_ ?_
 .rintro i u ⟨f,aP,hi,v⟩;have m0:gc u w.heap.size 0 (.S b o t.es.length c):=f.cell k0
  by_cases fY:i<t.es.length
  .obtain⟨aJ,o2,e,L,_,he,aw,au⟩:=V.at_ fY;injection L with L
   injection L with ah e4
   subst ah;subst e4;have q0:gc u b (o+i*2+0) (.U e.path):=f.cell (m.cell (au 0 _ rfl));rw[aw,ra]at v
   have aa:e∈t.es.drop 1:=by
    refine jT (i:=i-1) ?_;rw[Bu,show 1+(i-1)=i from by omega,he]
   have aH:=np ag e aa;have aI:=qs ag e aa;have aG:=UO (p:=e.path) (by rw[iy aH aI];exact kU _);refine zD ?_;refine fH fx fx (lW u e.path) (λr S h3=>?_);obtain⟨rfl,ap⟩:=h3;have O:Ext y S:=f.t ap;rw[aG.2];have ao:fW S w.heap.size 26 #[.S b o t.es.length c,.S b' o' fO.length B]:=C.ext O;refine fA ?_;refine gR (t:=26) ao fx fx ?_;refine fA ?_;refine fH fx fx (kk S _ _ t.es (n8 e.path) (D.e.ext (m.t O))) (λr T ak=>?_);obtain⟨rfl,aq⟩:=ak;have F:Ext y T:=O.t aq;cases Q:fK t.es (n8 e.path)with
   |none=>
    have N:qH t e=false:=by unfold qH;rw[Q]
    rw[N,hW]at v;refine fA ?_;exact fB fx fx ⟨by rw[<-v],m.t F⟩
   | some j=>
    have N:qH t e=decide (fV t.ns j=1):=by unfold qH;rw[Q]
    rw[N]at v;obtain⟨e',ax,_,az⟩:=gT Q;have ad:=ae e' ax;rw[az]at ad;obtain⟨q,hq⟩:=lZ ad.1;obtain⟨aK,o3,n,M,_,aF,_,av⟩:=W.at_ (i:=q) fy;injection M with M
    injection M with ai aj
    subst ai;subst aj;have aA:fV t.ns j=n.n.kind:=by unfold fV;rw[hq,je,D.getD aF]
    rw[aA]at v;have r1:gc T w.heap.size 1 (.S b' o' t.ns.length B):=F.cell k1;have r2:gc T b' (o'+q*12+0) (.I n.n.kind):=F.cell (m.cell (av 0 _ rfl));have aO:(some j:Option Int).getD 0=j:=rfl
    by_cases g:n.n.kind=1
    .rw[decide_eq_true g,iV]at v
     repeat' (first|refine gH q (o'+q*12) fx fx fx hq fx fy ?_|refine fT ?_|fail)
     exact hy fx ⟨_,(by show t.es.length-(i+1)<t.es.length-i;omega),rfl,i+1,sub ⟨rfl,rfl⟩,⟨F,fy,by omega,v⟩,rfl⟩
    .rw[decide_eq_false g,hW]at v
     repeat' (first|refine gH q (o'+q*12) fx fx fx hq fx fy ?_|refine fT ?_|fail)
     exact fB fx fx ⟨by rw[<-v],m.t F⟩
  .obtain rfl:i=t.es.length:=fy;rw[jP]at v;refine fA ?_;exact fB fx fx ⟨by rw[<-v];rfl,m.t f⟩
 .intro H;refine fA ?_;refine gR (t:=26) C fx fx ?_;refine fA ?_;refine fH fx fx (qm y _ _ fO t (D.ext m) R) (λr u E=>?_);obtain⟨rfl,f⟩:=E;rw[I];have m0:gc u.drew w.heap.size 0 (.S b o t.es.length c):=f.cell k0;have m1:gc u.drew w.heap.size 1 (.S b' o' t.ns.length B):=f.cell k1;have q1:gc u.drew b (o+0*2+1) (.I e0.node):=f.cell (m.cell (X 1 _ rfl));have r1:gc u.drew b' (o'+k*12+0) (.I K.n.kind):=f.cell (m.cell (Y 0 _ rfl));refine aat ?_;refine hI ?_;exact iw (H 1 u.drew ⟨f.d,gJ _,fy,rfl⟩) (sub ⟨rfl,rfl⟩)
def OB {t:fZ} {p:fL} {i:Nat} {e:En} (he:t.es[i]? =some e):lV ⟨t.es.take (i+1),t.ns⟩ p=lV ⟨t.es.take i,t.ns⟩ p++(if iI e.path=some p then[mK e.path]else[]):=by
 unfold lV;rw[j2,he,wD,MN,pw]
 by_cases h:iI e.path=some p
 .simp[h]
 .simp[h]
structure KiI (f:Nat->List fL) (n:Nat) (w1:World) (x:Nat×Value) (w:World):Prop where
 i:x.1<=n
 own:Ow qM 1 w w1.heap.size 9 x.2 (f x.1)
 len:(f x.1).length<=x.1
 ext:Ext w1 w
def HF (t:fZ) (p:fL) (i:Nat):(lV ⟨t.es.take i,t.ns⟩ p).length<=i:=by
 unfold lV;rw[jv];show(List.filter (λe:En=>decide (iI e.path=some p)) (t.es.take i)).length<=i
 have:=LJ (λe:En=>decide (iI e.path=some p)) (t.es.take i);rw[kv]at this;omega
def NC (w:i5) (ve vn:i6) (t:fZ) (p:fL) (W:Rw hR w ve t.es) (ad:t.es.length<=1000000):fQ prog 109 #[.agg #[ve,vn],.U p] w λr w'=>Ow qM 1 w' w.heap.size 9 r (lV t p)/\Ext w w':=by
 refine gP func109 fx fE ?_;obtain⟨A,c,rfl,Z,aa,N⟩:=W.op gi;refine fA ?_;refine hP fx (λd Q B ae=>?_);have O:fW d w.heap.size 26 #[.slice A t.es.length c,vn]:=Q;have k0:gc d w.heap.size 0 (.slice A t.es.length c):=O.cell 0;refine fA ?_;refine iq (α:=Nat×i6) 0 fx (λx=>[(1,.U p),(2,.P w.heap.size),(5,x.2),(6,.I (x.1:Int))]) (KiI (λi=>lV ⟨t.es.take i,t.ns⟩ p) t.es.length d) (λx=>t.es.length-x.1) ?_ ?_
 .rintro⟨i,v⟩ F ⟨hi,f,hlen,m⟩;dsimp only at hi f hlen m|-;have m0:gc F w.heap.size 0 (.slice A t.es.length c):=m.cell k0
  by_cases fY:i<t.es.length
  .obtain⟨b,o,e,rfl,_,he,_,T⟩:=N.at_ fY;have q0:gc F b (o+i*2+0) (.U e.path):=m.cell (B.cell (T 0 _ rfl));have K:=OB (p:=p) he;refine zD ?_;refine fH fx fx (lW F e.path) (λr G h3=>?_);obtain⟨rfl,C⟩:=h3;have y:Ext d G:=m.t C
   have none_:iI e.path≠some p->Ow qM 1 G d.heap.size 9 v (lV ⟨t.es.take (i+1),t.ns⟩ p):=λh=>by
    rw[K,if_neg h,mR];exact f.ext C
   cases n:iI e.path with
   |none=>
    have E:=none_ (by rw[n];exact λh=>by cases h);refine fA ?_;exact y30
   | some u=>
    have hu:wi e.path=u:=by rw[wi,n];rfl
    rw[hu]
    by_cases g:u=p
    .repeat' (first|refine gk (op:= .eql) (r:=true) fx fx (by simp[hG,g]) ?_|refine fT ?_|fail)
     refine fH fx fx (M7 G e.path) (λr X M=>?_);obtain⟨rfl,J⟩:=M;have I:Ext d X:=y.t J;refine fA ?_;refine FG j5 fx fx fU fU (λu hu=>by rw[jS.1 hu];rfl) (λah R D af=>?_);refine jH (news:=qM (mK e.path)) j5 fx fU fx (gK.ext f (C.t (J.t D))) fx (gQ R fU fx) fx (λu hu=>by rw[jS.1 hu];rfl) (by unfold maxLen;omega) fy (by have:=I.size;have:=D.size;omega) (λL Y U S ag=>?_)
     have V:Ow qM 1 Y d.heap.size 9 L (lV ⟨t.es.take (i+1),t.ns⟩ p):=by
      rw[K,if_pos (by rw[n,g])];exact Ow.ext1 (l':=[mK e.path]) (by simpa using U)
     refine fA ?_;exact hy fx ⟨_,(by show t.es.length-(i+1)<t.es.length-i;omega),rfl,(i+1,L),sub ⟨rfl,rfl,rfl,rfl⟩,⟨by dsimp only;omega,V,HF _ _ _,Ext.te (I.t D) S λj ab e=>by have:=(f.gO e).1;omega⟩,rfl⟩
    .have E:=none_ (by rw[n];exact λh=>g (jb h))
     repeat' (first|refine gk (op:= .eql) (r:=false) fx fx (by simp[hG,g]) ?_|refine fT ?_|fail)
     exact y30
  .obtain rfl:i=t.es.length:=fy;rw[kh]at f;refine fA ?_;exact fB fx fx ⟨f.mono B.size,B.t m⟩
 .intro H;refine fA ?_;refine hI ?_;exact iw (H (0,.slice none 0 0) d ⟨iF _,by rw[yb];exact Ow.nil _ _ _,by rw[yb];exact gJ _,Fr.refl _ _⟩) (sub ⟨rfl,rfl,rfl,rfl⟩)
def HK (es:ip En) (k:Int):ip fL:=(es.filter λe=>decide (e.node=k)).map (·.path)
def PE {es:ip En} {k:Int} {i:Nat} {e:En} (he:es[i]? =some e):HK (es.take (i+1)) k=HK (es.take i) k++(if e.node=k then[e.path]else[]):=by
 unfold HK;rw[j2,he,wD,MN,pw]
 by_cases h:e.node=k
 .simp[h]
 .simp[h]
def Mq (es:ip En) (k:Int) (i:Nat):(HK (es.take i) k).length<=i:=by
 unfold HK;rw[jv];have:=LJ (λe:En=>decide (e.node=k)) (es.take i);rw[kv]at this;omega
def Jg (w:i5) (ve vn:i6) (t:fZ) (p:fL) (I:Rw hR w ve t.es) (X:t.es.length<=1000000):fQ prog 110 #[.agg #[ve,vn],.U p] w λr w'=>Ow qM 1 w' w.heap.size 9 r (qo t p)/\Ext w w':=by
 refine gP func110 fx fE ?_;have J:=I;obtain⟨A,c,rfl,U,V,L⟩:=I.op gi;unfold qo;refine fA ?_;refine hP fx (λy M f Y=>?_);have D:fW y w.heap.size 26 #[.slice A t.es.length c,vn]:=M;refine fA ?_;cases G:fK t.es p with
 |none=>
  refine jh ?_;refine fA ?_;refine gR (t:=26) D fx fx ?_;refine fA ?_;refine fH fx fx (kk y _ _ t.es p (J.ext f)) (λr n C=>?_);obtain⟨rfl,d⟩:=C;rw[G];refine fA ?_;exact fB fx fx ⟨Ow.nil _ _ _,f.t d⟩
 |some k=>
 dsimp only;show T prog _ (λr w'=>Ow qM 1 w' w.heap.size 9 r (HK t.es k)/\Ext w w') _ _ _
 refine iq (α:=Nat×i6) 0 fx (λx=>[(2,.P w.heap.size),(5,.I k),(7,x.2),(8,.I (x.1:Int))]) (KiI (λi=>HK (t.es.take i) k) t.es.length y) (λx=>t.es.length-x.1) ?_ ?_
 .rintro⟨i,v⟩ n ⟨hi,m,hlen,d⟩;dsimp only at hi m hlen d|-;have m0:gc n w.heap.size 0 (.slice A t.es.length c):=(D.ext d).cell 0
  by_cases fY:i<t.es.length
  .obtain⟨b,o,e,rfl,_,he,_,F⟩:=L.at_ fY;have q0:gc n b (o+i*2+0) (.U e.path):=d.cell (f.cell (F 0 _ rfl));have q1:gc n b (o+i*2+1) (.I e.node):=d.cell (f.cell (F 1 _ rfl));have B:=PE (k:=k) he
   by_cases g:e.node=k
   .rw[if_pos g]at B;refine zD ?_;refine FG j5 fx fx fU fU (λu hu=>by rw[jS.1 hu];rfl) (λab N E Z=>?_);refine jH (news:=qM e.path) j5 fx fU fx (gK.ext m E) fx (gQ N fU fx) fx (λu hu=>by rw[jS.1 hu];rfl) (by unfold maxLen;omega) fy (by have:=d.size;have:=E.size;omega) (λK S Q O aa=>?_)
    have R:Ow qM 1 S y.heap.size 9 K (HK (t.es.take (i+1)) k):=by
     rw[B];exact Ow.ext1 (l':=[e.path]) (by simpa using Q)
    refine fA ?_;exact hy fx ⟨_,(by show t.es.length-(i+1)<t.es.length-i;omega),rfl,(i+1,K),sub ⟨rfl,rfl,rfl,rfl⟩,⟨by dsimp only;omega,R,Mq _ _ _,Ext.te (d.t E) O λj W e=>by have:=(m.gO e).1;omega⟩,rfl⟩
   .rw[if_neg g,mR]at B;refine zD ?_;exact hy fx ⟨_,(by show t.es.length-(i+1)<t.es.length-i;omega),rfl,(i+1,v),sub ⟨rfl,rfl,rfl,rfl⟩,⟨by dsimp only;omega,by dsimp only;rw[B];exact m,Mq _ _ _,d⟩,rfl⟩
  .obtain rfl:i=t.es.length:=fy;rw[kh]at m;refine fA ?_;exact fB fx fx ⟨m.mono f.size,f.t d⟩
 .intro H;refine fA ?_;refine gR (t:=26) D fx fx ?_;refine fA ?_;refine fH fx fx (kk y _ _ t.es p (J.ext f)) (λr n C=>?_);obtain⟨rfl,d⟩:=C;rw[G];refine fA ?_;refine hI ?_;exact iw (H (0,.slice none 0 0) n ⟨iF _,by rw[yb];exact Ow.nil _ _ _,by rw[yb];exact gJ _,d⟩) (sub ⟨rfl,rfl,rfl,rfl⟩)
