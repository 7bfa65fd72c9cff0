/- Parts of the proof. -/
import Derived.Test.YtecaahegomdbbaaGreatDoorRmB10a
set_option linter.all false
set_option maxRecDepth 99999
set_option maxHeartbeats 0
namespace Go.Proofs.YtecaahegomdbbaaGreatDoor.gr
open Go.Proofs.Tryz
open Go.RowKit
variable {i:Nat} {p:fL} {t:fZ}
section
def UQ (l:ip hT):Nat->Int
 |0=>0
 |j+1=>gU (l.getD j default)
def Ht (l:ip hT):UQ l l.length=rH l:=by
 unfold rH;rcases Dq l with rfl|⟨r,x,rfl⟩
 .rfl
 .rw[D3,ib,List.getLast?_append];show gU ((r++[x]).getD (r.length) default)=_
  simp
def QW (p:fL) (j:Nat):IW p (j+1)=IW p j++[⟨3,p,[],(j:Int)⟩]:=by
 grind [IW, List.range_succ]
theorem L2 (p:fL) (j:Nat):(IW p j).length=j:=by unfold IW;simp
structure MdS where
 j:Nat
 v:Value
 a:Nat
 b:Nat
structure MdI (w:World) (B:Nat) (l:List oY) (e:En) (y:gG) (x:MdS) (w':World):Prop where
 j:x.j<=y.n.data.length
 s:Qq B w (l++⟨2,e.path,[],0⟩::IW e.path x.j) x.v w'
 a:fW w' x.a 49 (hR e).toArray
 b:fW w' x.b 37 (gB y).toArray
attribute [local irreducible] xs T
def Ot (w:i5) (B S i:Nat) (ve vn v:i6) (fO:ip gG) (t:fZ) (l:ip oY) (N:mE w ve vn fO t) (W:∀b,Mx ve vn fO t b->b<B) (aU:gM t=true) (a2:fW w S 3 (tO t 0)) (hO:Ow ny 4 w B 83 v l) (bi:B<=w.heap.size) (bu:l.length<=900000) (hi:i<t.es.length):
  fQ prog 66 #[v,.agg #[ve,vn],.S S 0 t.ns.length t.ns.length,.I (i:Int)] w (Qq B w (l++ou t i)):=by
 refine xA func66 fx fE ?_;have aq:=(hv aU).f.g;have hlen:=N.len;have aB:=N;obtain⟨A,c,rfl,bn,bp,al⟩:=N.e.op gi;obtain⟨bf,aj,rfl,bo,bq,aI⟩:=N.n.op gw;obtain⟨b,o,e,rfl,bj,he,_,aW⟩:=al.at_ hi;have aw:=jT he;obtain⟨h1,ak⟩:=aq.inr e aw;obtain⟨k,hk⟩:=lZ h1;have pA:k<fO.length:=fy;obtain⟨b',o',y,rfl,bk,a9,_,aX⟩:=aI.at_ pA;have aD:nodeAt t e.node=y.n:=by unfold nodeAt;rw[hk];exact N.getD a9
 have a5:fG y.n=true:=by rw[<-aD];exact aq.node e aw
 have bz:=N.i y fM;have a1:ha t i=e:=hU he;have bl:b<B:=W b (.inl ⟨fy,rfl⟩);have bm:b'<B:=W b' (.inr (.inl ⟨fy,rfl⟩));obtain⟨f1,f2,f3,f4⟩:=iL he;have ax:gI t.es e.node<t.es.length:=fy;obtain⟨_,_,eF,aH,_,aS,_,aR⟩:=al.at_ ax;cases aH;have aZ:eF=ha t (gI t.es e.node):=by rw[f2]at aS;exact fM
 refine fA ?_;refine hP fx (λE aJ ao bv=>?_);have ae:fW E w.heap.size 26 #[.S b o t.es.length c,.S b' o' fO.length aj]:=aJ;have q0:gc E w.heap.size 0 (.S b o t.es.length c):=ae.cell 0
 have a6:ou t i=if y.n.kind=1 then[⟨1,e.path,[],0⟩]else if gI t.es e.node<i then[⟨5,e.path,eF.path,0⟩]else⟨2,e.path,[],0⟩::oV e.path y.n:=by
  unfold ou;rw[a1,aD,<-aZ]
 rw[a6];have fin:∀{K m:i5} {s:oY} {v3:i6},ri 83 B w K->Ow ny 4 m B 83 v3 (l++[s])->ri 83 B K m->Qq B w (l++[s]) v3 m:=λh1 ak h3=>⟨ak,h1.t h3⟩
 refine fA ?_;refine iq (α:=MdS) 0 fx (λx=>[(0,x.v),(9,.P x.a),(10,.P x.b),(11,.I (UQ y.n.data x.j)),(12,.I (x.j:Int))]) (λx w'=>y.n.kind=2/\¬y.n.kind=1/\¬gI t.es e.node<i/\MdI w B l e y x w') (λx=>y.n.data.length-x.j) ?_ ?_
 .rintro⟨j,v1,a,ab⟩ K ⟨M,J,I,aT⟩;obtain⟨a4,⟨U,Q⟩,af,V⟩:=aT;dsimp only at a4 U af V|-;rw[if_neg J,if_neg I];have z2:=Q.size;have a7:=Q.tr aB W;have ba:=a7.i y fM;obtain⟨D,d,ai,br,bs,aM⟩:=ba.d.op hB;obtain⟨g1,g2,g3,g4,g5,g6⟩:=(kH y.n).1 (iX a5 M);have q8:K.cell? ⟨ab,8,none⟩=some (.slice D y.n.data.length d):=by rw[V.cell,<-ai];rfl
  have q9:gc K a 0 (.U e.path):=af.cell 0
  have ay:(l++(⟨2,e.path,[],0⟩::IW e.path j)).length<=1000000:=by
   rw[ib,iP,L2];omega
  by_cases fY:j<y.n.data.length
  .obtain⟨R,od,pc,rfl,_,az,_,bt⟩:=aM.at_ fY;obtain⟨_,p1,p2⟩:=g6 pc fM;unfold gU at p2
   have a0:UQ y.n.data (j+1)=pc.pos+(pc.data.length:Int):=by
    show gU (y.n.data.getD j default)=_
    rw[kW,az];rfl
   refine fA ?_;refine Cj ⟨3,e.path,[],(j:Int)⟩ (vs:=[(0,.I 3),(1,.U e.path),(3,.I (j:Int))]) fx fE U ay fy fx fx fx (λv3 m ar G=>?_);have aV:=G.gO af fU;have au:=G.gO V fU;have ap:=Q.t G
   have av:∀aE u,(kc pc)[aE]? =some u->m.cell? ⟨R,od+j*2+aE,none⟩=some u:=by
    have a8:=ap.tr aB W;obtain⟨bg,bh,aC,_,_,aN⟩:=(a8.i y fM).d.op hB;rw[ai]at aC;injection aC with aF _ _
    subst aF;obtain⟨_,_,bB,aG,_,aA,_,aY⟩:=aN.at_ fY;cases aG;rw[az]at aA;obtain rfl:=jb aA;exact aY
   have r8:m.drew.cell? ⟨ab,8,none⟩=some (.slice (some ⟨R,od,none⟩) y.n.data.length d):=by show m.cell? _=_;rw[au.cell,<-ai];rfl
   have r0:gc m.drew R (od+j*2+0) (.I pc.pos):=av 0 _ rfl;have r1:gc m.drew R (od+j*2+1) (.U pc.data):=av 1 _ rfl
   repeat' (first|refine gH j (od+j*2) fx fx fx fx fx fY ?_|refine iE fx fx ?_|refine fT ?_|fail)
   exact hy fx ⟨_,fM,rfl,⟨j+1,v3,a,ab⟩,sub ⟨rfl,rfl,rfl,km (by rw[a0]),rfl⟩,⟨M,J,I,fY,⟨by dsimp only;rw[QW,<-rf,<-kF];exact ar,(ap.te (Fr.drew hJ m))⟩,aV,au⟩,rfl⟩
  .obtain rfl:j=y.n.data.length:=fy;have q7:gc K ab 7 (.I y.n.size):=V.cell 7
   have a3:oV e.path y.n=IW e.path y.n.data.length++if y.n.size=UQ y.n.data y.n.data.length then[]else[⟨4,e.path,[],0⟩]:=by
    unfold oV;rw[if_pos M,Ht]
   rw[a3,Ht]
   by_cases hs:y.n.size=rH y.n.data
   .rw[if_pos hs,mR];refine fA ?_;exact fB fx fx ⟨U,Q⟩
   .rw[if_neg hs];refine fA ?_;refine Cj ⟨4,e.path,[],0⟩ (vs:=[(0,.I 4),(1,.U e.path)]) fx fE U ay fy fx fx fx (λv3 m ar G=>?_);refine fA ?_;exact fB fx fx ⟨by grind,Q.t G⟩
 .intro H;have q1:∀w',Ext E w'->gc w' w.heap.size 1 (.S b' o' fO.length aj):=λw' h=>(ae.ext h).cell 1
  repeat' (first|refine gH i (o+i*2) fx fx fx fx fx hi ?_|refine fT ?_|fail)
  refine hV (cs:=hR e) fx fE (λj u hu=>ao.cell (aW j u hu)) ?_;refine gx (z:= .agg #[.string ⟨#[]⟩,.I 0]) fE (λK aK aO bw=>?_);refine gY aK fx fx fE fx (fJ (l:=hR e) fx) (λm am G=>?_);have Z:Ext E m:=aO.trans G fM;have an:Ext w m:=ao.t Z;have m1:=q1 m Z;have m2:m.cell? ⟨E.heap.size,1,none⟩=some (.int .i64 (k:Int)):=by rw[<-hk];exact am.cell 1
  refine E8 ?_;refine hV (cs:=gB y) fx fE (λj u hu=>an.cell (aX j u hu)) ?_;refine gx (z:= .agg tH) fE (λbC aL aP bx=>?_);refine gY aL fx fx fE fx (by grind [fJ, gB, List.all_eq_true, iC]) (λC Y aQ=>?_);have aa:Ext m C:=aP.trans aQ fM;have O:Ext w C:=an.t aa;have z5:=O.size;have ad:=hO.ext O;have T:ri 83 B w C:=ri.ext O;have ag:fW C E.heap.size 49 (hR e).toArray:=am.ext aa;have bA:gc C m.heap.size 0 (.I y.n.kind):=Y.cell 0;have n1:gc C E.heap.size 0 (.U e.path):=ag.cell 0;have bb:C.cell? ⟨E.heap.size,1,none⟩=some (.int .i64 (k:Int)):=by rw[<-hk];exact ag.cell 1
  have bc:C.cell? ⟨S,0+k,none⟩=some (.int .i64 ((gI t.es e.node:Nat):Int)):=by rw[(a2.ext O).cell,iM];exact(by grind [Gn])
  have bd:gc C w.heap.size 0 (.S b o t.es.length c):=(ae.ext (Z.t aa)).cell 0;have be:gc C b (o+gI t.es e.node*2+0) (.U eF.path):=O.cell (aR 0 _ rfl);have ah:l.length<=1000000:=fy
  by_cases J:y.n.kind=1
  .rw[if_pos J];refine fA ?_;refine Cj ⟨1,e.path,[],0⟩ (vs:=[(0,.I 1),(1,.U e.path)]) fx fE ad ah fy fx fx fx (λv6 X L F=>?_);refine fA ?_;exact fB fx fx (fin T L F)
  .rw[if_neg J]
   by_cases I:gI t.es e.node<i
   .rw[if_pos I];have d1:gc C.drew E.heap.size 0 (.U e.path):=n1;have d2:gc C.drew E.heap.size 1 (.I (k:Int)):=bb;have d3:gc C.drew S (0+k) (.I ((gI t.es e.node:Nat):Int)):=bc;have d4:gc C.drew w.heap.size 0 (.S b o t.es.length c):=bd;have d5:gc C.drew b (o+gI t.es e.node*2+0) (.U eF.path):=be
    repeat' (first|refine pg fx fx fx fy ?_|refine gH (gI t.es e.node) (o+gI t.es e.node*2) fx fx fx fx fx ax ?_|refine fT ?_|fail)
    refine Cj ⟨5,e.path,eF.path,0⟩ (vs:=[(0,.I 5),(1,.U e.path),(2,.U eF.path)]) fx fE (ad.ext (Fr.drew hJ C)) ah (by show B<=C.heap.size;omega) fx fx fx (λv6 X L F=>?_);refine fA ?_;exact fB fx fx (fin (T.te (Fr.drew hJ C)) L F)
   .rw[if_neg I]
    repeat' (first|refine pg fx fx fx fy ?_|refine fT ?_|fail)
    refine Cj ⟨2,e.path,[],0⟩ (vs:=[(0,.I 2),(1,.U e.path)]) fx fE ad ah fy fx fx fx (λv6 X L F=>?_);have n6:gc X m.heap.size 0 (.I y.n.kind):=(F.gO Y fU).cell 0
    by_cases M:y.n.kind=2
    .refine fA ?_;refine hI ?_;rw[if_neg J,if_neg I]at H;exact iw (H ⟨0,v6,E.heap.size,m.heap.size⟩ X ⟨M,J,I,⟨iF _,⟨L,T.t F⟩,F.gO ag fU,F.gO Y fU⟩⟩) (sub ⟨rfl,rfl,rfl,rfl,rfl⟩)
    .have:oV e.path y.n=[]:=by unfold oV;rw[if_neg M]
     rw[this];refine fA ?_;exact fB fx fx (fin T L F)
end
section
def sS (f:Nat->ip oY) (k:Nat):(List.range (k+1)).flatMap f=(List.range k).flatMap f++f k:=by
 rw[tG,ue,DD]
theorem vg (t:fZ):∀k,(wT t k).length<=5*k
 |0=>gJ _
 |k+1=>by
  have:=vg t k;unfold wT at this|-;rw[sS,ib]
  grind [Qd, oz]
theorem u3 (t:fZ) (d:Nat):∀k,(tt t d k).length<=5*k
 |0=>gJ _
 |k+1=>by
  have:=u3 t d k;unfold tt at this|-;rw[sS,ib]
  grind [RX, oz]
theorem w5 (t:fZ):∀d,(nH t d).length<=5*t.es.length*(d+1)
 |0=>by grind [nH, u3, List.length]
 |d+1=>by
  have h1:=u3 t (d+1) t.es.length;have f:=w5 t d
  grind [nH, List.length_append, Nat.mul_succ]
attribute [local irreducible] xs T
def G2 (w:i5) (B m:Nat) (ve vn v:i6) (fO:ip gG) (t:fZ) (l:ip oY) (E:mE w ve vn fO t) (V:∀b,Mx ve vn fO t b->b<B) (af:gM t=true) (an:fW w m 3 (tO t 0)) (hO:Ow ny 4 w B 83 v l) (av:B<=w.heap.size) (aD:l.length<=800000):
  fQ prog 67 #[v,.agg #[ve,vn],.S m 0 t.ns.length t.ns.length] w (Qq B w (l++wT t t.es.length)):=by
 refine kg func67 fx fE ?_;have R:=(hv af).f.g;have hlen:=E.len;have ar:=R.len;obtain⟨A,c,rfl,az,aB,X⟩:=E.e.op gi;obtain⟨W,N,rfl,aA,aC,Y⟩:=E.n.op gw;refine fA ?_;refine hP fx (λM Z Q aF=>?_);have ah:fW M w.heap.size 26 #[.slice A t.es.length c,.slice W fO.length N]:=Z;refine fA ?_;refine iq (α:=Nat×i6) 0 fx (λx=>[(0,x.2),(2,.S m 0 t.ns.length t.ns.length),(4,.P w.heap.size),(7,.I (x.1:Int))]) (λx w'=>x.1<=t.es.length/\Qq B M (l++wT t x.1) x.2 w') (λx=>t.es.length-x.1) ?_ ?_
 .rintro⟨i,v1⟩ F ⟨hi,K,J⟩;dsimp only at hi K|-;have D:=(ri.ext Q).t J;have z2:=D.size;have S:=J.gO ah fU;have m0:gc F w.heap.size 0 (.slice A t.es.length c):=S.cell 0
  by_cases fY:i<t.es.length
  .obtain⟨b,o,e,rfl,ax,he,_,ak⟩:=X.at_ fY;have am:=jT he;obtain⟨h1,au⟩:=R.inr e am;obtain⟨k,hk⟩:=lZ h1;have pA:k<fO.length:=fy;obtain⟨b',o',y,rfl,ay,ap,_,al⟩:=Y.at_ pA;have aq:nodeAt t e.node=y.n:=by unfold nodeAt;rw[hk];exact E.getD ap
   have ai:b<B:=V b (.inl ⟨fy,rfl⟩);have aj:b'<B:=V b' (.inr (.inl ⟨fy,rfl⟩))
   have L:wT t (i+1)=wT t i++if y.n.kind≠1/\gI t.es e.node=i then oz e.path else[]:=by
    unfold wT;rw[sS];unfold Qd;rw[hU he,aq]
   have aE:=vg t i;have ao:(l++wT t i).length<=900000:=by rw[ib];omega
   refine zD ?_;refine hV (cs:=hR e) fx fE (λj u hu=>D.cell (ak j u hu) ai) ?_;refine gx (z:= .agg #[.string ⟨#[]⟩,.I 0]) fE (λaH aa ab aG=>?_);refine gY aa fx fx fE fx (fJ (l:=hR e) fx) (λd O ad=>?_);have C:Ext F d:=ab.trans ad fM;have I:=J.te C;have G:=D.te C;have m1:gc d w.heap.size 1 (.S b' o' fO.length N):=(S.ext C).cell 1;have m2:gc d F.heap.size 0 (.U e.path):=O.cell 0;have m3:d.cell? ⟨F.heap.size,1,none⟩=some (.int .i64 (k:Int)):=by rw[<-hk];exact O.cell 1
   have m4:gc d b' (o'+k*12+0) (.I y.n.kind):=G.cell (al 0 _ rfl) aj;have m5:d.cell? ⟨m,0+k,none⟩=some (.int .i64 ((gI t.es e.node:Nat):Int)):=by rw[(G.gO an fU).cell,iM];exact(by grind [Gn])
   have ag:=K.ext C;have z4:=G.size
   by_cases U:y.n.kind=1
   .rw[if_neg (λh=>h.1 U),mR]at L;refine E8 ?_;exact hy fx ⟨_,fM,rfl,(i+1,v1),sub ⟨rfl,rfl,rfl,rfl⟩,⟨fY,⟨by grind,I⟩⟩,rfl⟩
   .by_cases T:gI t.es e.node=i
    .rw[if_pos ⟨U,T⟩]at L
     repeat' (first|refine gH k (o'+k*12) fx fx fx fx fx pA ?_|refine pg fx fx fx fy ?_|refine fT ?_|fail)
     refine fI fx fx (A5 d B _ _ e.path ag fy ao) ?_;rintro r aI ⟨aw,ae⟩;refine fA ?_;exact hy fx ⟨_,fM,rfl,(i+1,r),sub ⟨rfl,rfl,rfl,rfl⟩,⟨fY,⟨by grind,I.t ae⟩⟩,rfl⟩
    .rw[if_neg (λh=>T h.2),mR]at L
     repeat' (first|refine gH k (o'+k*12) fx fx fx fx fx pA ?_|refine pg fx fx fx fy ?_|refine fT ?_|fail)
     exact hy fx ⟨_,fM,rfl,(i+1,v1),sub ⟨rfl,rfl,rfl,rfl⟩,⟨fY,⟨by grind,I⟩⟩,rfl⟩
  .obtain rfl:i=t.es.length:=fy;refine fA ?_;exact fB fx fx ⟨K,D⟩
 .intro H;refine fA ?_;refine hI ?_;exact iw (H (0,v) M ⟨iF _,by show Ow _ _ _ _ _ _ (l++[]);rw[mR];exact hO.ext Q,ri.ext (Fr.refl _ _)⟩) (sub ⟨rfl,rfl,rfl,rfl⟩)
structure DiS where
 d:Nat
 i:Nat
 v:Value
 L:List oY
def N5 (w:i5) (B:Nat) (ve vn v:i6) (fO:ip gG) (t:fZ) (l:ip oY) (M:mE w ve vn fO t) (ab:∀b,Mx ve vn fO t b->b<B) (ao:gM t=true) (hO:Ow ny 4 w B 83 v l) (aD:B<=w.heap.size) (aN:l.length<=800000):
  fQ prog 68 #[v,.agg #[ve,vn]] w (Qq B w (l++nH t 8)):=by
 refine gP func68 fx fE ?_;have O:=(hv ao).f.g;have hlen:=M.len;have aB:=O.len;obtain⟨A,c,rfl,aI,aK,ah⟩:=M.e.op gi;obtain⟨ae,R,rfl,aJ,aL,ai⟩:=M.n.op gw
 have hbound:(l++nH t 8).length<=850000:=by
  have:=w5 t 8;rw[ib];omega
 refine fA ?_;refine hP fx (λN aj T aO=>?_);have ar:fW N w.heap.size 26 #[.slice A t.es.length c,.slice ae fO.length R]:=aj;refine fA ?_
 refine uA (α:=DiS) (β:=DiS) 0 1 fU fx fx
  (λx=>[(0,x.v),(3,.P w.heap.size),(5,.I (x.d:Int))])
  (λx w'=>x.d<=8/\Qq B N x.L x.v w'/\x.L++nH t x.d=l++nH t 8) (λx=>x.d*1000+999)
  (λx=>[(0,x.v),(3,.P w.heap.size),(5,.I (x.d:Int)),(6,.I (x.i:Int))])
  (λx w'=>(x.d<=8/\x.i<=t.es.length)/\Qq B N (x.L++tt t x.d x.i) x.v w'/\x.L++nH t x.d=l++nH t 8) (λx=>x.d*1000+(t.es.length-x.i)) ?_ ?_ ?_
 .rintro⟨d,i,v1,L⟩ D ⟨C,⟨F,E⟩,m⟩ K;dsimp only at C F m K|-;refine fA ?_;refine hI ?_;exact iw (K ⟨d,0,v1,L⟩ D ⟨fM,⟨by show Ow _ _ _ _ _ _ (L++[]);grind,E⟩,m⟩ fM) (sub ⟨rfl,rfl,rfl,rfl⟩)
 .rintro⟨d,i,v1,L⟩ D ⟨⟨C,hi⟩,⟨F,E⟩,m⟩ K;dsimp only at C hi F m K|-;have J:=(ri.ext T).t E;have z2:=J.size;have X:=E.gO ar fU;have m0:gc D w.heap.size 0 (.slice A t.es.length c):=X.cell 0
  have aE:L.length<=850000:=by
   have:=congrArg List.length m;rw[ib]at this;omega
  have aM:=u3 t d i;have ay:(L++tt t d i).length<=900000:=by rw[ib];omega
  by_cases fY:i<t.es.length
  .obtain⟨b,o,e,rfl,aG,he,_,aw⟩:=ah.at_ fY;have Z:=jT he;obtain⟨h1,aC⟩:=O.inr e Z;obtain⟨k,hk⟩:=lZ h1;have pA:k<fO.length:=fy;obtain⟨b',o',y,rfl,aH,az,_,ax⟩:=ai.at_ pA;have aA:nodeAt t e.node=y.n:=by unfold nodeAt;rw[hk];exact M.getD az
   have au:b<B:=ab b (.inl ⟨fy,rfl⟩);have av:b'<B:=ab b' (.inr (.inl ⟨fy,rfl⟩))
   have Q:tt t d (i+1)=tt t d i++if y.n.kind=1/\(fX e.path).length=d then oz e.path else[]:=by
    unfold tt;rw[sS];unfold RX;rw[hU he,aA]
   refine zD ?_;refine hV (cs:=hR e) fx fE (λj u hu=>J.cell (aw j u hu) au) ?_;refine gx (z:= .agg #[.string ⟨#[]⟩,.I 0]) fE (λaR ak al aP=>?_);refine gY ak fx fx fE fx (fJ (l:=hR e) fx) (λG S am=>?_);have H:Ext D G:=al.trans am fM;have V:=E.te H;have U:=J.te H;have m1:gc G w.heap.size 1 (.S b' o' fO.length R):=(X.ext H).cell 1;have m2:gc G D.heap.size 0 (.U e.path):=S.cell 0;have m3:G.cell? ⟨D.heap.size,1,none⟩=some (.int .i64 (k:Int)):=by rw[<-hk];exact S.cell 1
   have m4:gc G b' (o'+k*12+0) (.I y.n.kind):=U.cell (ax 0 _ rfl) av;have ap:=F.ext H;have z4:=U.size
   by_cases aa:y.n.kind=1
   .refine E8 ?_;refine fI fx fx (Kh G e.path (O.path e Z)) ?_;rintro r ad ⟨rfl,I⟩;have aQ:gc ad D.heap.size 0 (.U e.path):=I.cell m2;have aq:=ap.ext I;have W:=V.te I;have z5:=I.size
    by_cases Y:(fX e.path).length=d
    .rw[if_pos ⟨aa,Y⟩]at Q;refine fA ?_;refine fI fx fx (A5 ad B _ _ e.path aq fy ay) ?_;rintro r aS ⟨aF,an⟩;refine fA ?_;exact hy fx ⟨_,fM,.inr ⟨rfl,⟨d,i+1,r,L⟩,sub ⟨rfl,rfl,rfl,rfl⟩,⟨⟨C,fY⟩,⟨by grind,W.t an⟩,m⟩,rfl⟩⟩
    .rw[if_neg (λh=>Y h.2),mR]at Q;refine fA ?_;exact hy fx ⟨_,fM,.inr ⟨rfl,⟨d,i+1,v1,L⟩,sub ⟨rfl,rfl,rfl,rfl⟩,⟨⟨C,fY⟩,⟨by grind,W⟩,m⟩,rfl⟩⟩
   .rw[if_neg (λh=>aa h.1),mR]at Q;refine E8 ?_;exact hy fx ⟨_,fM,.inr ⟨rfl,⟨d,i+1,v1,L⟩,sub ⟨rfl,rfl,rfl,rfl⟩,⟨⟨C,fY⟩,⟨by grind,V⟩,m⟩,rfl⟩⟩
  .obtain rfl:i=t.es.length:=fy;rcases d with _|d
   .refine fA ?_;exact fB fx fx ⟨by rw[<-m];exact F,J⟩
   .have ag:((d+1:Nat):Int)-1=(d:Int):=fy;refine fA ?_;exact hy fx ⟨_,fM,.inl ⟨rfl,⟨d,0,v1,L++tt t (d+1) t.es.length⟩,sub ⟨rfl,rfl,km ag⟩,⟨Nat.le_of_succ_le C,⟨F,E⟩,by rw[kF];exact m⟩,rfl⟩⟩
 .intro af H1;refine fA ?_;refine hI ?_;exact iw (af ⟨8,0,v,l⟩ N ⟨gJ _,⟨hO.ext T,ri.ext (Fr.refl _ _)⟩,rfl⟩) (sub ⟨rfl,rfl,rfl⟩)
end
section
def vM (t:fZ) (p:fL):Bool:=match fK t.es p with
 |some k=>decide ((nodeAt t k).kind=1)
 |none=>false
def qU (t:fZ) (th:ip fL) (p:fL):Bool:=decide (p∈th)&&vM t p
def RZ (t:fZ) (th:ip fL) (i:Nat):ip (fL×Int):=((th.take i).filter (vM t)).map λp=>(p,1)
theorem D9 (p:fL):∀l:ip fL,Jt p (l.map λq=>(q,(1:Int)))=if p∈l then some 1 else none
 |[]=>rfl
 |q::l=>by
  rw[jj,Jt,D9 p l]
  grind
def Ug (t:fZ) (th:ip fL) (p:fL):((Jt p (RZ t th th.length)).getD 0=0)=(qU t th p=false):=by
 grind [RZ, qU, D9, List.take_length, vM]
def UZ {th:ip fL} (d:th.Nodup) (h:th[i]? =some p):Jt p (RZ t th i)=none:=by
 grind [RZ, D9, List.getElem?_eq_some_iff, List.mem_take_iff_getElem, List.pairwise_iff_getElem]
def Qj {th:ip fL} (h:th[i]? =some p):RZ t th (i+1)=RZ t th i++if vM t p then[(p,1)]else[]:=by
 grind [RZ, List.take_add_one, Option.toList_some, vM]
theorem N8 (t:fZ) (m:gM t=true) (hi:i<t.es.length):(ou t i).length<=20:=by
 have n:fG (nodeAt t (ha t i).node)=true:=(hv m).f.g.node _ (by simp_all [jT,j9,hU]);unfold ou;split
 .simp
 .split
  .simp
  .unfold oV;split
   .rename_i d;have:=((kH _).1 (iX n d)).2.2.1
    grind [List.length_cons, List.length_append, L2]
   .simp
theorem Aw (t:fZ) (D:fL->Bool) (h:1<=i):oy t D (i+1)=oy t D i++if D (ha t i).path then[]else ou t i:=by
 grind [oy, List.range_succ, List.flatMap_singleton]
theorem Ap (t:fZ) (D:fL->Bool) (d:gM t=true):∀k,k<=t.es.length->(oy t D k).length<=20*k
 |0,_=>gJ _
 |1,_=>iF _
 |k+2,h=>by
  have:=Ap t D d (k+1) fy
  grind [N8, Aw, List.length_append]
def ri.ms {e:i9} {B g:Nat} {w w':i5} {l:ip (fL×Int)} (h:ri e B w w') (d:FI w g l):FI w' g l:=d.fr h λ⟨_,_,f⟩=>by
 obtain⟨es,clock,h1,_⟩:=d
 grind [fW]
def XR {w w':i5} (h:Fr (w.heap.size<=·) w w'):Ext w w':=(Fr.refl hJ w).trans h fM
structure AlS where
 i:Nat
 v:Value
 g:Nat
attribute [local irreducible] xs T
def NJ (w:i5) (ve vn IZ:i6) (fO:ip gG) (t:fZ) (th:ip fL) (N:mE w ve vn fO t) (ao:Rw qM w IZ th) (aK:th.Nodup) (C:gM t=true):
  fQ prog 31 #[.agg #[ve,vn],IZ] w λr w'=>∃v,r= .tuple #[v,.I 0]/\Ow ny 4 w' w.heap.size 83 v (pD t (qU t th))/\Ext w w':=by
 refine gP func31 fx fE ?_;have U:=(hv C).f.g;have H:=N;have hlen:=N.len;have aQ:=U.len;have aM:t.ns.length<=1000000:=by have:=zF C;omega
 have aN:uV t.ns:=(Em C).1;have O:∀b,Mx ve vn fO t b->b<w.heap.size:=λb L=>N.FF L
 have a6:∀b,Sq IZ th b->b<w.heap.size:=λb L=>ao.FF L
 obtain⟨A,c,rfl,aW,aY,az⟩:=N.e.op gi;obtain⟨ai,aj,rfl,aX,aZ,aA⟩:=N.n.op gw;obtain⟨av,ax,rfl,a1,a2,hH⟩:=ao.op nZ
 have aR:1<=t.es.length:=by
  obtain⟨e,he,_⟩:=U.root;exact fM
 refine fA ?_;refine hP fx (λI aB S a4=>?_);have V:fW I w.heap.size 26 #[.slice A t.es.length c,.slice ai fO.length aj]:=aB;refine fA ?_
 refine uA (α:=AlS) (β:=AlS×Nat) 0 1 fU fx fx
  (λx=>[(1,.slice av th.length ax),(2,.P w.heap.size),(6,.map (some x.g)),(7,.I (x.i:Int))])
  (λx w'=>(x.i<=th.length/\I.heap.size<=x.g)/\Ext I w'/\FI w' x.g (RZ t th x.i)) (λx=>1000+(th.length-x.i))
  (λx=>[(2,.P w.heap.size),(6,.map (some x.1.g)),(7,.I (x.1.i:Int)),(10,x.1.v),(11,.S x.2 0 t.ns.length t.ns.length)])
  (λx w'=>(1<=x.1.i/\x.1.i<=t.es.length)/\Qq w.heap.size I (oy t (qU t th) x.1.i) x.1.v w'/\FI w' x.1.g (RZ t th th.length)/\fW w' x.2 3 (tO t 0)) (λx=>t.es.length-x.1.i) ?_ ?_ ?_
 .rintro⟨i,v1,gm⟩ m ⟨⟨hi,aI⟩,E,D⟩ X;dsimp only at hi aI D X|-;have R:Ext w m:=S.t E;have F:=V.ext E
  by_cases fY:i<th.length
  .obtain⟨b,o,p,rfl,L,an,_,af⟩:=hH.at_ fY
   have c0:w.cell? ⟨b,o+i,none⟩=some (.U p):=by
    have:=af 0 _ rfl;rwa[oR,kB]at this
   have m0:gc m.drew b (o+i) (.U p):=R.cell c0;refine fA ?_;refine gR (t:=26) F.drew fx fx ?_;refine fA ?_;refine fI fx fx (kk m.drew _ _ t.es p (H.e.ext (R.t (Fr.drew hJ m)))) ?_;rintro r u ⟨rfl,G⟩;have Z:Ext m u:=(Fr.drew hJ m).t G;have ad:=D.ext Z;have J:=E.t Z;have aC:Ext w u:=S.t J;have m1:gc u w.heap.size 1 (.slice ai fO.length aj):=(V.ext J).cell 1;have m2:gc u b (o+i) (.U p):=Z.cell (R.cell c0);have aO:=Qj (t:=t) an;have aL:=UZ (t:=t) aK an;have skip:vM t p=false->FI u gm (RZ t th (i+1)):=fM;cases W:fK t.es p with
   |none=>
    have ag:vM t p=false:=by unfold vM;rw[W]
    simp only[tx,BW];refine fA ?_;exact y25
   | some z=>
    obtain⟨d,aG,_,aH⟩:=gT W;obtain⟨h1,ay⟩:=U.inr d aG;rw[aH]at h1 ay;obtain⟨k,rfl⟩:=lZ h1;have pA:k<fO.length:=fy;obtain⟨b',o',y,rfl,aU,aP,_,aF⟩:=aA.at_ pA;have aq:nodeAt t (k:Int)=y.n:=H.getD aP;have m4:gc u b' (o'+k*12+0) (.I y.n.kind):=aC.cell (aF 0 _ rfl);simp only[Bl,AN]
    by_cases am:y.n.kind=1
    .have ag:vM t p=true:=by unfold vM;rw[W];dsimp only;rw[aq];exact decide_eq_true am
     rw[ag,if_pos rfl]at aO;refine E8 ?_;refine ac9 underlying110 underlying9 ad aL fx fx fx (λau aT ab=>?_);have aS:Ext I au:=J.trans ab fM;refine fA ?_;exact y25
    .have ag:vM t p=false:=by unfold vM;rw[W];dsimp only;rw[aq];exact decide_eq_false am
     refine E8 ?_;exact y25
  .obtain rfl:i=th.length:=fy;refine fA ?_;refine gR (t:=26) F fx fx ?_;refine fA ?_;refine fI fx fx (FP m _ _ fO t (H.ext R) U.inr fy aM) ?_;rintro r u ⟨g,rfl,B,a0,G⟩;have J:=E.t G;refine fA ?_;refine hI ?_;exact iw (X (⟨1,.slice none 0 0,gm⟩,g) u ⟨fM,⟨Ow.nil _ _ _,ri.ext J⟩,D.ext G,B⟩ fy) (sub ⟨rfl,rfl,rfl,rfl,rfl⟩)
 .rintro⟨⟨i,v1,gm⟩,Q⟩ m ⟨⟨al,hi⟩,⟨ae,K⟩,D,M⟩ X;dsimp only at al hi ae K D M X|-;have T:=(ri.ext S).t K;have z2:=T.size;have F:=K.gO V fU;have ap:=T.tr H O;have m0:gc m w.heap.size 0 (.slice A t.es.length c):=F.cell 0;have aV:=Ap t (qU t th) C i hi
  by_cases fY:i<t.es.length
  .obtain⟨b,o,e,rfl,L,he,_,af⟩:=az.at_ fY;have aE:b<w.heap.size:=fy;have q0:gc m b (o+i*2+0) (.U e.path):=T.cell (af 0 _ rfl) aE;have ah:=Aw t (qU t th) al;rw[hU he]at ah;have aJ:=Ug t th e.path;refine zD ?_;refine adz underlying110 underlying9 (λ_=>rfl) D fx fx ?_
   by_cases ar:(Jt e.path (RZ t th th.length)).getD 0=0
   .have Y:qU t th e.path=false:=by rw[<-aJ];exact ar
    rw[ar];rw[Y,if_neg fU]at ah;refine fA ?_;refine gR (t:=26) F fx fx ?_;refine fA ?_;refine fI fx fx (Ot m w.heap.size Q i _ _ _ fO t _ ap O C M ae fy fy fY) ?_;rintro r u ⟨ak,B⟩;refine fA ?_;exact hy fx ⟨_,fM,.inr ⟨rfl,(⟨i+1,r,gm⟩,Q),sub ⟨rfl,rfl,rfl,rfl,rfl⟩,⟨fM,⟨by grind,K.t B⟩,B.ms D,B.gO M fU⟩,rfl⟩⟩
   .have Y:qU t th e.path=true:=by
     cases h:qU t th e.path
     .grind
     .rfl
    rw[Y,if_pos rfl,mR]at ah;refine fA ?_;exact hy fx ⟨_,fM,.inr ⟨rfl,(⟨i+1,v1,gm⟩,Q),sub ⟨rfl,rfl,rfl,rfl,rfl⟩,⟨fM,⟨by grind,K⟩,D,M⟩,rfl⟩⟩
  .obtain rfl:i=t.es.length:=fy;refine fA ?_;refine gR (t:=26) F fx fx ?_;refine fA ?_;refine fI fx fx (G2 m w.heap.size Q _ _ _ fO t _ ap O C M ae fy fy) ?_;rintro r u ⟨ak,B⟩;have aa:=T.t B;have z3:=aa.size;have a3:=vg t t.es.length;refine fA ?_;refine gR (t:=26) (B.gO F fU) fx fx ?_;refine fA ?_;refine fI fx fx (N5 u w.heap.size _ _ _ fO t _ (aa.tr H O) O C ak fy fM) ?_;rintro r au ⟨aD,ab⟩;refine fA ?_;exact ia fx fx fx ⟨_,rfl,aD,XR ((aa.t ab).mono λ_ _ h=>h.1)⟩
 .intro aw H1;refine fA ?_;refine gR (t:=26) V fx fx ?_;refine fA ?_;refine fI fx fx (sy I _ _ fO t (H.ext S) aN) ?_;rintro r m ⟨rfl,E⟩;rw[C];refine fA ?_;refine adP (λu ad G a5=>?_);refine fA ?_;refine hI ?_;exact iw (aw ⟨0,.slice none 0 0,m.heap.size⟩ u ⟨⟨iF _,E.size⟩,E.t G,ad⟩) (sub ⟨rfl,rfl,rfl,rfl⟩)
end
theorem Dy {m:hA} {pos:Int} {s:fL} (h:kY t) (hc:0<=(gj m).2.2.calls):kY (oE m t p pos s):=by
 unfold oE;split
 .exact h
 .exact yT h hc λn d _=>⟨lR d _ _,nC _ _ _⟩
theorem Sw {m:hA} {z:Int} (h:kY t) (hc:0<=(gj m).2.2.calls):kY (wo m t p z):=by
 unfold wo;split
 .exact h
 .exact yT h hc λn d _=>⟨yC d _,Ck _ _⟩
theorem On {l:ip xB} {n:Nd} (d:fG n=true) (hm:hd (tv l n)=true):fG (tv l n)=true/\(tv l n).kind=n.kind:=⟨nz d hm ⟨rfl,rfl,rfl,rfl,rfl,rfl⟩,rfl⟩
theorem Nv {l:ip Ac} {n:Nd} (d:fG n=true) (hm:hd (tR l n)=true):fG (tR l n)=true/\(tR l n).kind=n.kind:=⟨nz d hm ⟨rfl,rfl,rfl,rfl,rfl,rfl⟩,rfl⟩
