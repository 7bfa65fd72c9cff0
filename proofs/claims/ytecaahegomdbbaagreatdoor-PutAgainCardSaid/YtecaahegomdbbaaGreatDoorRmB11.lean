/- Parts of the proof. -/
import Derived.Test.YtecaahegomdbbaaGreatDoorRmBk
import Derived.Test.YtecaahegomdbbaaGreatDoorRmYc
import Derived.Test.YtecaahegomdbbaaGreatDoorRmB9c
import Derived.Test.YtecaahegomdbbaaGreatDoorRmWy
set_option linter.all false
set_option maxRecDepth 99999
set_option maxHeartbeats 0
namespace Go.Proofs.YtecaahegomdbbaaGreatDoor.gr
open Go.Proofs.Tryz
open Go.RowKit
variable {k:Int} {fO:ip gG} {B b g i:Nat} {ve vf vn:i6} {w w':i5} {p:fL} {S U t u:fZ} {m:hA}
section
def lQ (t:fZ):Nat->hA->fZ->ip fL->Int×hA×fZ×ip fL
 |0,m,S,th=>(0,m,S,th)
 | j+1,m,S,th=>
  if pO m S (ha t (j+1)).path=7\/pO m S (ha t (j+1)).path=9 then lQ t j (gj m).2.2 S th
  else if pO m S (ha t (j+1)).path≠0 then(pO m S (ha t (j+1)).path,(gj m).2.2,S,th)
  else if(nodeAt S (hD S (ha t (j+1)).path).1).kind=1 then
   (if(nodeAt t (ha t (j+1)).node).kind≠1 then(6,(gj m).2.2,S,th)else lQ t j (gj m).2.2 S (th++[(ha t (j+1)).path]))
  else if pJ (gj m).2.2 S (ha t (j+1)).path≠0 then(pJ (gj m).2.2 S (ha t (j+1)).path,(gj (gj m).2.2).2.2,nM (gj m).2.2 S (ha t (j+1)).path,th)
  else lQ t j (gj (gj m).2.2).2.2 (nM (gj m).2.2 S (ha t (j+1)).path) th
theorem RW (h:ym t) {j:Nat} (hi:i<t.es.length) (f:j<t.es.length) (he:(ha t i).path=(ha t j).path):i=j:=by
 have h1:=j9 hi;have d:=j9 f;rw[hU h1,hU d]at he;exact(jQ h h1 d he).1
theorem Ln {t:fZ} (h:ym t):∀(j:Nat),j<t.es.length->∀(m:hA) (S:fZ) (th:ip fL),th.Nodup->(∀p∈th,∀i,i<=j->(ha t i).path≠p)->(lQ t j m S th).2.2.2.Nodup
 |0,_,m,S,th,d,_=>d
 |j+1,g,m,S,th,d,f=>by
  have n:=Ln h j fy
  grind [ha, List.nodup_append, List.mem_singleton, RW, lQ]
def mF (m:hA) (S t:fZ):Int×hA×fZ:=
 if(lQ t (t.es.length-1) m S []).1≠0 then((lQ t (t.es.length-1) m S []).1,(lQ t (t.es.length-1) m S []).2.1,(lQ t (t.es.length-1) m S []).2.2.1)
 else runM t (pD t (qU t (lQ t (t.es.length-1) m S []).2.2.2)) (lQ t (t.es.length-1) m S []).2.1 (lQ t (t.es.length-1) m S []).2.2.1
theorem abN (m:hA) (S:fZ) (n:Nd) (s:oY):(uy m S n s).2.1=(gj m).2.2\/(uy m S n s).2.1=m:=by
 grind [uy, List.length]
theorem aaE (m:hA) (S t:fZ) (s:oY):(n3 m S t s).2.1=(gj m).2.2\/(n3 m S t s).2.1=m:=by
 grind [n3, fK, abN]
def OU (m:hA) (S t:fZ) (s:oY):m.calls<=(n3 m S t s).2.1.calls/\(n3 m S t s).2.1.calls<=m.calls+1:=by
 have h:=qD m
 grind [aaE]
theorem Va (n:Nd) (s:oY) (h:kY S) (D:0<=(gj m).2.2.calls):kY (uy m S n s).2.2:=by
 have hm:∀{n:Nd} {x:Nd},fG n=true->hd x=true->Ct x n->fG x=true:=λh1 w h3=>nz h1 w h3
 unfold uy
 by_cases v:s.kind=1\/s.kind=2
 .grind [uM]
 rw[if_neg v]
 by_cases h3:s.kind=3
 .grind [List.length, Dy]
 rw[if_neg h3]
 by_cases y:s.kind=4
 .grind [Sw]
 rw[if_neg y]
 by_cases g:s.kind=6
 .rw[if_pos g];exact sT h λn d _ f=>⟨hm d f ⟨rfl,rfl,rfl,rfl,rfl,rfl⟩,rfl⟩
 rw[if_neg g]
 by_cases B:s.kind=7
 .grind [sT, On]
 rw[if_neg B]
 by_cases C:s.kind=8
 .grind [sT, Nv]
 rw[if_neg C]
 by_cases t:s.kind=9
 .rw[if_pos t];exact sT h λn d _ f=>⟨hm d f ⟨rfl,rfl,rfl,rfl,rfl,rfl⟩,rfl⟩
 rw[if_neg t]
 by_cases u:s.kind=10
 .rw[if_pos u];exact sT h λn d _ f=>⟨hm d f ⟨rfl,rfl,rfl,rfl,rfl,rfl⟩,rfl⟩
 grind
def UE (s:oY) (h:kY S) (hc:0<=m.calls):kY (n3 m S t s).2.2:=by
 grind [gj, qD, n3, fK, GB, AI, Va]
def RV (w:i5) (g:Nat) (ve vn:i6) (P:Nat->Prop):Prop:=∀b,P b->b<w.heap.size/\¬Ep g ve vn b
theorem oF (h:nJ w B g m vf ve vn fO t) (d:Ep g ve vn b):B<=b/\b<w.heap.size:=h.gO (by
 rcases d with d|d|d
 .exact .inl d
 .exact .inr (.inr (.inl d))
 .exact .inr (.inr (.inr (.inl d))))
theorem M0 {D:Nat} {v:i6} {l:ip fL} (h:nJ w B g m vf ve vn fO t) (y:Ow qM 1 w D 9 v l) (u:b=g\/vf.ownBlock=some b\/JA ve vn fO b):¬v.ownBlock=some b:=λe=>by
 obtain⟨E,hm⟩:=y.za e;rcases u with rfl|u|u|u|⟨x,C,u|u|u⟩
 .exact hm.Dm h.i.k fU fx
 .exact y.apart h.f fU e u
 .exact y.apart h.o.e fU e u
 .exact y.apart h.o.n fU e u
 .exact y.apart (h.o.i x C).a fU e u
 .exact y.apart (h.o.i x C).c fU e u
 .exact y.apart (h.o.i x C).d fU e u
def RV.go {m':hA} {n t:i6} {u:ip gG} {t':fZ} {P:Nat->Prop} (h:RV w g ve vn P) (m:iY w B g vf ve vn fO w' m' t' n t u):RV w' g n t P:=λb d=>⟨BX (h b d).1 m.f.size,λhk=>(m.k b hk).elim (h b d).2 (by have:=(h b d).1;omega)⟩
def RV.ext {P:Nat->Prop} (h:RV w g ve vn P) (f:Ext w w'):RV w' g ve vn P:=λb d=>⟨BX (h b d).1 f.size,(h b d).2⟩
structure CnI (w0 w:World) (B g:Nat) (vf ve0 vn0 vet vnt:Value) (J9:List gG) (t:fZ) (R:Int×hA×fZ×List fL) (c0:Int) (j:Nat) (m:hA) (S:fZ) (th:List fL) (ve vn IZ:Value) (fO:List gG) (w':World):Prop where
 s:iY w0 B g vf ve0 vn0 J9 w' m S ve vn fO
 gg:kY S
 c:0<=m.calls/\m.calls+2*(j:Int)<=c0
 b:fW w' w.heap.size 26 #[vet,vnt]
 a:RV w' g ve vn λk=>k=w.heap.size\/IZ.ownBlock=some k
 ot:Ow qM 1 w' w0.heap.size 9 IZ th
 ll:th.length+j<=100
 jl:j<t.es.length
 r:lQ t j m S th=R
structure CnS where
 j:Nat
 m:hA
 S:fZ
 th:List fL
 ve:Value
 vn:Value
 IZ:Value
 fO:List gG
def CnR (w:i5) (B g:Nat) (vf ve vn:i6) (fO:ip gG) (y:Int×hA×fZ×ip fL) (r:i6) (w':i5):Prop:=∃IZ d f m,r= .tuple #[IZ,.I y.1]/\iY w B g vf ve vn fO w' y.2.1 y.2.2.1 d f m/\kY y.2.2.1/\(0<=y.2.1.calls/\y.2.1.calls<=2000000)/\(y.1=0->Ow qM 1 w' w.heap.size 9 IZ y.2.2.2/\y.2.2.2.Nodup/\RV w' g d f λk=>IZ.ownBlock=some k)
attribute [local irreducible] xs T
def J6 (w:i5) (B g:Nat) (m:hA) (vf ve vn aw ax:i6) (fO K:ip gG) (S t:fZ) (h:nJ w B g m vf ve vn fO S) (a7:kY S) (V:mE w aw ax K t) (aQ:∀b,Mx aw ax K t b->b<B) (aE:gM t=true) (hc:0<=m.calls/\m.calls<=1000000):
  fQ prog 30 #[.P g,.agg #[aw,ax]] w (CnR w B g vf ve vn fO (lQ t (t.es.length-1) m S [])):=by
 refine gP func30 fx fE ?_;have aB:=(hv aE).f;have bz:=aB.g.len;have h1:=yt aE;have bs:=V;have hlen:=V.len;have bC:B<=w.heap.size:=by have:=h.b;have:=h.i.k.lt;omega
 have aN:(lQ t (t.es.length-1) m S []).2.2.2.Nodup:=by grind [Ln, List.nodup_nil]
 obtain⟨A,c,rfl,bH,bJ,aS⟩:=V.e.op gi;obtain⟨W,N,rfl,bI,bK,aT⟩:=V.n.op gw;generalize a9:lQ t (t.es.length-1) m S []=X at aN;refine fA ?_;refine hP fx (λay aW a1 bP=>?_);have aI:fW ay w.heap.size 26 #[.slice A t.es.length c,.slice W K.length N]:=aW;refine fA ?_
 refine iq (α:=CnS) 0 fx (λx=>[(0,.P g),(3,.P w.heap.size),(6,x.IZ),(7,.I ((x.j+1:Nat):Int))])
  (λx w'=>CnI w w B g vf ve vn (.slice A t.es.length c) (.slice W K.length N) fO t X 1200000 x.j x.m x.S x.th x.ve x.vn x.IZ x.fO w') (λx=>x.j) ?_ ?_
 .rintro⟨j,m1,D,th,E,F,IZ,I⟩ L d;dsimp only at d|-;have ao:=d.s.o;have aC:Fr (B<=·) w L:=d.s.f.mono λ_ _ C=>(oF h C).1
  have bT:=bs.uZ aC fM;have br:=d.ot.form;obtain⟨At,ct,rfl,_,_⟩:=br;have Z:((j+1:Nat):Int)-1=(j:Int):=fy;have bU:=d.s.f.size;rcases yc j with rfl|h0
  .have v:X=(0,m1,D,th):=d.r.symm;subst v;have aK:=d.c;refine fA ?_;exact ia fx fx fx ⟨_,_,_,_,rfl,d.s,d.gg,by dsimp only;omega,λ_=>⟨d.ot,aN,λb C=>d.a b (.inr C)⟩⟩
  .obtain⟨j,rfl⟩:∃i,j=i+1:=⟨j-1,fy⟩;have aM:=d.jl;obtain⟨b,o,e,rfl,C,he,_,bf⟩:=aS.at_ aM;have bc:b<B:=aQ b (.inl ⟨fy,rfl⟩);have bl:ha t (j+1)=e:=hU he;have v:=d.r;rw[lQ,bl]at v;have m0:gc L w.heap.size 0 (.S b o t.es.length c):=d.b.cell 0;have aK:=d.c;have bF:=qD m1;have bG:=qD (gj m1).2.2
   repeat' (first|refine gH (j+1) (o+(j+1)*2) fx fx fx Z fx aM ?_|refine fT ?_|fail)
   refine hV (cs:=hR e) fx fE (λi u hu=>aC.cell (bf i u hu) (vI.2 bc)) ?_;refine gx (z:= .agg #[.string ⟨#[]⟩,.I 0]) fE (λbY aX a2 bQ=>?_);refine gY aX fx fx fE fx (fJ (l:=hR e) fx) (λai aA a5=>?_);have O:Ext L ai:=a2.trans a5 fM;have z4:=O.size;have ap:=ao.ext O;have am:=d.a.ext O;have q0:gc ai L.heap.size 0 (.U e.path):=aA.cell 0;have bo:¬Ep g E F L.heap.size:=λhk=>by have:=(oF ao hk).2;omega
   refine fA ?_;refine fI fx fx (Bm ai g m1 vf E F I D e.path ap.i ⟨aK.1,fy⟩) ?_;rintro r T ⟨x,rfl,bu,bv,a8,aD⟩;have bL:=ap.i.k.lt;have U:iY ai B g vf E F I T (gj m1).2.2 D E F I:=iY.put ap aD a8 (iW m1);have aG:=(d.s.t (iY.ext ao O)).t U;have aU:=am.go U;have bb:fW T w.heap.size 26 #[.S b o t.es.length c,.slice W K.length N]:=(d.b.ext O).fr U.f (am _ (.inl rfl)).2;have bq:Ow qM 1 T w.heap.size 9 (.slice At th.length ct) th:=(d.ot.ext O).fr U.f λb C=>(am b (.inr C)).2
   have bk:fW T L.heap.size 49 (hR e).toArray:=aA.fr U.f bo;have z5:=aD.size;refine fA ?_;refine gx (z:= .agg tH) fE (λbZ aY a3 bR=>?_);refine gY aY fx fx fE fx (fJ (l:=gB x) (ld.2 (iC bu.in))) (λG aZ a6=>?_);have Q:Ext T G:=a3.trans a6 fM;have J:=aG.t (iY.ext aG.o Q);have aa:=aU.ext Q;have av:=bq.ext Q;have ad:=bb.ext Q;have b0:=Q.size
   have step:∀{aj:i5} {m2:hA} {Y:fZ} {ag ah:i6} {af:ip gG},iY G B g vf E F I aj m2 Y ag ah af->kY Y->0<=m2.calls/\m2.calls<=m1.calls+2->lQ t j m2 Y th=X->
     CnI w w B g vf ve vn (.S b o t.es.length c) (.slice W K.length N) fO t X 1200000 j m2 Y th ag ah (.slice At th.length ct) af aj:=λM ab be bp=>
    ⟨J.t M,ab,⟨be.1,fy⟩,ad.fr M.f (aa _ (.inl rfl)).2,aa.go M,av.fr M.f λb C=>(aa b (.inr C)).2,by have:=d.ll;omega,fy,bp⟩
   have bn:iY G B g vf E F I G (gj m1).2.2 D E F I:=iY.ext J.o (Fr.refl _ _)
   by_cases al:pO m1 D e.path=7\/pO m1 D e.path=9
   .rw[if_pos al]at v;have au:=step bn d.gg ⟨fy,by omega⟩ v;rcases al with bA|bB
    all_goals
     refine fA ?_;exact hy fx ⟨_,zb j,rfl,⟨j,(gj m1).2.2,D,th,E,F,_,I⟩,sub ⟨rfl,rfl,rfl,km Z⟩,au,rfl⟩
   rw[if_neg al]at v
   by_cases ae:pO m1 D e.path=0
   case neg=>
    rw[if_pos ae]at v;subst v;refine fA ?_;exact ia fx fx fx ⟨_,_,_,_,rfl,J,d.gg,by dsimp only;omega,λh=>absurd h ae⟩
   rw[if_neg (λh=>h ae)]at v;rw[if_pos ae]at bv;have bV:gc G T.heap.size 0 (.I x.n.kind):=aZ.cell 0;have aL:=bk.ext Q;have p0:gc G L.heap.size 0 (.U e.path):=aL.cell 0
   by_cases bN:x.n.kind=1
   .rw[if_pos fM]at v;obtain⟨n1,bW⟩:=aB.g.inr e fM;obtain⟨k,hk⟩:=lZ n1;have pA:k<K.length:=fy;obtain⟨b',o',y,rfl,bE,bw,_,bg⟩:=aT.at_ pA;have bx:nodeAt t e.node=y.n:=by unfold nodeAt;rw[hk];exact V.getD bw
    have bd:b'<B:=aQ b' (.inr (.inl ⟨fy,rfl⟩));have a4:Fr (B<=·) w G:=J.f.mono λ_ _ C=>(oF h C).1
    have p1:G.cell? ⟨L.heap.size,1,none⟩=some (.int .i64 (k:Int)):=by rw[<-hk];exact aL.cell 1
    have p2:gc G w.heap.size 1 (.S b' o' K.length N):=ad.cell 1;have bX:gc G b' (o'+k*12+0) (.I y.n.kind):=a4.cell (bg 0 _ rfl) (vI.2 bd);rw[bx]at v
    by_cases aR:y.n.kind=1
    case neg=>
     rw[if_pos aR]at v;subst v;refine E8 ?_;exact ia fx fx fx ⟨_,_,_,_,rfl,J,d.gg,by dsimp only;omega,λh=>by cases h⟩
    rw[if_neg (λh=>h aR)]at v;refine E8 ?_;refine FG j5 fx fx fU fU (λu hu=>by rw[jS.1 hu];rfl) (λaj a0 R bS=>?_);refine jH (news:=qM e.path) j5 fx fU fx (gK.ext av R) fx (gQ a0 fU fx) fx (λu hu=>by rw[jS.1 hu];rfl) (by have:=d.ll;grind [maxLen]) (by have:=d.ll;omega) fy (λv9 ak bD an bt=>?_);have aP:Ow qM 1 ak w.heap.size 9 v9 (th++[e.path]):=by grind [Ow.ext1]
    have aH:=iY.ext J.o R;have aF:=aH.o;have az:=aa.ext R;have aO:=av.ext R;have aq:=J.t aH;have ba:iY w B g vf ve vn fO ak (gj m1).2.2 D E F I:=⟨aF.fr an (by grind [M0]),aq.f.trans an λj bM hs=>absurd (aO.gO hs).1 fy,aq.k,aq.n⟩
    have aJ:fW ak w.heap.size 26 #[.S b o t.es.length c,.S b' o' K.length N]:=(ad.ext R).fr an λhs=>by
     obtain⟨cs,bh⟩:=aO.za hs;exact bh.Dm (ad.ext R) fU fx
    have bO:=d.ll
    have aV:RV ak g E F λk=>k=w.heap.size\/v9.ownBlock=some k:=λk hk=>by
     rcases hk with rfl|hk
     .exact⟨aJ.lt,(az _ (.inl fx)).2⟩
     .refine⟨(aP.gO hk).2,?_⟩;rcases bt with e|e
      .exact(az k fM).2
      .rw[e]at hk;obtain rfl:=jb hk;exact λbm=>Q3 _ (oF aF bm).2
    refine fA ?_;exact hy fx ⟨_,zb j,rfl,⟨j,(gj m1).2.2,D,th++[e.path],E,F,v9,I⟩,sub ⟨rfl,rfl,rfl,km Z⟩,⟨ba,d.gg,fM,aJ,aV,aP,by grind,by dsimp only;omega,v⟩,rfl⟩
   .rw[if_neg fM]at v;obtain⟨e0,bi,bj,_⟩:=d.gg.f.g.root;refine fA ?_;refine fI fx fx (CL G B g (gj m1).2.2 vf E F I D e.path J.o fy ⟨e0,bi,bj⟩) ?_;rintro r aj ⟨rfl,ag,ah,af,M⟩;have ab:kY (nM (gj m1).2.2 D e.path):=AI d.gg fy
    by_cases ar:pJ (gj m1).2.2 D e.path=0
    case neg=>
     rw[if_pos ar]at v;subst v;refine fA ?_;exact ia fx fx fx ⟨_,_,_,_,rfl,J.t M,ab,by dsimp only;omega,λh=>absurd h ar⟩
    rw[if_neg (λh=>h ar)]at v;have au:=step M ab ⟨fy,by omega⟩ v;refine fA ?_;exact hy fx ⟨_,zb j,rfl,⟨j,_,_,th,ag,ah,_,af⟩,sub ⟨rfl,rfl,rfl,km Z⟩,au,rfl⟩
 .intro H;have m0:gc ay w.heap.size 0 (.slice A t.es.length c):=aI.cell 0;refine fA ?_;refine hI ?_;refine iw (H ⟨t.es.length-1,m,S,[],ve,vn,.slice none 0 0,fO⟩ ay ⟨iY.ext h a1,a7,fM,aI,λb C=>?_,Ow.nil _ _ _,by grind,by dsimp only;omega,a9⟩) (sub ⟨rfl,rfl,rfl,km (by dsimp only;omega)⟩);rcases C with rfl|C
  .grind [fW.lt, oF]
  .cases C
end
section
theorem E4 (d:gM t=true) (D:fL->Bool):(pD t D).length<=10000:=by
 have m:=(hv d).f.g.len
 grind [Ap, List.length, vg, w5, pD, List.length_append]
structure TlI (w0:World) (bT bS:Nat) (B g:Nat) (vf ve0 vn0 vet vnt v:Value) (J9:List gG) (t:fZ) (L:List oY) (R:Int×hA×fZ) (i:Nat) (m:hA) (S:fZ) (ve vn:Value) (fO:List gG) (w':World):Prop where
 s:iY w0 B g vf ve0 vn0 J9 w' m S ve vn fO
 gg:kY S
 c:0<=m.calls/\m.calls<=2000000+(i:Int)
 b:fW w' bT 26 #[vet,vnt]
 ot:Ow ny 4 w' bS 83 v L
 a:RV w' g ve vn λk=>k=bT\/v.ownBlock=some k
 il:i<=L.length
 r:runM t (L.drop i) m S=R
structure TlS where
 i:Nat
 m:hA
 S:fZ
 ve:Value
 vn:Value
 fO:List gG
 v:Value
 c:Nat
 bS:Nat
 L:List oY
def Ny {L:ip oY} {s:oY} (hs:L[i]? =some s):runM t (L.drop i) m S=if(n3 m S t s).1≠0 then n3 m S t s else runM t (L.drop (i+1)) (n3 m S t s).2.1 (n3 m S t s).2.2:=by
 grind [List.getElem?_eq_some_iff, List.drop_eq_getElem_cons, runM]
attribute [local irreducible] xs T
def qF (w:i5) (B g:Nat) (m:hA) (vf ve vn D E:i6) (fO J:ip gG) (S t:fZ) (h:nJ w B g m vf ve vn fO S) (aq:kY S) (az:mE w D E J t) (ah:∀b,Mx D E J t b->b<B) (F:gM t=true) (hc:0<=m.calls/\m.calls<=1000000):
  fQ prog 9 #[.P g,.agg #[D,E]] w (Lp w B g vf ve vn fO (mF m S t)):=by
 refine gP func9 fx fE ?_;have Q:=az;obtain⟨T,G⟩:∃T,T=mF m S t:=⟨_,rfl⟩;rw[<-G];refine fA ?_;refine hP fx (λai am X aT=>?_);have O:fW ai w.heap.size 26 #[D,E]:=am;have Z:¬Ep g ve vn w.heap.size:=λhk=>Q3 _ (oF h hk).2
 refine fA ?_
 refine iq (α:=TlS) 0 fx (λx=>[(0,.P g),(3,.P w.heap.size),(7,x.v),(8,.I (x.i:Int))])
  (λx w'=>TlI w w.heap.size x.bS B g vf ve vn D E x.v fO t x.L T x.i x.m x.S x.ve x.vn x.fO w'/\x.L.length<=10000) (λx=>x.L.length-x.i) ?_ ?_
 .rintro⟨i,m1,K,aF,aI,aC,v,_,bS,L⟩ C ⟨d,aa⟩;dsimp only at d aa|-;have ab:=d.s.o;have ao:Fr (B<=·) w C:=d.s.f.mono λ_ _ M=>(oF h M).1
  have aA:=Q.uZ ao fM;have ag:=d.ot;have aS:=d.il;have af:=d.c;have W:=d.a;obtain⟨A,c,rfl,aN,aO,aj⟩:=ag.rw.op QV
  by_cases fY:i<L.length
  .obtain⟨b,o,s,rfl,_,hs,_,aQ⟩:=aj.at_ fY;have y:=d.r;rw[Ny hs]at y;refine fA ?_;refine gR (t:=26) (fW.drew d.b) fx fx ?_
   repeat' (first|refine gH i (o+i*4) fx fx fx fx fx fY ?_|refine fT ?_|fail)
   refine hV (cs:=ny s) fx fE (by unfold gc at *;simp_all) ?_;refine fI fx fx (SE C.drew B g m1 vf aF aI _ _ aC J K t s (ab.ext (Fr.drew hJ C)) d.gg (aA.ext (Fr.drew hJ C)) ah F ⟨af.1,fy⟩) ?_;rintro r R an;obtain⟨rfl,aG,aJ,aD,u⟩:=an.of ab (Fr.drew hJ C);have n:=d.s.t u;have aR:=OU m1 K t s
   by_cases I:(n3 m1 K t s).1=0
   case neg=>
    rw[if_pos I]at y;subst y;refine fA ?_;exact fB fx fx ⟨rfl,_,_,_,n⟩
   rw[if_neg (λh=>h I)]at y;refine fA ?_;exact hy fx ⟨_,fM,rfl,⟨i+1,(n3 m1 K t s).2.1,(n3 m1 K t s).2.2,aG,aJ,aD,_,0,bS,L⟩,sub ⟨rfl,rfl,rfl,rfl⟩,⟨⟨n,UE s d.gg af.1,fM,d.b.fr u.f (W _ (.inl fx)).2,ag.fr u.f λb M=>(W b (.inr M)).2,W.go u,fY,y⟩,aa⟩,rfl⟩
  .obtain rfl:i=L.length:=fy;have y:=d.r;rw[jP,runM]at y;subst y;refine fA ?_;exact fB fx fx ⟨rfl,_,_,_,d.s⟩
 .intro H;refine fA ?_;refine gR (t:=26) O fx fx ?_;refine fA ?_;refine fI fx fx (sy ai _ _ J t (Q.ext X) (Em F).1) ?_;rintro r C ⟨rfl,N⟩;rw[F];have U:=X.t N;refine fA ?_;refine gR (t:=26) (O.ext N) fx fx ?_;refine fA ?_;refine fI fx fx (J6 C B g m vf ve vn D E fO J S t (h.ext U) aq (Q.ext U) ah F hc) ?_;rintro r R ⟨IZ,aH,aK,aE,rfl,u,ar,aP,ay⟩;have n:=(iY.ext h U).t u
  have ak:RV C g ve vn λk=>k=w.heap.size:=λk hk=>by
   subst hk;exact⟨(O.ext N).lt,Z⟩
  have al:=ak.go u;have ad:=(O.ext N).fr u.f Z;unfold mF at G
  by_cases I:(lQ t (t.es.length-1) m S []).1=0
  case neg=>
   rw[if_pos I]at G;subst G;refine fA ?_;exact fB fx fx ⟨rfl,_,_,_,n⟩
  rw[if_neg (λh=>h I)]at G;obtain⟨au,ax,aM⟩:=ay I;have ap:Fr (B<=·) w R:=n.f.mono λ_ _ M=>(oF h M).1
  have aB:=Q.uZ ap fM;refine fA ?_;refine gR (t:=26) ad fx fx ?_;refine fA ?_;refine fI fx fx (NJ R D E IZ J t _ aB au.rw ax F) ?_;rintro r aL ⟨v,rfl,V,Y⟩;have av:=n.t (iY.ext n.o Y);have ae:=ad.ext Y;refine fA ?_;refine hI ?_;refine iw (H ⟨0,(lQ t (t.es.length-1) m S []).2.1,(lQ t (t.es.length-1) m S []).2.2.1,aH,aK,aE,v,0,R.heap.size,_⟩ aL ⟨⟨av,ar,fM,ae,V,λk hk=>?_,iF _,G.symm⟩,E4 F _⟩) (sub ⟨rfl,rfl,rfl,rfl⟩);rcases hk with rfl|hk
  .exact⟨ae.lt,(al _ fx).2⟩
  .exact⟨(V.gO hk).2,λaw=>by have:=(oF n.o aw).2;have:=(V.gO hk).1;omega⟩
end
theorem wA (t:fZ):∀(f:Nat) (q:Option fL) (bad:Int),bad=0\/bad=7->jW t f q bad=0\/jW t f q bad=7\/jW t f q bad=9
 |0,_,bad,h=>by rw[jW];omega
 |_+1,none,bad,h=>by rw[jW];omega
 | f+1,some q,bad,h=>by
  rw[jW];split
  .split
   .exact wA t f _ bad h
   omega
  .exact wA t f _ 7 (.inr fx)
theorem CC (hm:kf m) (f:gX p=true) (d:fK S.es p=none):pO m S p=7\/pO m S p=9:=by
 grind [pO, kf.uw, hD, jf, wA, List.length, iI]
theorem Df {t S:fZ} (d:gM t=true) {th:ip fL}:∀(j:Nat),j<t.es.length->∀{m:hA},kf m->(∀i,1<=i->i<=j->fK S.es (ha t i).path=none)->lQ t j m S th=(0,pZ m j,S,th)
 |0,_,m,_,_=>by rw[lQ,zP]
 |j+1,n,m,hm,h=>by
  have u:gX (ha t (j+1)).path=true:=(hv d).f.g.path _ (by simp_all [jT,hU,j9]);rw[lQ,if_pos (by grind [CC]),hm.uw];have e:(pZ m 1)=sb m:=rfl;show lQ t j (sb m) S th=_
  rw[Df d j fy hm.sb fM,<-e,oX,Qt]
theorem Qk (t:fZ):qU t []=λ_=>false:=by grind [qU]
def Ak (U t:fZ):Prop:=∀e∈t.es,e.path≠[]->fK U.es e.path=none
def Ak.at_ (h:Ak U t) (d:gM t=true) (h1:1<=i) (hi:i<t.es.length):fK U.es (ha t i).path=none:=by
 have he:=j9 hi;rw[hU he];refine h _ fM λh0=>?_
 obtain⟨r,g,m,_⟩:=rq d;have:=(jQ (hv d).f g he (m.trans h0.symm)).1;omega
def NQ (d:gM t=true) (hm:kf m) (f:Ak U t):mF m U t=runM t (pD t λ_=>false) (pZ m (t.es.length-1)) U:=by
 have h1:=yt d;unfold mF;rw[Df d _ fy hm λi h1 g=>f.at_ d h1 fy]
 grind [Qk]
def Nl (d:gM t=true) (g:kY U) (hm:kf m) (hlen:U.es.length+t.es.length<=100) (f:Ak U t):Out U t (pZ m (t.es.length-1)) (pD t λ_=>false).length (tm U t (λ_=>false) λ_=>True) (mF m U t):=by
 rw[NQ d hm f];exact IK d fM hlen (hm.pZ _) (DR d g fM λe he h0 _=>f e he h0)
def Sc {l:ip Nd} {x:Nd} (h:x.data=(l.getD i default).data):gf (l.set i x)=gf l:=by
 grind [List.length, pV, List.set_eq_of_length_le]
theorem Oq (t:fZ) (p:fL) (c:Int):gf (j8 t p c).ns=gf t.ns:=by
 unfold j8 rM;dsimp only;cases iI p with
 |none=>rfl
 |some q=>
  dsimp only;cases fK t.es q with
  |none=>rfl
  |some k=>exact Sc rfl
def Hp (f:gM t=true) (g:kY U) (hm:kf m) (hlen:U.es.length+t.es.length<=100) (n:Ak U t) (hq:((gf U.ns+gf t.ns:Nat):Int)<=m.mL):
  (mF m U t).1=0/\(mF m U t).2.1=pZ m ((t.es.length-1)+((t.es.length-1)+tw t.ns+5*t.ns.length))/\tm U t (λ_=>false) (λ_=>True) (mF m U t).2.2/\gf (mF m U t).2.2.ns=gf U.ns+gf t.ns:=by
 rcases Nl f g hm hlen n with⟨_,d⟩|⟨h1,d,h3⟩
 .have:m.mL<((gf U.ns+gf t.ns:Nat):Int):=d;omega
 .refine⟨h1,by grind [oX, Ii],h3,?_⟩;have u:=h3.a.to
  grind [rr, List.length, List.take_length, Ft]
def I9 (d:gM t=true):Ak jY t:=λe _ h0=>by
 show(if([]:fL)=e.path then some (0:Int)else fK [] e.path)=none
 rw[if_neg (λh=>h0 h.symm)];rfl
theorem xD:∀p z,fK jY.es p=some z->p=[]:=λp z h=>by
 have h:(if([]:fL)=p then some (0:Int)else fK [] p)=some z:=h
 by_cases d:([]:fL)=p
 .exact d.symm
 .rw[if_neg d]at h;cases h
def Q1 (t:fZ) (p:fL) (c z:Int):fV (j8 t p c).ns z=fV t.ns z:=by
 grind [j8, rM, iI, fK, fV, sv, gA, Int.toNat, default]
theorem DM:∀(l:ip Nd) (i:Nat),gf (l.eraseIdx i)<=gf l
 |[],i=>by simp
 |n::l,0=>by grind [List.eraseIdx_cons_zero, gf]
 |n::l,i+1=>by rw[List.eraseIdx_cons_succ,gf,gf];have:=DM l i;omega
def Ys (h:kY t) (u:fK t.es p=some k):(∀x∈(uF t p k).es,∃e∈t.es,e.path=x.path/\x.path≠p/\fV (uF t p k).ns x.node=fV t.ns e.node)/\gf (uF t p k).ns<=gf t.ns:=by
 obtain⟨d,y,G,B⟩:=gT u;have n:=h.f.g.inr d y;rw[B]at n;have v:∀e,e∈t.es.filter (nB (vZ p))↔e∈t.es/\e.path≠p:=by grind [nB, vZ]
 have w:(qo t p).length=(t.es.filter λe=>decide (e.node=k)).length:=by unfold qo;rw[u];dsimp only;rw[jv]
 have F:d∈t.es.filter λe=>decide (e.node=k):=fM
 unfold uF;rw[w];split
 .rename_i h1;obtain⟨z,I⟩:=CZ.1 h1
  have D:∀e∈t.es.filter (nB (vZ p)),e.node≠k:=λe he H=>by
   obtain⟨m,C⟩:=(v e).1 he;have m1:e∈t.es.filter λe=>decide (e.node=k):=fM
   grind
  refine⟨λx E=>?_,DM _ _⟩;obtain⟨e,he,rfl⟩:=lp.1 E;obtain⟨m,C⟩:=(v e).1 he;refine⟨e,m,(lT k e).symm,by grind [lT],?_⟩;have:=DT (ns:=t.ns) n.1 (h.f.g.inr e m).1 (D e he)
  grind [fV]
 grind
def OP (h:ym S) (u:fK S.es p=some k) (hk:fV S.ns k≠1):lV S p=[]:=by
 cases hc:lV S p with
 |nil=>rfl
 |cons x r=>
  obtain⟨e,he,h1,_⟩:=Vm (t:=S) (p:=p) (k:=x) fM;obtain⟨d,m,f,_,h3⟩:=Kq h he (Pq h1).1;rw[h1]at f;have n:=iH h.g.nd m
  grind
theorem CM (hm:kf m) (d:kY S) (g:fK S.es p=some k) (n:p≠[]) (hk:fV S.ns k≠1):pJ m S p=0:=by
 simp_all [pJ,kf.uw,hZ,kY.f,OP]
def UN (hm:kf m) (d:kY S) (g:fK S.es p=some k) (u:p≠[]) (hk:fV S.ns k≠1):kY (nM m S p)/\(∀x∈(nM m S p).es,∃e∈S.es,e.path=x.path/\x.path≠p/\fV (nM m S p).ns x.node=fV S.ns e.node)/\gf (nM m S p).ns<=gf S.ns/\(nM m S p).es.map (·.path)=(S.es.map (·.path)).filter λq=>decide (q≠p):=by
 refine⟨AI d (by rw[hm.uw];exact hm.sb.c),?_⟩;obtain⟨h1,t⟩:=Ys d g;unfold nM;rw[if_pos (by grind [CM]),(hZ d.f g).1];refine⟨λx n=>?_,by grind [Oq],OC _ _ _ _⟩;rw[Q1];exact h1 x n
structure Cln (S t:fZ) (j:Nat) (th:List fL):Prop where
 g:kY S
 p:∀e∈S.es,∃x∈t.es,x.path=e.path/\(fV S.ns e.node=1↔fV t.ns x.node=1)
 o:∀i,j<i->i<t.es.length->fV t.ns (ha t i).node≠1->fK S.es (ha t i).path=none
 d:∀i,j<i->i<t.es.length->fV t.ns (ha t i).node=1->fK S.es (ha t i).path≠none->(ha t i).path∈th
 h:∀p∈th,∃z,fK S.es p=some z/\fV S.ns z=1
theorem Ef {t:fZ} (L:gM t=true):∀j,j<t.es.length->∀{m:hA} {S:fZ} {th:ip fL},kf m->Cln S t j th->∃c u D,c<=2*j/\lQ t j m S th=(0,pZ m c,u,D)/\Cln u t 0 D/\gf u.ns<=gf S.ns/\u.es.length<=S.es.length
 |0,_,m,S,th,_,h=>⟨0,S,th,gJ _,by rw[lQ,zP],h,gJ _,gJ _⟩
 | j +1,ai,m,S,th,hm,h=>by
  have T:=(hv L).f;have W:=j9 ai;have O:=hU W;obtain⟨e,he⟩:∃e,t.es[j+1]? =some e:=⟨_,W⟩;have O:ha t (j+1)=e:=hU he;have V:=jT he;have an:gX e.path=true:=T.g.path e V;have X:e.path≠[]:=by grind [rq, jQ]
  have next:∀{i:Nat},j<i->i≠j+1->j+1<i:=λh1 n=>fy
  cases M:fK S.es e.path with
  | none=>
   have G:Cln S t j th:=⟨h.g,h.p,λi h1 n h3=>by
    by_cases hi:i=j+1
    .grind
    .exact h.o i (next h1 hi) n h3,λi h1 n h3 F=>by
    by_cases hi:i=j+1
    .grind
    .exact h.d i (next h1 hi) n h3 F,h.h⟩
   obtain⟨c,u,D,h1,n,h3⟩:=Ef L j fy hm.sb G
   grind [lQ, CC, kf.uw, sb, EP, oX]
  | some k=>
   obtain⟨d,ae,ag,af⟩:=gT M;obtain⟨x,ak,al,ab⟩:=h.p d ae;obtain rfl:x=e:=mX T.g.nd ak V (al.trans ag);rw[af]at ab;have Q:=hZ h.g.f M;have K:pO m S x.path=0:=by unfold pO;rw[hm.uw,if_pos rfl,Q.1]
   by_cases H:fV S.ns k=1
   .have G:Cln S t j (th++[x.path]):=⟨h.g,h.p,λi h1 n h3=>by
     by_cases hi:i=j+1
     .grind
     .exact h.o i (next h1 hi) n h3,λi h1 n h3 F=>by
     by_cases hi:i=j+1
     .grind
     .exact wB _ (h.d i (next h1 hi) n h3 F),λp C=>by
     rcases iS.1 C with C|C
     .exact h.h p C
     grind⟩
    obtain⟨c,u,D,h1,n,h3⟩:=Ef L j fy hm.sb G;refine⟨1+c,u,D,fy,?_,h3⟩;rw[lQ,O,if_neg (by rw[K];decide),if_neg (λB=>B K),Q.1,if_pos (show(nodeAt S k).kind=1 from H),if_neg (λB=>B (ab.1 H)),hm.uw]
    grind [lQ, sb, EP, oX]
   .obtain⟨g1,g2,g3,g4⟩:=UN hm.sb h.g M X H;obtain⟨E,U⟩:∃E,E=nM (sb m) S x.path:=⟨_,rfl⟩;rw[<-U]at g1 g2 g3 g4
    have Y:∀p,fK S.es p=none->fK E.es p=none:=λp C=>zr λy I hyp=>by
     obtain⟨z,J,ad,_⟩:=g2 y I;have:=iH h.g.f.g.nd J
     grind
    have G:Cln E t j th:=⟨g1,λy I=>by
     obtain⟨z,J,ad,_,au⟩:=g2 y I;obtain⟨w,hw,aa,ap⟩:=h.p z J
     grind,λi h1 n h3=>by
     by_cases hi:i=j+1
     .grind [zr]
     .exact Y _ (h.o i (next h1 hi) n h3),λi h1 n h3 F=>by
     by_cases hi:i=j+1
     .grind
     .exact h.d i (next h1 hi) n h3 λR=>F (Y _ R),λp C=>by
     obtain⟨z,J,ad⟩:=h.h p C;obtain⟨y,I,hyp,ar⟩:=gT J;have ao:p≠x.path:=fM
     have aj:p∈E.es.map (·.path):=by
      rw[g4,DW];exact fM
     obtain⟨v,Z,N⟩:=lp.1 aj;obtain⟨w,hw,aa,_,aq⟩:=g2 v Z;have N:v.path=p:=N;obtain rfl:w=y:=mX h.g.f.g.nd hw I (by rw[aa,N,hyp]);refine⟨v.node,by rw[<-N];exact iH g1.f.g.nd Z,?_⟩
     grind⟩
    obtain⟨c,u,D,h1,n,h3,F,R⟩:=Ef L j fy hm.sb.sb G
    have am:E.es.length<=S.es.length:=by
     have:=congrArg List.length g4;rw[jv]at this;rw[this];exact fM
    refine⟨1+(1+c),u,D,fy,?_,h3,fy,by omega⟩;have ah:pJ (sb m) S x.path=0:=CM hm.sb h.g M X H;rw[lQ,O,if_neg (by rw[K];decide),if_neg (λB=>B K),Q.1,if_neg (show ¬(nodeAt S k).kind=1 from H),hm.uw];dsimp only;rw[if_neg (λB=>B ah),hm.sb.uw,<-U]
    grind [EP, oX]
def G7 (n:gM t=true) (hm:kf m) (G:kY S) (y:∀e∈S.es,∃x∈t.es,x.path=e.path/\(fV S.ns e.node=1↔fV t.ns x.node=1)) (O:S.es.length+t.es.length<=100) (hq:((gf S.ns+gf t.ns:Nat):Int)<=m.mL):
  (mF m S t).1=0/\(∃c:Nat,(mF m S t).2.1=pZ m c/\c<=12000)/\kY (mF m S t).2.2/\hQ (mF m S t).2.2=some t:=by
 have h1:=yt n;have C:=(hv n).f;have K:=C.g.len;obtain⟨c,u,th,c1,c2,c3,c4,c5⟩:=Ef n (t.es.length-1) fy hm (S:=S) (th:=[]) ⟨G,y,λi h1 w=>fy,λi h1 w=>fy,λp y=>by cases y⟩
 have M:∀e∈t.es,vM t e.path=decide (fV t.ns e.node=1):=λe he=>by
  unfold vM;rw[nk C he];rfl
 have B:∀e∈t.es,qU t th e.path=true->e.path∈th/\fV t.ns e.node=1:=by grind [qU]
 have F:By u t (qU t th) 1 1 0 u:=DR n c3.g (λe he h=>by
  obtain⟨w,h3⟩:=B e he h
  exact⟨h3,c3.h _ w⟩) λe he h0 L=>by
   obtain⟨i,hi⟩:=tq he;have E:=(jR.1 hi).1;have D:0<i:=by grind [Nat.pos_of_ne_zero, rq, Option.some.inj]
   have v:ha t i=e:=hU hi
   by_cases hk:fV t.ns e.node=1
   .cases H:fK u.es e.path with
    |none=>rfl
    |some z=>
     have:=c3.d i D E (by rw[v];exact hk) (by rw[v,H];simp)
     grind [qU, decide_eq_true]
   .have:=c3.o i D E (by rw[v];exact hk);rwa[v]at this
 have I:mF m S t=runM t (pD t (qU t th)) (pZ m c) u:=by
  unfold mF;rw[c2];dsimp only;rw[if_neg (λh=>h rfl)]
 rw[I];rcases IK n (λe he h=>(B e he h).2) fy (hm.pZ c) F with⟨_,r2⟩|⟨r1,r2,r3⟩
 .have r2:m.mL<((gf u.ns+gf t.ns:Nat):Int):=r2;omega
 .refine⟨r1,by grind [pD, qU, oX, E4],r3.a.g,Hj n r3 λp z J=>?_⟩;obtain⟨e,he,N,_⟩:=gT J;obtain⟨x,Q,R,_⟩:=c3.p e he
  grind
def Re (n:gM t=true) (hm:kf m) (H:t.es.length<=90) (hq:(gf t.ns:Int)<=m.mL):
  (mF m jY t).1=0/\(mF m jY t).2.1=pZ m ((t.es.length-1)+((t.es.length-1)+tw t.ns+5*t.ns.length))/\kY (mF m jY t).2.2/\hQ (mF m jY t).2.2=some t/\gf (mF m jY t).2.2.ns=gf t.ns/\(mF m jY t).2.2.es.length=t.es.length/\
  ∀e∈(mF m jY t).2.2.es,∃x∈t.es,x.path=e.path/\(fV (mF m jY t).2.2.ns e.node=1↔fV t.ns x.node=1):=by
 have D:((gf jY.ns+gf t.ns:Nat):Int)<=m.mL:=by rw[rA,iM];exact hq
 have C:=(hv n).f;obtain⟨h1,y,h3,F⟩:=Hp n (hv sU) hm (by show 1+t.es.length<=100;omega) (I9 n) D
 have E:∃e∈t.es,e.path=[]:=by
  obtain⟨e,he,d,_⟩:=C.g.root;exact⟨e,he,d⟩
 refine⟨h1,y,h3.a.g,by grind [Hj, xD],by grind [rA],?_,λe he=>?_⟩
 .have:=h3.a.le λ_ _=>rfl
  grind [List.length, jY]
 .have u:=iH h3.a.g.f.g.nd he
  have:∃x∈t.es,x.path=e.path:=by
   refine I8 λI=>?_
   have d:=(h3.a.ol e.path fM).1;rw[u]at d;have G:=xD _ _ d.symm;obtain⟨r,J,K⟩:=E;exact fM
  obtain⟨x,v,w⟩:=this;have B:=h3.f x v trivial e.node (by rw[w];exact u);refine⟨x,v,w,?_⟩;have:fV (mF m jY t).2.2.ns e.node=fV t.ns x.node:=congrArg Nd.kind B;rw[this]
def PQ (d:gM t=true):(t.es.length-1)+((t.es.length-1)+tw t.ns+5*t.ns.length)<=12000:=by
 have h1:=Ii d;have m:=E4 d λ_=>false
 have h3:=(hv d).f.g.len;omega
def vJ (h:gM t=true) {x:fL} (n:∃e∈t.es,e.path=x):∃u,tL t [x]=(some u,0)/\gM u=true/\u.es.length<=t.es.length/\∀e∈u.es,∃y∈t.es,y.path=e.path/\fV u.ns e.node=fV t.ns y.node:=by
 have g:=ni h;have B:gX x=true:=by obtain⟨e,he,rfl⟩:=n;exact g.path e he
 have m:=ta (M4 (ic:=[x]) h fM);obtain⟨u,hu⟩:∃u,hQ ⟨t.es.filter (λe=>jK [x] e.path),t.ns⟩=some u:=⟨_,m⟩;have w:∀{q:fL},(∃e∈t.es,e.path=q)->(fK t.es q).isSome=true:=by grind [iH, tA.nd]
 have f:=Ay hu;refine⟨u,?_,f,by rw[zp hu];grind,λe he=>?_⟩
 .grind [tL]
 .have d:=iH (ni f).nd he
  have:∃y∈t.es.filter (λe=>jK [x] e.path),y.path=e.path:=by
   refine I8 λC=>?_
   rw[Hm hu fM]at d;cases d
  obtain⟨y,v,hyp⟩:=this;obtain⟨k,k1,k2⟩:=NU hu v
  grind [Option.some.inj, fV, Int.toNat_natCast]
def Pt {ns:ip Nd} (h:gM u=true) (d:ns.length=u.ns.length) (hk:∀z,fV ns z=fV u.ns z) (f:∀n∈ns,fG n=true):gM ⟨u.es,ns⟩=true:=by
 grind [gM, jo, List.getElem?_eq_getElem, List.getElem_mem, qH, fK, n8]
def TW (h:gM u=true) (d:u.es.length<=26):gf u.ns<=104000:=by
 have h1:=Sz.uj (k:=4000) u.ns (by grind [js, w3])
 grind [zF]
def Ym (z:Int) (n:Nd):Nd:=if n.kind=2 then⟨2,7,0,0,0,[],[],z,[],[],0,0⟩else gA n z
def YG {z:Int} {n:Nd} (h:fG n=true) (d:0<=z/\z<99):fG (Ym z n)=true/\(Ym z n).kind=n.kind:=by
 unfold Ym;split
 .grind [fG, jV, hd, v8, jz, jL, xY, fF, om, kX]
 .exact⟨kK h d.1,rfl⟩
structure TD (u:fZ) (ns:List Nd):Prop where
 l:ns.length=u.ns.length
 k:∀z,fV ns z=fV u.ns z
 n:∀n∈ns,fG n=true
def TD.start (h:gM u=true):TD u u.ns:=⟨rfl,λ_=>rfl,w3 h⟩
def TD.step {ns:ip Nd} {z:Int} {n:Nd} (h:TD u ns) (f:ns[i]? =some n) (g:0<=z/\z<99):TD u (ns.set i (Ym z n)):=by
 obtain⟨hi,t⟩:=jR.1 f;obtain⟨h1,m⟩:=YG (h.n n fM) g;refine⟨by grind [List.length_set, l],λy=>?_,λy d=>?_⟩
 .rw[<-h.k y]
  grind [sv]
 .rcases x3 d with d|d
  .exact h.n y d
  grind
def Sx:Prop:=∀w:i5,EN w->fQ prog 10 #[] w λr w'=>r= .bool true/\Ext w w'
def pM (q:Int):hA:=⟨q,[],0,false⟩
def Qx (q:Int):kf (pM q):=⟨rfl,rfl,Ss 0⟩
def Gs (t:fZ):Fb t t=true:=by unfold Fb;rw[decide_eq_true rfl,decide_eq_true rfl];rfl
def nJ.not (h:nJ w B g m vf ve vn fO t) (d:b<B):¬Ep g ve vn b:=λhk=>by have:=(oF h hk).1;omega
def iY.low {m':hA} {v x:i6} {u:ip gG} {t':fZ} (d:iY w B g vf ve vn fO w' m' t' v x u) (hO:nJ w B g m vf ve vn fO t):Fr (B<=·) w w':=d.f.mono λ_ _ n=>(oF hO n).1
section
def ZB (q:Int):0<=(pM q).calls/\(pM q).calls<=1000000:=by show(0:Int)<=0/\(0:Int)<=1000000;decide
attribute [local irreducible] xs T
end
def QR:Sx:=λw h=>Rn.Oe w (Rn.BO.init h)
