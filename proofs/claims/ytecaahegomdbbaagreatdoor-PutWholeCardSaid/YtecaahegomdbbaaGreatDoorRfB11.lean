/- Parts of the proof. -/
import Derived.Test.YtecaahegomdbbaaGreatDoorRfBk
import Derived.Test.YtecaahegomdbbaaGreatDoorRfB9c
import Derived.Test.YtecaahegomdbbaaGreatDoorRfWy
set_option linter.all false
set_option maxRecDepth 100000
set_option maxHeartbeats 64000000
namespace Go.Proofs.YtecaahegomdbbaaGreatDoor.gp
open Go.Proofs.Tryz
open Go.RowKit
variable {fK:List gG} {B b g i:Nat} {n:Nd} {ve vf vn:Value} {w w':World} {p:fQ} {S U t:fY} {m:gZ} {s:om}
section
def np (t:fY):Nat->gZ->fY->List fQ->Int×gZ×fY×List fQ
 |0,m,S,th=>(0,m,S,th)
 | j+1,m,S,th=>
  if sF m S (gY t (j+1)).path=7∨sF m S (gY t (j+1)).path=9 then np t j (gi m).2.2 S th
  else if sF m S (gY t (j+1)).path≠0 then(sF m S (gY t (j+1)).path,(gi m).2.2,S,th)
  else if(nodeAt S (hC S (gY t (j+1)).path).1).kind=1 then
   (if(nodeAt t (gY t (j+1)).node).kind≠1 then(6,(gi m).2.2,S,th)else np t j (gi m).2.2 S (th++[(gY t (j+1)).path]))
  else if ti (gi m).2.2 S (gY t (j+1)).path≠0 then(ti (gi m).2.2 S (gY t (j+1)).path,(gi (gi m).2.2).2.2,uP (gi m).2.2 S (gY t (j+1)).path,th)
  else np t j (gi (gi m).2.2).2.2 (uP (gi m).2.2 S (gY t (j+1)).path) th
theorem PT (h:ya t) {j:Nat} (hi:i<t.es.length) (d:j<t.es.length) (he:(gY t i).path=(gY t j).path):i=j:=by
 have h1:=kp hi;have a:=kp d;rw[h8 h1,h8 a]at he;exact(jY h h1 a he).1
theorem Lf {t:fY} (h:ya t):∀(j:Nat),j<t.es.length->∀(m:gZ) (S:fY) (th:List fQ),th.Nodup->(∀p∈th,∀i,i<=j->(gY t i).path≠p)->(np t j m S th).2.2.2.Nodup
 |0,_,m,S,th,a,_=>a
 |j+1,f,m,S,th,a,d=>by
  have g:=Lf h j fy
  grind [gY,List.nodup_append,List.mem_singleton,PT,np]
def n9 (m:gZ) (S t:fY):Int×gZ×fY:=
 if(np t (t.es.length-1) m S []).1≠0 then((np t (t.es.length-1) m S []).1,(np t (t.es.length-1) m S []).2.1,(np t (t.es.length-1) m S []).2.2.1)
 else runM t (pO t (xz t (np t (t.es.length-1) m S []).2.2.2)) (np t (t.es.length-1) m S []).2.1 (np t (t.es.length-1) m S []).2.2.1
theorem ZC (m:gZ) (S:fY) (n:Nd) (s:om):(ta m S n s).2.1=(gi m).2.2∨(ta m S n s).2.1=m:=by
 grind [ta,List.length]
theorem VH (m:gZ) (S t:fY) (s:om):(nq m S t s).2.1=(gi m).2.2∨(nq m S t s).2.1=m:=by
 grind [nq,fR,ZC]
theorem Ma (m:gZ) (S t:fY) (s:om):m.calls<=(nq m S t s).2.1.calls/\(nq m S t s).2.1.calls<=m.calls+1:=by
 have h:=pY m
 grind [VH]
theorem TB (n:Nd) (s:om) (h:lU S) (D:0<=(gi m).2.2.calls):lU (ta m S n s).2.2:=by
 have hm:∀{n:Nd} {x:Nd},fH n=true->gT x=true->Ct x n->fH x=true:=λh1 w f=>mY h1 w f
 unfold ta
 by_cases v:s.kind=1∨s.kind=2
 ·grind [Hz]
 rw[if_neg v]
 by_cases f:s.kind=3
 ·grind [List.length,M5]
 rw[if_neg f]
 by_cases y:s.kind=4
 ·grind [RU]
 rw[if_neg y]
 by_cases g:s.kind=6
 ·rw[if_pos g];exact uI h λn a _ d=>⟨hm a d ⟨rfl,rfl,rfl,rfl,rfl,rfl⟩,rfl⟩
 rw[if_neg g]
 by_cases B:s.kind=7
 ·grind [uI,N1]
 rw[if_neg B]
 by_cases C:s.kind=8
 ·grind [uI,Nn]
 rw[if_neg C]
 by_cases t:s.kind=9
 ·rw[if_pos t];exact uI h λn a _ d=>⟨hm a d ⟨rfl,rfl,rfl,rfl,rfl,rfl⟩,rfl⟩
 rw[if_neg t]
 by_cases u:s.kind=10
 ·rw[if_pos u];exact uI h λn a _ d=>⟨hm a d ⟨rfl,rfl,rfl,rfl,rfl,rfl⟩,rfl⟩
 grind
theorem SQ (s:om) (h:lU S) (hc:0<=m.calls):lU (nq m S t s).2.2:=by
 grind [gi,pY,nq,fR,E8,GO,TB]
def Qb (w:World) (g:Nat) (ve vn:Value) (P:Nat->Prop):Prop:=∀b,P b->b<w.heap.size/\¬DG g ve vn b
theorem oq (h:nC w B g m vf ve vn fK t) (a:DG g ve vn b):B<=b/\b<w.heap.size:=h.gH (by
 rcases a with a|a|a
 ·exact .inl a
 ·exact .inr (.inr (.inl a))
 ·exact .inr (.inr (.inr (.inl a))))
theorem MC {C:Nat} {v:Value} {l:List fQ} (h:nC w B g m vf ve vn fK t) (u:Ow qK 1 w C 9 v l) (s:b=g∨vf.ownBlock=some b∨II ve vn fK b):¬v.ownBlock=some b:=λe=>by
 obtain⟨D,hm⟩:=u.x3 e;rcases s with rfl|s|s|s|⟨x,y,s|s|s⟩
 ·exact hm.Br h.i.k fV fx
 ·exact u.apart h.f fV e s
 ·exact u.apart h.o.e fV e s
 ·exact u.apart h.o.n fV e s
 ·exact u.apart (h.o.i x y).a fV e s
 ·exact u.apart (h.o.i x y).c fV e s
 ·exact u.apart (h.o.i x y).d fV e s
theorem Qb.go {m':gZ} {m n:Value} {s:List gG} {t':fY} {P:Nat->Prop} (h:Qb w g ve vn P) (d:iS w B g vf ve vn fK w' m' t' m n s):Qb w' g m n P:=λb a=>⟨uY (h b a).1 d.f.size,λhk=>(d.k b hk).elim (h b a).2 (by have:=(h b a).1;omega)⟩
theorem Qb.ext {P:Nat->Prop} (h:Qb w g ve vn P) (d:Ext w w'):Qb w' g ve vn P:=λb a=>⟨uY (h b a).1 d.size,(h b a).2⟩
structure CnI (w0 w:World) (B g:Nat) (vf ve0 vn0 vet vnt:Value) (Jm:List gG) (t:fY) (R:Int×gZ×fY×List fQ) (c0:Int) (j:Nat) (m:gZ) (S:fY) (th:List fQ) (ve vn H5:Value) (fK:List gG) (w':World):Prop where
 s:iS w0 B g vf ve0 vn0 Jm w' m S ve vn fK
 gg:lU S
 c:0<=m.calls/\m.calls+2*(j:Int)<=c0
 b:fU w' w.heap.size 26 #[vet,vnt]
 a:Qb w' g ve vn λk=>k=w.heap.size∨H5.ownBlock=some k
 ot:Ow qK 1 w' w0.heap.size 9 H5 th
 ll:th.length+j<=100
 jl:j<t.es.length
 r:np t j m S th=R
structure CnS where
 j:Nat
 m:gZ
 S:fY
 th:List fQ
 ve:Value
 vn:Value
 H5:Value
 fK:List gG
def CnR (w:World) (B g:Nat) (vf ve vn:Value) (fK:List gG) (y:Int×gZ×fY×List fQ) (r:Value) (w':World):Prop:=∃H5 a d f,r= .tuple #[H5,.int .i64 y.1]/\iS w B g vf ve vn fK w' y.2.1 y.2.2.1 a d f/\lU y.2.2.1/\(0<=y.2.1.calls/\y.2.1.calls<=2000000)/\(y.1=0->Ow qK 1 w' w.heap.size 9 H5 y.2.2.2/\y.2.2.2.Nodup/\Qb w' g a d λk=>H5.ownBlock=some k)
attribute [local irreducible] xs T
theorem Jj (w:World) (B g:Nat) (m:gZ) (vf ve vn aw ax:Value) (fK K:List gG) (S t:fY) (h:nC w B g m vf ve vn fK S) (a7:lU S) (V:nj w aw ax K t) (aQ:∀b,RW aw ax K t b->b<B) (aE:gQ t=true) (hc:0<=m.calls/\m.calls<=1000000):
  fL prog 30 #[.pointer (some ⟨g,0,none⟩),.agg #[aw,ax]] w (CnR w B g vf ve vn fK (np t (t.es.length-1) m S [])):=by
 refine gK func30 fx fF ?_;have aB:=(hy aE).f;have bz:=aB.g.len;have h1:=DF aE;have bs:=V;have hlen:=V.len;have bC:B<=w.heap.size:=by have:=h.b;have:=h.i.k.lt;omega
 have aN:(np t (t.es.length-1) m S []).2.2.2.Nodup:=by grind [Lf,List.nodup_nil]
 obtain⟨A,c,rfl,bH,bJ,aS⟩:=V.e.op gj;obtain⟨W,N,rfl,bI,bK,aT⟩:=V.n.op gI;generalize a9:np t (t.es.length-1) m S []=X at aN;refine fA ?_;refine hD fx (λay aW a1 bP=>?_);have aI:fU ay w.heap.size 26 #[.slice A t.es.length c,.slice W K.length N]:=aW;refine fA ?_
 refine h9 (α:=CnS) 0 fx (λx=>[(0,.pointer (some ⟨g,0,none⟩)),(3,.pointer (some ⟨w.heap.size,0,none⟩)),(6,x.H5),(7,.int .i64 ((x.j+1:Nat):Int))])
  (λx w'=>CnI w w B g vf ve vn (.slice A t.es.length c) (.slice W K.length N) fK t X 1200000 x.j x.m x.S x.th x.ve x.vn x.H5 x.fK w') (λx=>x.j) ?_ ?_
 ·rintro⟨j,m1,D,th,E,F,H5,I⟩ L d;dsimp only at d⊢;have ao:=d.s.o;have aC:Fr (B<=·) w L:=d.s.f.mono λ_ _ C=>(oq h C).1
  have bT:=bs.A4 aC fS;have br:=d.ot.form;obtain⟨At,ct,rfl,_,_⟩:=br;have Z:((j+1:Nat):Int)-1=(j:Int):=fy;have bU:=d.s.f.size;rcases xE j with rfl|h0
  ·have v:X=(0,m1,D,th):=d.r.symm;subst v;have aK:=d.c;refine fA ?_;exact ia fx fx fx ⟨_,_,_,_,rfl,d.s,d.gg,by dsimp only;omega,λ_=>⟨d.ot,aN,λb C=>d.a b (.inr C)⟩⟩
  ·obtain⟨j,rfl⟩:∃i,j=i+1:=⟨j-1,fy⟩;have aM:=d.jl;obtain⟨b,o,e,rfl,C,he,_,bf⟩:=aS.at_ aM;have bc:b<B:=aQ b (.inl ⟨fy,rfl⟩);have bl:gY t (j+1)=e:=h8 he;have v:=d.r;rw[np,bl]at v;have m0:L.cell? ⟨w.heap.size,0,none⟩=some (.slice (some ⟨b,o,none⟩) t.es.length c):=d.b.cell 0;have aK:=d.c;have bF:=pY m1;have bG:=pY (gi m1).2.2
   repeat' (first|refine gF (j+1) (o+(j+1)*2) rfl rfl rfl Z rfl aM ?_|refine fT ?_|fail)
   refine hL (cs:=hI e) fx fF (λi u hu=>aC.cell (bf i u hu) (KV.2 bc)) ?_;refine gy (z:= .agg #[.string ⟨#[]⟩,.int .i64 0]) fF (λbY aX a2 bQ=>?_);refine hd aX fx fx fF fx (fJ (l:=hI e) fx) (λai aA a5=>?_);have O:Ext L ai:=a2.trans a5 fS;have z4:=O.size;have ap:=ao.ext O;have am:=d.a.ext O;have q0:ai.cell? ⟨L.heap.size,0,none⟩=some (.string (su e.path)):=aA.cell 0;have bo:¬DG g E F L.heap.size:=λhk=>by have:=(oq ao hk).2;omega
   refine fA ?_;refine fI fx fx (Qt ai g m1 vf E F I D e.path ap.i ⟨aK.1,fy⟩) ?_;rintro r T ⟨x,rfl,bu,bv,a8,aD⟩;have bL:=ap.i.k.lt;have U:iS ai B g vf E F I T (gi m1).2.2 D E F I:=iS.put ap aD a8 (iP m1);have aG:=(d.s.t (iS.ext ao O)).t U;have aU:=am.go U;have bb:fU T w.heap.size 26 #[.slice (some ⟨b,o,none⟩) t.es.length c,.slice W K.length N]:=(d.b.ext O).fr U.f (am _ (.inl rfl)).2;have bq:Ow qK 1 T w.heap.size 9 (.slice At th.length ct) th:=(d.ot.ext O).fr U.f λb C=>(am b (.inr C)).2
   have bk:fU T L.heap.size 49 (hI e).toArray:=aA.fr U.f bo;have z5:=aD.size;refine fA ?_;refine gy (z:= .agg tP) fF (λbZ aY a3 bR=>?_);refine hd aY fx fx fF fx (fJ (l:=gz x) (lj.2 (iN bu.in))) (λG aZ a6=>?_);have Q:Ext T G:=a3.trans a6 fS;have J:=aG.t (iS.ext aG.o Q);have aa:=aU.ext Q;have av:=bq.ext Q;have ad:=bb.ext Q;have b0:=Q.size
   have step:∀{aj:World} {m2:gZ} {Y:fY} {ag ah:Value} {af:List gG},iS G B g vf E F I aj m2 Y ag ah af->lU Y->0<=m2.calls/\m2.calls<=m1.calls+2->np t j m2 Y th=X->
     CnI w w B g vf ve vn (.slice (some ⟨b,o,none⟩) t.es.length c) (.slice W K.length N) fK t X 1200000 j m2 Y th ag ah (.slice At th.length ct) af aj:=λM ab be bp=>
    ⟨J.t M,ab,⟨be.1,fy⟩,ad.fr M.f (aa _ (.inl rfl)).2,aa.go M,av.fr M.f λb C=>(aa b (.inr C)).2,by have:=d.ll;omega,fy,bp⟩
   have bn:iS G B g vf E F I G (gi m1).2.2 D E F I:=iS.ext J.o (Fr.refl _ _)
   by_cases al:sF m1 D e.path=7∨sF m1 D e.path=9
   ·rw[if_pos al]at v;have au:=step bn d.gg ⟨fy,by omega⟩ v;rcases al with bA|bB
    all_goals
     refine fA ?_;exact gX fx ⟨_,yD j,rfl,⟨j,(gi m1).2.2,D,th,E,F,_,I⟩,sub ⟨rfl,rfl,rfl,jX Z⟩,au,rfl⟩
   rw[if_neg al]at v
   by_cases ae:sF m1 D e.path=0
   case neg=>
    rw[if_pos ae]at v;subst v;refine fA ?_;exact ia fx fx fx ⟨_,_,_,_,rfl,J,d.gg,by dsimp only;omega,λh=>absurd h ae⟩
   rw[if_neg (λh=>h ae)]at v;rw[if_pos ae]at bv;have bV:G.cell? ⟨T.heap.size,0,none⟩=some (.int .i64 x.n.kind):=aZ.cell 0;have aL:=bk.ext Q;have p0:G.cell? ⟨L.heap.size,0,none⟩=some (.string (su e.path)):=aL.cell 0
   by_cases bN:x.n.kind=1
   ·rw[if_pos fS]at v;obtain⟨n1,bW⟩:=aB.g.inr e fS;obtain⟨k,hk⟩:=lO n1;have sX:k<K.length:=fy;obtain⟨b',o',y,rfl,bE,bw,_,bg⟩:=aT.at_ sX;have bx:nodeAt t e.node=y.n:=by unfold nodeAt;rw[hk];exact V.getD bw
    have bd:b'<B:=aQ b' (.inr (.inl ⟨fy,rfl⟩));have a4:Fr (B<=·) w G:=J.f.mono λ_ _ C=>(oq h C).1
    have p1:G.cell? ⟨L.heap.size,1,none⟩=some (.int .i64 (k:Int)):=by rw[←hk];exact aL.cell 1
    have p2:G.cell? ⟨w.heap.size,1,none⟩=some (.slice (some ⟨b',o',none⟩) K.length N):=ad.cell 1;have bX:G.cell? ⟨b',o'+k*12+0,none⟩=some (.int .i64 y.n.kind):=a4.cell (bg 0 _ rfl) (KV.2 bd);rw[bx]at v
    by_cases aR:y.n.kind=1
    case neg=>
     rw[if_pos aR]at v;subst v;refine Uw ?_;exact ia fx fx fx ⟨_,_,_,_,rfl,J,d.gg,by dsimp only;omega,λh=>by cases h⟩
    rw[if_neg (λh=>h aR)]at v;refine Uw ?_;refine Ia kF fx fx fV fV (λu hu=>by rw[kl.1 hu];rfl) (λaj a0 R bS=>?_);refine jI (news:=qK e.path) kF fx fV fx (gD.ext av R) fx (gS a0 fV fx) fx (λu hu=>by rw[kl.1 hu];rfl) (by have:=d.ll;grind [maxLen]) (by have:=d.ll;omega) fy (λv9 ak bD an bt=>?_);have aP:Ow qK 1 ak w.heap.size 9 v9 (th++[e.path]):=by grind [Ow.ext1]
    have aH:=iS.ext J.o R;have aF:=aH.o;have az:=aa.ext R;have aO:=av.ext R;have aq:=J.t aH;have ba:iS w B g vf ve vn fK ak (gi m1).2.2 D E F I:=⟨aF.fr an (by grind [MC]),aq.f.trans an λj bM hs=>absurd (aO.gH hs).1 fy,aq.k,aq.n⟩
    have aJ:fU ak w.heap.size 26 #[.slice (some ⟨b,o,none⟩) t.es.length c,.slice (some ⟨b',o',none⟩) K.length N]:=(ad.ext R).fr an λhs=>by
     obtain⟨cs,bh⟩:=aO.x3 hs;exact bh.Br (ad.ext R) fV fx
    have bO:=d.ll
    have aV:Qb ak g E F λk=>k=w.heap.size∨v9.ownBlock=some k:=λk hk=>by
     rcases hk with rfl|hk
     ·exact⟨aJ.lt,(az _ (.inl fx)).2⟩
     ·refine⟨(aP.gH hk).2,?_⟩;rcases bt with e|e
      ·exact(az k fS).2
      ·rw[e]at hk;obtain rfl:=jk hk;exact λbm=>Nat.lt_irrefl _ (oq aF bm).2
    refine fA ?_;exact gX fx ⟨_,yD j,rfl,⟨j,(gi m1).2.2,D,th++[e.path],E,F,v9,I⟩,sub ⟨rfl,rfl,rfl,jX Z⟩,⟨ba,d.gg,fS,aJ,aV,aP,by grind,by dsimp only;omega,v⟩,rfl⟩
   ·rw[if_neg fS]at v;obtain⟨e0,bi,bj,_⟩:=d.gg.f.g.root;refine fA ?_;refine fI fx fx (B3 G B g (gi m1).2.2 vf E F I D e.path J.o fy ⟨e0,bi,bj⟩) ?_;rintro r aj ⟨rfl,ag,ah,af,M⟩;have ab:lU (uP (gi m1).2.2 D e.path):=GO d.gg fy
    by_cases ar:ti (gi m1).2.2 D e.path=0
    case neg=>
     rw[if_pos ar]at v;subst v;refine fA ?_;exact ia fx fx fx ⟨_,_,_,_,rfl,J.t M,ab,by dsimp only;omega,λh=>absurd h ar⟩
    rw[if_neg (λh=>h ar)]at v;have au:=step M ab ⟨fy,by omega⟩ v;refine fA ?_;exact gX fx ⟨_,yD j,rfl,⟨j,_,_,th,ag,ah,_,af⟩,sub ⟨rfl,rfl,rfl,jX Z⟩,au,rfl⟩
 ·intro H;have m0:ay.cell? ⟨w.heap.size,0,none⟩=some (.slice A t.es.length c):=aI.cell 0;refine fA ?_;refine hv ?_;refine ic (H ⟨t.es.length-1,m,S,[],ve,vn,.slice none 0 0,fK⟩ ay ⟨iS.ext h a1,a7,fS,aI,λb C=>?_,Ow.nil _ _ _,by grind,by dsimp only;omega,a9⟩) (sub ⟨rfl,rfl,rfl,jX (by dsimp only;omega)⟩);rcases C with rfl|C
  ·grind [fU.lt,oq]
  ·cases C
end
section
theorem Kn (a:gQ t=true) (D:fQ->Bool):(pO t D).length<=10000:=by
 have d:=(hy a).f.g.len
 grind [zU,List.length,ug,vV,pO,List.length_append]
structure TlI (w0:World) (bT bS:Nat) (B g:Nat) (vf ve0 vn0 vet vnt v:Value) (Jm:List gG) (t:fY) (L:List om) (R:Int×gZ×fY) (i:Nat) (m:gZ) (S:fY) (ve vn:Value) (fK:List gG) (w':World):Prop where
 s:iS w0 B g vf ve0 vn0 Jm w' m S ve vn fK
 gg:lU S
 c:0<=m.calls/\m.calls<=2000000+(i:Int)
 b:fU w' bT 26 #[vet,vnt]
 ot:Ow mV 4 w' bS 83 v L
 a:Qb w' g ve vn λk=>k=bT∨v.ownBlock=some k
 il:i<=L.length
 r:runM t (L.drop i) m S=R
structure TlS where
 i:Nat
 m:gZ
 S:fY
 ve:Value
 vn:Value
 fK:List gG
 v:Value
 c:Nat
 bS:Nat
 L:List om
theorem NV {L:List om} (hs:L[i]? =some s):runM t (L.drop i) m S=if(nq m S t s).1≠0 then nq m S t s else runM t (L.drop (i+1)) (nq m S t s).2.1 (nq m S t s).2.2:=by
 grind [List.getElem?_eq_some_iff,List.drop_eq_getElem_cons,runM]
attribute [local irreducible] xs T
theorem tv (w:World) (B g:Nat) (m:gZ) (vf ve vn D E:Value) (fK J:List gG) (S t:fY) (h:nC w B g m vf ve vn fK S) (aq:lU S) (az:nj w D E J t) (ah:∀b,RW D E J t b->b<B) (F:gQ t=true) (hc:0<=m.calls/\m.calls<=1000000):
  fL prog 9 #[.pointer (some ⟨g,0,none⟩),.agg #[D,E]] w (Ls w B g vf ve vn fK (n9 m S t)):=by
 refine gK func9 fx fF ?_;have Q:=az;obtain⟨T,G⟩:∃T,T=n9 m S t:=⟨_,rfl⟩;rw[←G];refine fA ?_;refine hD fx (λai am X aT=>?_);have O:fU ai w.heap.size 26 #[D,E]:=am;have Z:¬DG g ve vn w.heap.size:=λhk=>Nat.lt_irrefl _ (oq h hk).2
 refine fA ?_
 refine h9 (α:=TlS) 0 fx (λx=>[(0,.pointer (some ⟨g,0,none⟩)),(3,.pointer (some ⟨w.heap.size,0,none⟩)),(7,x.v),(8,.int .i64 (x.i:Int))])
  (λx w'=>TlI w w.heap.size x.bS B g vf ve vn D E x.v fK t x.L T x.i x.m x.S x.ve x.vn x.fK w'/\x.L.length<=10000) (λx=>x.L.length-x.i) ?_ ?_
 ·rintro⟨i,m1,K,aF,aI,aC,v,_,bS,L⟩ C ⟨d,aa⟩;dsimp only at d aa⊢;have ab:=d.s.o;have ao:Fr (B<=·) w C:=d.s.f.mono λ_ _ M=>(oq h M).1
  have aA:=Q.A4 ao fS;have ag:=d.ot;have aS:=d.il;have af:=d.c;have W:=d.a;obtain⟨A,c,rfl,aN,aO,aj⟩:=ag.rw.op O6
  by_cases fW:i<L.length
  ·obtain⟨b,o,s,rfl,_,hs,_,aQ⟩:=aj.at_ fW;have y:=d.r;rw[NV hs]at y;refine fA ?_;refine gM (t:=26) (fU.drew d.b) fx fx ?_
   repeat' (first|refine gF i (o+i*4) rfl rfl rfl rfl rfl fW ?_|refine fT ?_|fail)
   refine hL (cs:=mV s) fx fF mu ?_;refine fI fx fx (RB C.drew B g m1 vf aF aI _ _ aC J K t s (ab.ext (Fr.drew hG C)) d.gg (aA.ext (Fr.drew hG C)) ah F ⟨af.1,fy⟩) ?_;rintro r R an;obtain⟨rfl,aG,aJ,aD,u⟩:=an.of ab (Fr.drew hG C);have n:=d.s.t u;have aR:=Ma m1 K t s
   by_cases I:(nq m1 K t s).1=0
   case neg=>
    rw[if_pos I]at y;subst y;refine fA ?_;exact fB fx fx ⟨rfl,_,_,_,n⟩
   rw[if_neg (λh=>h I)]at y;refine fA ?_;exact gX fx ⟨_,fS,rfl,⟨i+1,(nq m1 K t s).2.1,(nq m1 K t s).2.2,aG,aJ,aD,_,0,bS,L⟩,sub ⟨rfl,rfl,rfl,rfl⟩,⟨⟨n,SQ s d.gg af.1,fS,d.b.fr u.f (W _ (.inl fx)).2,ag.fr u.f λb M=>(W b (.inr M)).2,W.go u,fW,y⟩,aa⟩,rfl⟩
  ·obtain rfl:i=L.length:=fy;have y:=d.r;rw[jJ,runM]at y;subst y;refine fA ?_;exact fB fx fx ⟨rfl,_,_,_,d.s⟩
 ·intro H;refine fA ?_;refine gM (t:=26) O fx fx ?_;refine fA ?_;refine fI fx fx (sg ai _ _ J t (Q.ext X) (JO F).1) ?_;rintro r C ⟨rfl,N⟩;rw[F];have U:=X.t N;refine fA ?_;refine gM (t:=26) (O.ext N) fx fx ?_;refine fA ?_;refine fI fx fx (Jj C B g m vf ve vn D E fK J S t (h.ext U) aq (Q.ext U) ah F hc) ?_;rintro r R ⟨H5,aH,aK,aE,rfl,u,ar,aP,ay⟩;have n:=(iS.ext h U).t u
  have ak:Qb C g ve vn λk=>k=w.heap.size:=λk hk=>by
   subst hk;exact⟨(O.ext N).lt,Z⟩
  have al:=ak.go u;have ad:=(O.ext N).fr u.f Z;unfold n9 at G
  by_cases I:(np t (t.es.length-1) m S []).1=0
  case neg=>
   rw[if_pos I]at G;subst G;refine fA ?_;exact fB fx fx ⟨rfl,_,_,_,n⟩
  rw[if_neg (λh=>h I)]at G;obtain⟨au,ax,aM⟩:=ay I;have ap:Fr (B<=·) w R:=n.f.mono λ_ _ M=>(oq h M).1
  have aB:=Q.A4 ap fS;refine fA ?_;refine gM (t:=26) ad fx fx ?_;refine fA ?_;refine fI fx fx (Nq R D E H5 J t _ aB au.rw ax F) ?_;rintro r aL ⟨v,rfl,V,Y⟩;have av:=n.t (iS.ext n.o Y);have ae:=ad.ext Y;refine fA ?_;refine hv ?_;refine ic (H ⟨0,(np t (t.es.length-1) m S []).2.1,(np t (t.es.length-1) m S []).2.2.1,aH,aK,aE,v,0,R.heap.size,_⟩ aL ⟨⟨av,ar,fS,ae,V,λk hk=>?_,iy _,G.symm⟩,Kn F _⟩) (sub ⟨rfl,rfl,rfl,rfl⟩);rcases hk with rfl|hk
  ·exact⟨ae.lt,(al _ fx).2⟩
  ·exact⟨(V.gH hk).2,λaw=>by have:=(oq n.o aw).2;have:=(V.gH hk).1;omega⟩
end
section
theorem vY (t:fY):∀(f:Nat) (q:Option fQ) (bad:Int),bad=0∨bad=7->jT t f q bad=0∨jT t f q bad=7∨jT t f q bad=9
 |0,_,bad,h=>by rw[jT];omega
 |_+1,none,bad,h=>by rw[jT];omega
 | f+1,some q,bad,h=>by
  rw[jT];split
  ·split
   ·exact vY t f _ bad h
   omega
  ·exact vY t f _ 7 (.inr fx)
theorem Nj (hm:kH m) (d:gU p=true) (a:fR S.es p=none):sF m S p=7∨sF m S p=9:=by
 grind [sF,kH.AY,hC,ja,vY,List.length,iL]
theorem Cp {t S:fY} (a:gQ t=true) {th:List fQ}:∀(j:Nat),j<t.es.length->∀{m:gZ},kH m->(∀i,1<=i->i<=j->fR S.es (gY t i).path=none)->np t j m S th=(0,sf m j,S,th)
 |0,_,m,_,_=>by rw[np,Gg]
 |j+1,d,m,hm,h=>by
  have n:gU (gY t (j+1)).path=true:=(hy a).f.g.path _ (by simp_all [jS,h8,kp]);rw[np,if_pos (by grind [Nj]),hm.AY];have e:(sf m 1)=A0 m:=rfl;show np t j (A0 m) S th=_
  rw[Cp a j fy hm.A0 fS,←e,x1,O7]
theorem Pv (t:fY):xz t []=λ_=>false:=by grind [xz]
def zH (U t:fY):Prop:=∀e∈t.es,e.path≠[]->fR U.es e.path=none
theorem zH.at_ (h:zH U t) (a:gQ t=true) (h1:1<=i) (hi:i<t.es.length):fR U.es (gY t i).path=none:=by
 have he:=kp hi;rw[h8 he];refine h _ fS λh0=>?_
 obtain⟨r,d,g,_⟩:=yB a;have:=(jY (hy a).f d he (g.trans h0.symm)).1;omega
theorem BF (a:gQ t=true) (hm:kH m) (d:zH U t):n9 m U t=runM t (pO t λ_=>false) (sf m (t.es.length-1)) U:=by
 have h1:=DF a;unfold n9;rw[Cp a _ fy hm λi h1 f=>d.at_ a h1 fy]
 grind [Pv]
theorem C6 (a:gQ t=true) (f:lU U) (hm:kH m) (hlen:U.es.length+t.es.length<=100) (d:zH U t):Out U t (sf m (t.es.length-1)) (pO t λ_=>false).length (sK U t (λ_=>false) λ_=>True) (n9 m U t):=by
 rw[BF a hm d];exact Qs a fS hlen (hm.sf _) (Mj a f fS λe he h0 _=>d e he h0)
theorem Hu {l:List Nd} {x:Nd} (h:x.data=(l.getD i default).data):gd (l.set i x)=gd l:=by
 grind [List.length,nS,List.set_eq_of_length_le]
theorem C7 (t:fY) (p:fQ) (c:Int):gd (kT t p c).ns=gd t.ns:=by
 unfold kT tl;dsimp only;cases iL p with
 |none=>rfl
 |some q=>
  dsimp only;cases fR t.es q with
  |none=>rfl
  |some k=>exact Hu rfl
theorem T5 {e:Nd->Int} {d:Nd->Nd} (h:∀n,(d n).data=n.data):gd (nr m S p e d).ns=gd S.ns:=by
 unfold nr;split
 ·exact Hu (h _)
 ·rfl
theorem AQ {f:Nd->Nd×Int} (hq:(gd S.ns:Int)<=m.ji):(gd (kP m S p f).ns:Int)<=m.ji:=by
 grind [kP,jx,hC,List.length,nS,nodeAt,default,List.set_eq_of_length_le]
theorem Td (hm:kH m) (hq:(gd S.ns:Int)<=m.ji):(gd (ta m S n s).2.2.ns:Int)<=m.ji:=by
 have B:(gd S.ns:Int)<=(gi m).2.2.ji:=by rw[hm.AY];exact hq
 have f:(gi m).2.2.ji=m.ji:=by rw[hm.AY];rfl
 have a:∀{e:Nd->Int} {d:Nd->Nd},(∀n,(d n).data=n.data)->(gd (nr m S s.path e d).ns:Int)<=m.ji:=by grind [T5]
 unfold ta
 by_cases g:s.kind=1∨s.kind=2
 ·rw[if_pos g];dsimp only;unfold my;split
  ·unfold pV;rw[C7];dsimp only;rw[oz];exact hq
  ·exact hq
 rw[if_neg g]
 by_cases t:s.kind=3
 ·rw[if_pos t]
  by_cases D:s.n<0∨(n.data.length:Int)<=s.n
  ·grind
  ·rw[if_neg D];dsimp only;unfold oZ;split
   ·exact hq
   ·rw[←f];exact AQ B
 rw[if_neg t]
 by_cases u:s.kind=4
 ·rw[if_pos u];dsimp only;unfold sZ;split
  ·exact hq
  ·rw[←f];exact AQ B
 rw[if_neg u]
 by_cases v:s.kind=6
 ·rw[if_pos v];exact a λ_=>rfl
 rw[if_neg v]
 by_cases w:s.kind=7
 ·rw[if_pos w];exact a λ_=>rfl
 rw[if_neg w]
 by_cases x:s.kind=8
 ·rw[if_pos x];exact a λ_=>rfl
 rw[if_neg x]
 by_cases y:s.kind=9
 ·rw[if_pos y];exact a λ_=>rfl
 rw[if_neg y]
 by_cases C:s.kind=10
 ·rw[if_pos C];exact a λ_=>rfl
 grind
theorem Tz (hm:kH m) (a:s.kind≠11) (hq:(gd S.ns:Int)<=m.ji):(gd (nq m S t s).2.2.ns:Int)<=m.ji:=by
 unfold nq;cases fR t.es s.path with
 |none=>exact hq
 |some k=>
  dsimp only
  by_cases d:s.kind=5
  ·grind [fR,oK,pV,C7]
  simp_all [Td]
theorem Du {t:fY}:∀(l:List om) {m:gZ} {S:fY},kH m->(∀s∈l,s.kind≠11)->(gd S.ns:Int)<=m.ji->(gd (runM t l m S).2.2.ns:Int)<=m.ji
 |[],_,_,_,_,hq=>hq
 | s::l,m,S,hm,h,hq=>by
  have h1:=Tz (t:=t) hm (h s jQ) hq;rw[runM];split
  ·exact h1
  ·rcases VH m S t s with e|e
   ·rw[e,hm.AY];exact Du l hm.A0 fS h1
   ·rw[e];exact Du l hm fS h1
theorem JB (t:fY) (D:fQ->Bool):∀s∈pO t D,s.kind≠11:=by
 have a:∀p,∀s∈ny p,s.kind≠11:=by intro p;unfold ny;simp
 have f:∀d,∀s∈qI t d t.es.length,s.kind≠11:=by grind [qI,NP]
 have g:∀d,∀s∈l8 t d,s.kind≠11:=λd=>by
  induction d<;>grind [l8]
 intro s hs;unfold pO at hs
 grind [nH,nI,n3,Gq,uw,NF]
theorem OX (d:gQ t=true) (u:lU U) (hm:kH m) (hlen:U.es.length+t.es.length<=100) (f:zH U t) (hq:(gd U.ns:Int)<=m.ji) (w:m.ji<((gd U.ns+gd t.ns:Nat):Int)):(n9 m U t).1=10:=by
 rcases C6 d u hm hlen f with⟨h1,_⟩|⟨h1,_,g⟩
 ·exact h1
 ·have n:=g.a.to;have s:qF t t.es.length=t.ns.length:=by unfold qF;rw[km];exact(xO d).2
  rw[s,km]at n
  have v:(gd (n9 m U t).2.2.ns:Int)<=m.ji:=by
   rw[BF d hm f];exact Du (m:=sf m (t.es.length-1)) _ (hm.sf _) (JB t _) hq
  omega
theorem QS (g:gQ t=true) (n:lU U) (hm:kH m) (hlen:U.es.length+t.es.length<=100) (s:zH U t) (hq:((gd U.ns+gd t.ns:Nat):Int)<=m.ji):
  (n9 m U t).1=0/\(n9 m U t).2.1=sf m ((t.es.length-1)+((t.es.length-1)+mq t.ns+5*t.ns.length))/\sK U t (λ_=>false) (λ_=>True) (n9 m U t).2.2/\gd (n9 m U t).2.2.ns=gd U.ns+gd t.ns:=by
 rcases C6 g n hm hlen s with⟨_,d⟩|⟨h1,d,f⟩
 ·have:m.ji<((gd U.ns+gd t.ns:Nat):Int):=d;omega
 ·refine⟨h1,by grind [x1,HO],f,?_⟩;have u:=f.a.to
  grind [qF,List.length,List.take_length,xO]
theorem yH (a:gQ t=true):zH jH t:=λe _ h0=>by
 show(if([]:fQ)=e.path then some (0:Int)else fR [] e.path)=none
 rw[if_neg (λh=>h0 h.symm)];rfl
theorem w2:∀p z,fR jH.es p=some z->p=[]:=λp z h=>by
 have h:(if([]:fQ)=p then some (0:Int)else fR [] p)=some z:=h
 by_cases a:([]:fQ)=p
 ·exact a.symm
 ·rw[if_neg a]at h;cases h
end
section
theorem GR (s:gQ t=true) (hm:kH m) (H:t.es.length<=90) (hq:(gd t.ns:Int)<=m.ji):
  (n9 m jH t).1=0/\(n9 m jH t).2.1=sf m ((t.es.length-1)+((t.es.length-1)+mq t.ns+5*t.ns.length))/\lU (n9 m jH t).2.2/\hN (n9 m jH t).2.2=some t/\gd (n9 m jH t).2.2.ns=gd t.ns/\(n9 m jH t).2.2.es.length=t.es.length/\
  ∀e∈(n9 m jH t).2.2.es,∃x∈t.es,x.path=e.path/\(gf (n9 m jH t).2.2.ns e.node=1↔gf t.ns x.node=1):=by
 have D:((gd jH.ns+gd t.ns:Nat):Int)<=m.ji:=by rw[oT,iC];exact hq
 have C:=(hy s).f;obtain⟨h1,y,d,F⟩:=QS s (hy nU) hm (by show 1+t.es.length<=100;omega) (yH s) D
 have E:∃e∈t.es,e.path=[]:=by
  obtain⟨e,he,n,_⟩:=C.g.root;exact⟨e,he,n⟩
 refine⟨h1,y,d.a.g,by grind [Qu,w2],by grind [oT],?_,λe he=>?_⟩
 ·have:=d.a.le λ_ _=>rfl
  grind [List.length,jH]
 ·have u:=jv d.a.g.f.g.nd he
  have:∃x∈t.es,x.path=e.path:=by
   refine Jh λI=>?_
   have n:=(d.a.ol e.path fS).1;rw[u]at n;have G:=w2 _ _ n.symm;obtain⟨r,J,K⟩:=E;exact fS
  obtain⟨x,v,w⟩:=this;have B:=d.f x v trivial e.node (by rw[w];exact u);refine⟨x,v,w,?_⟩;have:gf (n9 m jH t).2.2.ns e.node=gf t.ns x.node:=congrArg Nd.kind B;rw[this]
theorem WT (a:gQ t=true):(t.es.length-1)+((t.es.length-1)+mq t.ns+5*t.ns.length)<=12000:=by
 have h1:=HO a;have d:=Kn a λ_=>false
 have m:=(hy a).f.g.len;omega
theorem yN (h:gQ t=true) {x:fQ} (m:∃e∈t.es,e.path=x):∃u,UR t [x]=(some u,0)/\gQ u=true/\u.es.length<=t.es.length/\∀e∈u.es,∃y∈t.es,y.path=e.path/\gf u.ns e.node=gf t.ns y.node:=by
 have f:=oh h;have v:gU x=true:=by obtain⟨e,he,rfl⟩:=m;exact f.path e he
 have g:=wA (MF (vb:=[x]) h fS);obtain⟨u,hu⟩:∃u,hN ⟨t.es.filter (λe=>vi [x] e.path),t.ns⟩=some u:=⟨_,g⟩;have s:∀{q:fQ},(∃e∈t.es,e.path=q)->(fR t.es q).isSome=true:=by grind [jv,sT.nd]
 have d:=yA hu;refine⟨u,?_,d,by rw[FV hu];grind,λe he=>?_⟩
 ·grind [UR]
 ·have a:=jv (oh d).nd he
  have:∃y∈t.es.filter (λe=>vi [x] e.path),y.path=e.path:=by
   refine Jh λw=>?_
   rw[E4 hu fS]at a;cases a
  obtain⟨y,n,hyp⟩:=this;obtain⟨k,k1,k2⟩:=MW hu n
  grind [Option.some.inj,gf,Int.toNat_natCast]
def agN (z:Int) (n:Nd):Nd:=if n.kind=2 then⟨2,7,0,0,0,[],[],z,[],[],0,0⟩else h7 n z
theorem W1 {z:Int} (h:fH n=true) (a:0<=z/\z<99):fH (agN z n)=true/\(agN z n).kind=n.kind:=by
 unfold agN;split
 ·grind [fH,jP,gT,uJ,jq,jG,w9,fE,og,kQ]
 ·exact⟨oN h a.1,rfl⟩
structure ZS (u:fY) (ns:List Nd):Prop where
 l:ns.length=u.ns.length
 k:∀z,gf ns z=gf u.ns z
 n:∀n∈ns,fH n=true
theorem ZS.start {u:fY} (h:gQ u=true):ZS u u.ns:=⟨rfl,λ_=>rfl,wo h⟩
theorem ZS.step {u:fY} {ns:List Nd} {z:Int} (h:ZS u ns) (d:ns[i]? =some n) (f:0<=z/\z<99):ZS u (ns.set i (agN z n)):=by
 obtain⟨hi,m⟩:=j0.1 d;obtain⟨h1,g⟩:=W1 (h.n n fS) f;refine⟨by grind [List.length_set,l],λy=>?_,λy a=>?_⟩
 ·rw[←h.k y]
  grind [uH]
 ·rcases AB a with a|a
  ·exact h.n y a
  grind
end
section
def QT:Prop:=∀w:World,Dp w->fL prog 10 #[] w λr w'=>r= .bool true/\Ext w w'
def pM (q:Int):gZ:=⟨q,[],0,false⟩
theorem Rp (q:Int):kH (pM q):=⟨rfl,rfl,Q0 0⟩
theorem QZ {q:Int} (h:0<=q/\q<=1048576):N2 q=0:=by unfold N2;rw[if_neg fy]
theorem FD (t:fY):DA t t=true:=by unfold DA;rw[decide_eq_true rfl,decide_eq_true rfl];rfl
theorem nC.not (h:nC w B g m vf ve vn fK t) (a:b<B):¬DG g ve vn b:=λhk=>by have:=(oq h hk).1;omega
theorem iS.low {m':gZ} {s u:Value} {n:List gG} {t':fY} (a:iS w B g vf ve vn fK w' m' t' s u n) (hO:nC w B g m vf ve vn fK t):Fr (B<=·) w w':=a.f.mono λ_ _ d=>(oq hO d).1
end
section
theorem QE:QT:=λw h=>Rn.MT w (Rn.BB.init h)
end
end Go.Proofs.YtecaahegomdbbaaGreatDoor.gp
