/- Parts of the proof. -/
import Derived.Test.YtecaahegomdbbaaGreatDoorRmWb
set_option linter.all false
set_option maxRecDepth 99999
set_option maxHeartbeats 0
namespace Go.Proofs.YtecaahegomdbbaaGreatDoor.gr
open Go.Proofs.Tryz
open Go.RowKit
section
attribute [local irreducible] xs T
def mA {α:Type} {l:ip α} {i:Nat} {c:α} (hc:l[i]? =some c):l.drop i=c::l.drop (i+1):=by
 have fY:=(jR.1 hc).1;rw[Fq fY];rw[j9 fY]at hc;rw[jb hc]
def zx (w:i5) (l:fL) (v:l.length<=1000000):fQ prog 58 #[.U l] w λr w'=>r= .bool (jU l)/\w=w':=by
 refine gD func58 fx fE ?_;rw[Ij];refine l4 ?_;refine gC (α:=Nat) (λi=>[(0,.U l),(3,.I (i:Int))]) (λi w'=>w=w'/\i<=l.length/\(l.drop i).all wx=l.all wx) (λi=>l.length-i) 0 (sub ⟨rfl,rfl⟩) ⟨rfl,iF _,rfl⟩ ?_;rintro i w' ⟨rfl,hi,d⟩
 by_cases fY:i<l.length
 .obtain⟨c,hc⟩:∃c,l[i]? =some c:=⟨_,j9 fY⟩;rw[mA hc,ra]at d
  by_cases g1:c=47
  .have m:((c.toNat:Int))=47:=by rw[g1];rfl
   refine Vu ?_;exact fB fx fx ⟨by rw[<-d,g1];simp[wx],rfl⟩
  have m:¬((c.toNat:Int))=47:=λh=>g1 ((rS (n:=47) fU).1 h)
  by_cases g2:c=0
  .have t:((c.toNat:Int))=0:=by rw[g2];rfl
   refine Vu ?_;exact fB fx fx ⟨by rw[<-d,g2];simp[wx],rfl⟩
  have t:¬((c.toNat:Int))=0:=λh=>g2 ((rS (n:=0) fU).1 h)
  have u:wx c=true:=by simp[wx,g1,g2]
  rw[u,iV]at d;refine Vu ?_;exact gl ⟨i+1,sub ⟨rfl,rfl⟩,⟨rfl,fy,d⟩,(by show l.length-(i+1)<l.length-i;omega)⟩
 .obtain rfl:i=l.length:=fy;rw[jP]at d;rw[<-d]
  by_cases h1:1<=l.length
  .by_cases g:l.length<=20
   .by_cases h3:l=[46]
    .subst h3
     repeat' (first|refine gk (op:= .neq) (b:=[46]) (r:=false) fx fx fx ?_|refine ie fx fx ?_|refine iE fx fx ?_|refine fT ?_|fail)
     exact y2
    .by_cases f:l=[46,46]
     .subst f
      repeat' (first|refine gk (op:= .neq) (b:=[46]) (r:=true) fx fx fx ?_|refine gk (op:= .neq) (b:=[46,46]) (r:=false) fx fx fx ?_|refine ie fx fx ?_|refine iE fx fx ?_|refine fT ?_|fail)
      exact y2
     .repeat' (first|refine gk (op:= .neq) (b:=[46]) (r:=true) fx fx (by simp[hG,h3]) ?_|refine gk (op:= .neq) (b:=[46,46]) (r:=true) fx fx (by simp[hG,f]) ?_|refine ie fx fx ?_|refine iE fx fx ?_|refine fT ?_|fail)
      exact fB fx fx ⟨by simp[h1,g,h3,f],rfl⟩
   .refine l4 ?_;exact fB fx fx ⟨by simp[g],rfl⟩
  .refine l4 ?_;exact fB fx fx ⟨by simp[h1],rfl⟩
structure CtI (l:fL) (w0:World) (x:Nat×Nat×Value×List fL) (w:World):Prop where
 i:x.1<=l.length+1
 own:Ow qM 1 w w0.heap.size 9 x.2.2.1 x.2.2.2
 go:x.1<=l.length->x.2.1<=x.1/\(47:UInt8)∉(l.drop x.2.1).take (x.1-x.2.1)/\x.2.2.2++hC (l.drop x.2.1)=hC l
 fin:x.1=l.length+1->x.2.2.2=hC l
 fr:x.2.1<=l.length+1
 len:x.2.2.2.length<=x.1
 ext:Ext w0 w
def C2 (w:i5) (l:fL) (ad:l.length<=1000000):fQ prog 106 #[.U l] w λr w'=>Ow qM 1 w' w.heap.size 9 r (hC l)/\Ext w w':=by
 refine gD func106 fx fE ?_;refine l4 ?_;refine gC (α:=Nat×Nat×i6×ip fL) (λx=>[(0,.U l),(3,x.2.2.1),(4,.I (x.2.1:Int)),(5,.I (x.1:Int))]) (CtI l w) (λx=>l.length+1-x.1) (0,0,.slice none 0 0,[]) (sub ⟨rfl,rfl,rfl,rfl⟩) ⟨iF _,Ow.nil _ _ _,λ_=>⟨gJ _,by simp,rfl⟩,λh=>by dsimp only at h;omega,iF _,gJ _,Fr.refl _ _⟩ ?_;rintro⟨i,k,v,acc⟩ ag ⟨hi,f,N,M,hk,hlen,g⟩;dsimp only at hi f N M hk hlen g|-
 by_cases hle:i<=l.length
 .obtain⟨ab,E,C⟩:=N hle;obtain⟨p,B⟩:∃p,p=(l.drop k).take (i-k):=⟨_,rfl⟩;rw[<-B]at E;obtain⟨qb5,c1,O,aa,ae⟩:=f.form
  have step:∀(y:ip fL),y=acc++[p]->(i<l.length->y++hC (l.drop (i+1))=hC l)->(i=l.length->y=hC l)->∀(d:i6) (w':i5),Ow qM 1 w' w.heap.size 9 d y->Ext w w'->
    CtI l w (i+1,i+1,d,y) w':=λy R h1 Q d w' U he=>⟨by dsimp only;omega,U,λh=>⟨gJ _,by simp,h1 (by dsimp only at h;omega)⟩,λh=>Q (by dsimp only at h;omega),by dsimp only;omega,by dsimp only;rw[R,ib];simp;omega,he⟩
  by_cases K:i=l.length\/l[i]? =some 47
  .have af:∀Y,Sub [(0,.U l),(3,v),(4,.I (k:Int)),(5,.I (i:Int))] Y->True:=λ_ _=>trivial
   rcases K with he|hc
   .have J:l.drop k=p:=by rw[B,he,p8 (by rw[lY];omega)]
    rw[J,yH p E]at C;have L:=step (acc++[p]) rfl (λh=>fy) (λ_=>C)
    repeat' (first|refine Lx k i fx fx fx fx fx fx fy fy ?_|refine ie fx fx ?_|refine iE fx fx ?_|refine fT ?_|fail)
    exact y4
   .have fY:=(jR.1 hc).1
    have J:l.drop k=p++47::l.drop (i+1):=by
     have h1:=mJ (i-k) (l.drop k);rw[rU,show k+(i-k)=i from by omega,mA hc,<-B]at h1;exact h1.symm
    rw[J,A1 p _ E]at C;have L:=step (acc++[p]) rfl (λ_=>by rw[<-C];simp) (λh=>fy);have Z:(((47:UInt8).toNat:Int))=47:=rfl
    repeat' (first|refine QS (z:=47) i fx fx fx fx hc ?_|refine Lx k i fx fx fx fx fx fx fy fy ?_|refine ie fx fx ?_|refine iE fx fx ?_|refine fT ?_|fail)
    exact y4
  .have fY:i<l.length:=by
    rcases p9 i l.length with h|h
    .exact h
    .exact absurd (.inl fy) K
   obtain⟨c,hc⟩:∃c,l[i]? =some c:=⟨_,j9 fY⟩;have g1:c≠47:=λe=>K (.inr (by rw[hc,e]))
   have O:¬((c.toNat:Int))=47:=λh=>g1 ((rS (n:=47) fU).1 h)
   refine Vu ?_;refine gl ⟨(i+1,k,v,acc),sub ⟨rfl,rfl,rfl,rfl⟩,⟨by dsimp only;omega,f,λ_=>⟨by dsimp only;omega,?_,C⟩,λh=>by dsimp only at h;omega,hk,by dsimp only;omega,g⟩,(by show l.length+1-(i+1)<l.length+1-i;omega)⟩;dsimp only;rw[show i+1-k=(i-k)+1 from by omega,j2,<-B,iS,not_or];refine⟨E,?_⟩;rw[Bu,show k+(i-k)=i from by omega,hc];simpa using λe=>g1 e.symm
 .have S:i=l.length+1:=fy;rw[<-M S];refine l4 ?_;exact fB fx fx ⟨f,g⟩
def lU (w:i5) (l:fL) (G:l.length<=1000000):fQ prog 57 #[.U l] w λr w'=>r= .bool (gX l)/\Ext w w':=by
 refine gD func57 fx fE ?_
 by_cases h0:l=[]
 .subst h0;refine Y8 ?_;exact fB fx fx ⟨rfl,Fr.refl _ _⟩
 have e0:gX l=((hC l).all jU&&decide (l.length<=100)&&decide ((hC l).length<=8)):=by simp[gX,h0]
 rw[e0];refine Zg ?_;refine fI fx fx (C2 w l G) (λr B h1=>?_);obtain⟨h1,m⟩:=h1;have K:(hC l).length<=l.length+1:=by rw[wR];have:=xC (a:=(47:UInt8)) (l:=l);omega
 obtain⟨A,c,rfl,I,J,D⟩:=h1.rw.op nZ;refine l4 ?_;refine gC (α:=Nat) (λi=>[(0,.U l),(3,.slice A (hC l).length c),(4,.I (i:Int))]) (λi w'=>B=w'/\i<=(hC l).length/\((hC l).drop i).all jU=(hC l).all jU) (λi=>(hC l).length-i) 0 (sub ⟨rfl,rfl,rfl⟩) ⟨rfl,iF _,rfl⟩ ?_;rintro i w' ⟨rfl,hi,g⟩
 by_cases fY:i<(hC l).length
 .obtain⟨b,o,x,rfl,_,H,F,E⟩:=D.at_ fY;have hk:=E 0 _ rfl;rw[oR,kB]at hk;rw[F,ra]at g
  have L:x.length<=l.length:=by
   have hm:=jT H
   have:∀s:fL,∀y∈hC s,y.length<=s.length:=by
    intro s
    induction s with
    |nil=>intro y f;simp[hC]at f;subst f;simp
    | cons d r n=>
     intro y f
     by_cases u:d=47
     .rw[hC,if_pos u]at f;rcases iu.1 f with rfl|f
      .simp
      .have:=n y f;simp;omega
     .rw[hC,if_neg u]at f;split at f
      .rename_i h t e;rw[e]at n;rcases iu.1 f with rfl|f
       .have:=n h iB;simp;omega
       .have:=n y (by simp[f]);simp;omega
      .rename_i e;exact absurd e (kU r)
   exact this l x hm
  repeat' (first|refine kt i (o+i) fx fx fx fx fx fy ?_|refine ie fx fx ?_|refine iE fx fx ?_|refine fT ?_|fail)
  refine fI fx fx (zx B x fy) (λr M C=>?_);obtain⟨rfl,rfl⟩:=C;cases v:jU x with
  |false=>
   rw[v,hW]at g;refine l4 ?_;exact fB fx fx ⟨by rw[<-g];rfl,m⟩
  |true=>
   rw[v,iV]at g;refine l4 ?_;exact gl ⟨i+1,sub ⟨rfl,rfl,rfl⟩,⟨rfl,fy,g⟩,(by show(hC l).length-(i+1)<(hC l).length-i;omega)⟩
 .obtain rfl:i=(hC l).length:=fy;rw[jP]at g;rw[<-g]
  by_cases g1:l.length<=100
  .by_cases g2:(hC l).length<=8
   .refine l4 ?_;exact fB fx fx ⟨by simp[g1,g2],m⟩
   .refine l4 ?_;exact fB fx fx ⟨by simp[g2],m⟩
  .refine l4 ?_;exact fB fx fx ⟨by simp[g1],m⟩
def rW (w:i5) (l:fL) (g:l.length<=1000000):fQ prog 107 #[.U l] w λr w'=>Ow qM 1 w' w.heap.size 9 r (fX l)/\Ext w w':=by
 refine gD func107 fx fE ?_
 by_cases h0:l=[]
 .subst h0;refine Y8 ?_;exact fB fx fx ⟨Ow.nil _ _ _,Fr.refl _ _⟩
 refine Zg ?_;refine fI fx fx (lU w l g) (λr n h1=>?_);obtain⟨rfl,f⟩:=h1;cases hm:gX l with
 |false=>
  refine l4 ?_;exact fB fx fx ⟨by rw[n9 hm];exact Ow.nil _ _ _,f⟩
 |true=>
  refine l4 ?_;refine fI fx fx (C2 n l g) (λr u d=>?_);obtain⟨d,m⟩:=d;refine l4 ?_;exact fB fx fx ⟨by rw[iy hm h0];exact d.mono f.size,f.t m⟩
def Fc (w:i5) (l:fL) (t:l.length<=1000000):fQ prog 89 #[.U l] w λr w'=>r= .tuple #[.U (wi l),.bool (iI l).isSome]/\Ext w w':=by
 refine gD func89 fx fE ?_;refine l4 ?_;refine fI fx fx (rW w l t) (λr E h1=>?_);obtain⟨h1,f⟩:=h1;have C:=sF l;obtain⟨A,c,rfl,y,B,m⟩:=h1.rw.op nZ
 by_cases h0:fX l=[]
 .have v:(fX l).length=0:=by rw[h0];rfl
  have e:iI l=none:=by unfold iI;rw[if_pos h0]
  refine l4 ?_;exact ia fx fx fx ⟨by rw[wi,e];rfl,f⟩
 .have v:0<(fX l).length:=rP.2 h0;have e:iI l=some (n8 l):=by unfold iI;rw[if_neg h0]
  obtain⟨b,o,x,rfl,_,d,_,n⟩:=m.at_ (i:=(fX l).length-1) fy
  have u:x=mK l:=by
   rw[He h0]at d;exact(jb d).symm
  have D:=CJ (oc (jT d));have hk:=n 0 _ rfl;have g:=FQ h0;rw[<-u]at g;refine aa5 ?_;refine Bw fx fx (by rw[oR,kB]at hk;exact hk) ?_
  repeat' (first|refine Pk fx fx ?_|refine xI (l.length-x.length-1) fx fx fx fy fy ?_|refine ie fx fx ?_|refine iE fx fx ?_|refine fT ?_|fail)
  exact ia fx fx fx ⟨by rw[wi,e,<-g];rfl,f⟩
def Sm (s p:fL):(p++[47]).isPrefixOf s=(decide (p.length<s.length)&&decide (s.take p.length=p)&&decide (s[p.length]? =some 47)):=by
 rw[Tz,xJ];simp only[iU,decide_eq_true_eq,ib,AZ];constructor
 .rintro⟨h1,d⟩;have fY:p.length<s.length:=fy;rw[j2,j9 fY]at d;have:=List.append_inj d (by simp;omega);refine⟨⟨fY,this.1⟩,?_⟩;rw[j9 fY];simpa using this.2
 .rintro⟨⟨h1,d⟩,h3⟩;refine⟨fy,?_⟩;rw[j2,d,h3];rfl
def xL (w:i5) (s p:fL) (hs:s.length<=1000000) (v:p.length<=1000000):fQ prog 41 #[.U s,.U p] w λr w'=>r= .bool (oq s p)/\Ext w w':=by
 refine gP func41 fx fE ?_;unfold oq;refine fA ?_;refine fI fx fx (lU w s hs) (λr x h1=>?_);obtain⟨rfl,m⟩:=h1;cases hm:gX s with
 |false=>
  exact SJ
 | true =>
  refine fA ?_;refine fI fx fx (lU x p v) (λr B f=>?_);obtain⟨rfl,u⟩:=f;have d:=m.t u;cases y:gX p with
  |false=>
   refine fA ?_;exact UF
  | true=>
   rw[iV,iV]
   by_cases h0:p=[]
   .subst h0;refine Y8 ?_;exact UF
   .rw [decide_eq_false h0,CQ]
    by_cases h1:s=p
    .subst h1
     repeat' (first|refine gk (op:= .eql) (b:=[]) (r:=false) fx fx (by simp[hG,h0]) ?_|refine gk (op:= .eql) (r:=true) fx fx (by simp[hG]) ?_|refine ie fx fx ?_|refine iE fx fx ?_|refine fT ?_|fail)
     exact fB fx fx ⟨by simp,d⟩
    .rw [decide_eq_false h1,CQ,Sm]
     by_cases f:p.length<s.length
     .rw[decide_eq_true f,iV]
      by_cases h3:s.take p.length=p
      .rw[decide_eq_true h3,iV];obtain⟨c,hc⟩:∃c,s[p.length]? =some c:=⟨_,j9 f⟩
       by_cases g:c=47
       .have e4:((c.toNat:Int))=47:=by rw[g];rfl
        refine gz7 ?_;exact fB fx fx ⟨by rw[hc,g];simp,d⟩
       .have e4:¬((c.toNat:Int))=47:=λh=>g ((rS (n:=47) fU).1 h)
        refine gz7 ?_;exact fB fx fx ⟨by rw[hc];simp[g],d⟩
      .rw[decide_eq_false h3,hW]
       repeat' (first|refine gk (op:= .eql) (b:=[]) (r:=false) fx fx (by simp[hG,h0]) ?_|refine gk (op:= .eql) (a:=s) (b:=p) (r:=false) fx fx (by simp[hG,h1]) ?_|refine xI p.length fx fx fx fx fy ?_|refine gk (op:= .eql) (a:=s.take p.length) (b:=p) (r:=false) fx fx (by simp[hG,h3]) ?_|refine ie fx fx ?_|refine iE fx fx ?_|refine fT ?_|fail)
       exact UF
     .rw[decide_eq_false f,hW,hW]
      repeat' (first|refine gk (op:= .eql) (b:=[]) (r:=false) fx fx (by simp[hG,h0]) ?_|refine gk (op:= .eql) (a:=s) (b:=p) (r:=false) fx fx (by simp[hG,h1]) ?_|refine ie fx fx ?_|refine iE fx fx ?_|refine fT ?_|fail)
      exact UF
def z8 (w:i5) (a b:fL) (J:a.length<=1000000) (K:b.length<=1000000):fQ prog 60 #[.U a,.U b] w λr w'=>r= .bool (ix a b)/\Ext w w':=by
 refine gP func60 fx fE ?_;unfold ix;refine fA ?_;refine fI fx fx (rW w a J) (λr U h1=>?_);obtain⟨h1,I⟩:=h1;refine fA ?_;refine fI fx fx (rW U b K) (λr V g=>?_);obtain⟨g,C⟩:=g;obtain⟨x,Q⟩:∃x,x=fX a:=⟨_,rfl⟩;obtain⟨y,S⟩:∃y,y=fX b:=⟨_,rfl⟩;have R:=sF a;have T:=sF b;rw[<-Q]at h1 R|-;rw[<-S]at g T|-;obtain⟨A,c,rfl,aa,ad,G⟩:=(h1.rw.ext C).op nZ;obtain⟨E,F,rfl,ab,ae,H⟩:=g.rw.op nZ;refine fA ?_;refine gC (α:=Nat) (λi=>[(5,.slice A x.length c),(6,.slice E y.length F),(7,.I (i:Int))]) (λi w'=>Ext V w'/\i<=x.length/\i<=y.length/\jc (x.drop i) (y.drop i)=jc x y) (λi=>x.length-i) 0 (sub ⟨rfl,rfl,rfl⟩) ⟨Fr.refl _ _,iF _,iF _,rfl⟩ ?_;rintro i u ⟨m,hi,af,f⟩;have n:=(I.t C).t m
 by_cases g1:i<x.length
 .by_cases g2:i<y.length
  .obtain⟨k,o,p,rfl,_,ag,M,L⟩:=G.at_ g1;obtain⟨D,o',q,rfl,_,hq,O,N⟩:=H.at_ g2;have c1:=m.cell (L 0 _ rfl);have c2:=m.cell (N 0 _ rfl);rw[oR,kB]at c1 c2;rw[M,O,jc]at f;have W:gc u.drew k (o+i) (.U p):=c1;have Y:gc u.drew D (o'+i) (.U q):=c2;have X:gc u.drew.drew k (o+i) (.U p):=c1;have Z:gc u.drew.drew D (o'+i) (.U q):=c2
   by_cases e:p=q
   .subst e;rw[if_pos rfl]at f
    repeat' (first|refine kt i (o+i) fx fx fx fx fx g1 ?_|refine kt i (o'+i) fx fx fx fx fx g2 ?_|refine gk (op:= .neq) (a:=p) (b:=p) (r:=false) fx fx (by simp[hG]) ?_|refine ie fx fx ?_|refine iE fx fx ?_|refine fT ?_|fail)
    exact gl ⟨i+1,sub ⟨rfl,rfl,rfl⟩,⟨m.d,fy,by omega,f⟩,(by show x.length-(i+1)<x.length-i;omega)⟩
   .rw[if_neg e]at f
    repeat' (first|refine kt i (o+i) fx fx fx fx fx g1 ?_|refine kt i (o'+i) fx fx fx fx fx g2 ?_|refine gk (op:= .neq) (a:=p) (b:=q) (r:=true) fx fx (by simp[hG,e]) ?_|refine gk (op:= .lss) (a:=p) (b:=q) fx fx fx ?_|refine ie fx fx ?_|refine iE fx fx ?_|refine fT ?_|fail)
    exact fB fx fx ⟨by rw[<-f],n.d.d⟩
  .obtain rfl:i=y.length:=fy;rw[jP]at f;have B:x.drop y.length≠[]:=by rw[Ne,QO];omega
   have e:jc x y=false:=by
    rw[<-f];cases v:x.drop y.length with
    |nil=>exact absurd v B
    |cons _ _=>rfl
   rw[e];refine l4 ?_;exact fB fx fx ⟨rfl,n⟩
 .obtain rfl:i=x.length:=fy;rw[jP]at f
  by_cases g2:x.length<y.length
  .have B:y.drop x.length≠[]:=by rw[Ne,QO];omega
   have e:jc x y=true:=by
    rw[<-f];cases v:y.drop x.length with
    |nil=>exact absurd v B
    |cons _ _=>rfl
   rw[e];refine l4 ?_;exact fB fx fx ⟨rfl,n⟩
  .have e:jc x y=false:=by
    rw[<-f,List.drop_of_length_le fy];rfl
   rw[e];refine l4 ?_;exact fB fx fx ⟨rfl,n⟩
