/- Parts of the proof. -/
import Derived.Test.YtecaahegomdbbaaGreatDoorRfWb
set_option linter.all false
set_option maxRecDepth 100000
set_option maxHeartbeats 64000000
namespace Go.Proofs.YtecaahegomdbbaaGreatDoor.gp
open Go.Proofs.Tryz
open Go.RowKit
section
attribute [local irreducible] xs T
theorem lT {α:Type} {l:List α} {i:Nat} {c:α} (hc:l[i]? =some c):l.drop i=c::l.drop (i+1):=by
 have fW:=(j0.1 hc).1;rw[EJ fW];rw[kp fW]at hc;rw[jk hc]
theorem zY (w:World) (l:fQ) (u:l.length<=1000000):fL prog 58 #[.string (su l)] w λr w'=>r= .bool (jM l)/\w=w':=by
 refine gr func58 fx fF ?_;rw[F7];refine lP ?_;refine gA (α:=Nat) (λi=>[(0,.string (su l)),(3,.int .i64 (i:Int))]) (λi w'=>w=w'/\i<=l.length/\(l.drop i).all wa=l.all wa) (λi=>l.length-i) 0 (sub ⟨rfl,rfl⟩) ⟨rfl,iy _,rfl⟩ ?_;rintro i w' ⟨rfl,hi,a⟩
 by_cases fW:i<l.length
 ·obtain⟨c,hc⟩:∃c,l[i]? =some c:=⟨_,kp fW⟩;rw[lT hc,rJ]at a
  by_cases g1:c=47
  ·have m:((c.toNat:Int))=47:=by rw[g1];rfl
   refine SE ?_;exact fB fx fx ⟨by rw[←a,g1];simp[wa],rfl⟩
  have m:¬((c.toNat:Int))=47:=λh=>g1 ((tf (n:=47) fV).1 h)
  by_cases g2:c=0
  ·have s:((c.toNat:Int))=0:=by rw[g2];rfl
   refine SE ?_;exact fB fx fx ⟨by rw[←a,g2];simp[wa],rfl⟩
  have s:¬((c.toNat:Int))=0:=λh=>g2 ((tf (n:=0) fV).1 h)
  have t:wa c=true:=by simp[wa,g1,g2]
  rw[t,iU]at a;refine SE ?_;exact gn ⟨i+1,sub ⟨rfl,rfl⟩,⟨rfl,fy,a⟩,(by show l.length-(i+1)<l.length-i;omega)⟩
 ·obtain rfl:i=l.length:=fy;rw[jJ]at a;rw[←a]
  by_cases h1:1<=l.length
  ·by_cases g:l.length<=20
   ·by_cases d:l=[46]
    ·subst d
     repeat' (first|refine gq (op:= .neq) (b:=[46]) (r:=false) rfl rfl rfl ?_|refine iu rfl rfl ?_|refine iH rfl rfl ?_|refine fT ?_|fail)
     exact y2
    ·by_cases f:l=[46,46]
     ·subst f
      repeat' (first|refine gq (op:= .neq) (b:=[46]) (r:=true) rfl rfl rfl ?_|refine gq (op:= .neq) (b:=[46,46]) (r:=false) rfl rfl rfl ?_|refine iu rfl rfl ?_|refine iH rfl rfl ?_|refine fT ?_|fail)
      exact y2
     ·repeat' (first|refine gq (op:= .neq) (b:=[46]) (r:=true) rfl rfl (by simp[hZ,d]) ?_|refine gq (op:= .neq) (b:=[46,46]) (r:=true) rfl rfl (by simp[hZ,f]) ?_|refine iu rfl rfl ?_|refine iH rfl rfl ?_|refine fT ?_|fail)
      exact fB fx fx ⟨by simp[h1,g,d,f],rfl⟩
   ·refine lP ?_;exact fB fx fx ⟨by simp[g],rfl⟩
  ·refine lP ?_;exact fB fx fx ⟨by simp[h1],rfl⟩
structure CtI (l:fQ) (w0:World) (x:Nat×Nat×Value×List fQ) (w:World):Prop where
 i:x.1<=l.length+1
 own:Ow qK 1 w w0.heap.size 9 x.2.2.1 x.2.2.2
 go:x.1<=l.length->x.2.1<=x.1/\(47:UInt8)∉(l.drop x.2.1).take (x.1-x.2.1)/\x.2.2.2++hg (l.drop x.2.1)=hg l
 fin:x.1=l.length+1->x.2.2.2=hg l
 fr:x.2.1<=l.length+1
 len:x.2.2.2.length<=x.1
 ext:Ext w0 w
theorem Cg (w:World) (l:fQ) (aa:l.length<=1000000):fL prog 106 #[.string (su l)] w λr w'=>Ow qK 1 w' w.heap.size 9 r (hg l)/\Ext w w':=by
 refine gr func106 fx fF ?_;refine lP ?_;refine gA (α:=Nat×Nat×Value×List fQ) (λx=>[(0,.string (su l)),(3,x.2.2.1),(4,.int .i64 (x.2.1:Int)),(5,.int .i64 (x.1:Int))]) (CtI l w) (λx=>l.length+1-x.1) (0,0,.slice none 0 0,[]) (sub ⟨rfl,rfl,rfl,rfl⟩) ⟨iy _,Ow.nil _ _ _,λ_=>⟨gJ _,by simp,rfl⟩,λh=>by dsimp only at h;omega,iy _,gJ _,Fr.refl _ _⟩ ?_;rintro⟨i,k,v,acc⟩ ae ⟨hi,d,L,K,hk,hlen,f⟩;dsimp only at hi d L K hk hlen f⊢
 by_cases hle:i<=l.length
 ·obtain⟨Z,C,y⟩:=L hle;obtain⟨p,s⟩:∃p,p=(l.drop k).take (i-k):=⟨_,rfl⟩;rw[←s]at C;obtain⟨W,c1,M,Y,ab⟩:=d.form
  have step:∀(m:List fQ),m=acc++[p]->(i<l.length->m++hg (l.drop (i+1))=hg l)->(i=l.length->m=hg l)->∀(a:Value) (w':World),Ow qK 1 w' w.heap.size 9 a m->Ext w w'->
    CtI l w (i+1,i+1,a,m) w':=λm O h1 N a w' S he=>⟨by dsimp only;omega,S,λh=>⟨gJ _,by simp,h1 (by dsimp only at h;omega)⟩,λh=>N (by dsimp only at h;omega),by dsimp only;omega,by dsimp only;rw[O,hQ];simp;omega,he⟩
  by_cases I:i=l.length∨l[i]? =some 47
  ·have ad:∀env,Sub [(0,.string (su l)),(3,v),(4,.int .i64 (k:Int)),(5,.int .i64 (i:Int))] env->True:=λ_ _=>trivial
   rcases I with he|hc
   ·have H:l.drop k=p:=by rw[s,he,pG (by rw[lH];omega)]
    rw[H,x2 p C]at y;have J:=step (acc++[p]) rfl (λh=>fy) (λ_=>y)
    repeat' (first|refine LP k i rfl rfl rfl rfl rfl rfl fy fy ?_|refine iu rfl rfl ?_|refine iH rfl rfl ?_|refine fT ?_|fail)
    exact y4
   ·have fW:=(j0.1 hc).1
    have H:l.drop k=p++47::l.drop (i+1):=by
     have h1:=lv (i-k) (l.drop k);rw[rb,show k+(i-k)=i from by omega,lT hc,←s]at h1;exact h1.symm
    rw[H,yZ p _ C]at y;have J:=step (acc++[p]) rfl (λ_=>by rw[←y];simp) (λh=>fy);have X:(((47:UInt8).toNat:Int))=47:=rfl
    repeat' (first|refine Sn (z:=47) i rfl rfl rfl rfl hc ?_|refine LP k i rfl rfl rfl rfl rfl rfl fy fy ?_|refine iu rfl rfl ?_|refine iH rfl rfl ?_|refine fT ?_|fail)
    exact y4
  ·have fW:i<l.length:=by
    rcases pT i l.length with h|h
    ·exact h
    ·exact absurd (.inl fy) I
   obtain⟨c,hc⟩:∃c,l[i]? =some c:=⟨_,kp fW⟩;have g1:c≠47:=λe=>I (.inr (by rw[hc,e]))
   have M:¬((c.toNat:Int))=47:=λh=>g1 ((tf (n:=47) fV).1 h)
   refine SE ?_;refine gn ⟨(i+1,k,v,acc),sub ⟨rfl,rfl,rfl,rfl⟩,⟨by dsimp only;omega,d,λ_=>⟨by dsimp only;omega,?_,y⟩,λh=>by dsimp only at h;omega,hk,by dsimp only;omega,f⟩,(by show l.length+1-(i+1)<l.length+1-i;omega)⟩;dsimp only;rw[show i+1-k=(i-k)+1 from by omega,kO,←s,iK,not_or];refine⟨C,?_⟩;rw[Ab,show k+(i-k)=i from by omega,hc];simpa using λe=>g1 e.symm
 ·have Q:i=l.length+1:=fy;rw[←K Q];refine lP ?_;exact fB fx fx ⟨d,f⟩
theorem nT (w:World) (l:fQ) (G:l.length<=1000000):fL prog 57 #[.string (su l)] w λr w'=>r= .bool (gU l)/\Ext w w':=by
 refine gr func57 fx fF ?_
 by_cases h0:l=[]
 ·subst h0;refine gz9 ?_;exact fB fx fx ⟨rfl,Fr.refl _ _⟩
 have e0:gU l=((hg l).all jM&&decide (l.length<=100)&&decide ((hg l).length<=8)):=by simp[gU,h0]
 rw[e0];refine Yq ?_;refine fI fx fx (Cg w l G) (λr B h1=>?_);obtain⟨h1,m⟩:=h1;have K:(hg l).length<=l.length+1:=by rw[vJ];have:=wY (a:=(47:UInt8)) (l:=l);omega
 obtain⟨A,c,rfl,I,J,D⟩:=h1.rw.op oO;refine lP ?_;refine gA (α:=Nat) (λi=>[(0,.string (su l)),(3,.slice A (hg l).length c),(4,.int .i64 (i:Int))]) (λi w'=>B=w'/\i<=(hg l).length/\((hg l).drop i).all jM=(hg l).all jM) (λi=>(hg l).length-i) 0 (sub ⟨rfl,rfl,rfl⟩) ⟨rfl,iy _,rfl⟩ ?_;rintro i w' ⟨rfl,hi,g⟩
 by_cases fW:i<(hg l).length
 ·obtain⟨b,o,x,rfl,_,H,F,E⟩:=D.at_ fW;have hk:=E 0 _ rfl;rw[ph,kS]at hk;rw[F,rJ]at g
  have L:x.length<=l.length:=by
   have hm:=jS H
   have:∀s:fQ,∀y∈hg s,y.length<=s.length:=by
    intro s
    induction s with
    |nil=>intro y f;simp[hg]at f;subst f;simp
    | cons d r n=>
     intro y f
     by_cases u:d=47
     ·rw[hg,if_pos u]at f;rcases hX.1 f with rfl|f
      ·simp
      ·have:=n y f;simp;omega
     ·rw[hg,if_neg u]at f;split at f
      ·rename_i h t e;rw[e]at n;rcases hX.1 f with rfl|f
       ·have:=n h ir;simp;omega
       ·have:=n y (by simp[f]);simp;omega
      ·rename_i e;exact absurd e (kK r)
   exact this l x hm
  repeat' (first|refine kV i (o+i) rfl rfl rfl rfl rfl fy ?_|refine iu rfl rfl ?_|refine iH rfl rfl ?_|refine fT ?_|fail)
  refine fI fx fx (zY B x fy) (λr M C=>?_);obtain⟨rfl,rfl⟩:=C;cases v:jM x with
  |false=>
   rw[v,hW]at g;refine lP ?_;exact fB fx fx ⟨by rw[←g];rfl,m⟩
  |true=>
   rw[v,iU]at g;refine lP ?_;exact gn ⟨i+1,sub ⟨rfl,rfl,rfl⟩,⟨rfl,fy,g⟩,(by show(hg l).length-(i+1)<(hg l).length-i;omega)⟩
 ·obtain rfl:i=(hg l).length:=fy;rw[jJ]at g;rw[←g]
  by_cases g1:l.length<=100
  ·by_cases g2:(hg l).length<=8
   ·refine lP ?_;exact fB fx fx ⟨by simp[g1,g2],m⟩
   ·refine lP ?_;exact fB fx fx ⟨by simp[g2],m⟩
  ·refine lP ?_;exact fB fx fx ⟨by simp[g1],m⟩
theorem rB (w:World) (l:fQ) (f:l.length<=1000000):fL prog 107 #[.string (su l)] w λr w'=>Ow qK 1 w' w.heap.size 9 r (fZ l)/\Ext w w':=by
 refine gr func107 fx fF ?_
 by_cases h0:l=[]
 ·subst h0;refine gz9 ?_;exact fB fx fx ⟨Ow.nil _ _ _,Fr.refl _ _⟩
 refine Yq ?_;refine fI fx fx (nT w l f) (λr m h1=>?_);obtain⟨rfl,d⟩:=h1;cases hm:gU l with
 |false=>
  refine lP ?_;exact fB fx fx ⟨by rw[nX hm];exact Ow.nil _ _ _,d⟩
 |true=>
  refine lP ?_;refine fI fx fx (Cg m l f) (λr n a=>?_);obtain⟨a,g⟩:=a;refine lP ?_;exact fB fx fx ⟨by rw[ig hm h0];exact a.mono d.size,d.t g⟩
theorem D0 (w:World) (l:fQ) (n:l.length<=1000000):fL prog 89 #[.string (su l)] w λr w'=>r= .tuple #[.string (su (vv l)),.bool (iL l).isSome]/\Ext w w':=by
 refine gr func89 fx fF ?_;refine lP ?_;refine fI fx fx (rB w l n) (λr C h1=>?_);obtain⟨h1,d⟩:=h1;have y:=rW l;obtain⟨A,c,rfl,u,v,g⟩:=h1.rw.op oO
 by_cases h0:fZ l=[]
 ·have t:(fZ l).length=0:=by rw[h0];rfl
  have e:iL l=none:=by unfold iL;rw[if_pos h0]
  refine lP ?_;exact ia fx fx fx ⟨by rw[vv,e];rfl,d⟩
 ·have t:0<(fZ l).length:=tE.2 h0;have e:iL l=some (oF l):=by unfold iL;rw[if_neg h0]
  obtain⟨b,o,x,rfl,_,a,_,m⟩:=g.at_ (i:=(fZ l).length-1) fy
  have s:x=mO l:=by
   rw[FB h0]at a;exact(jk a).symm
  have B:=BK (ou (jS a));have hk:=m 0 _ rfl;have f:=HA h0;rw[←s]at f;refine Zd ?_;refine AU fx fx (by rw[ph,kS]at hk;exact hk) ?_
  repeat' (first|refine RS rfl rfl ?_|refine B1 (l.length-x.length-1) rfl rfl rfl fy fy ?_|refine iu rfl rfl ?_|refine iH rfl rfl ?_|refine fT ?_|fail)
  exact ia fx fx fx ⟨by rw[vv,e,←f];rfl,d⟩
theorem yp (w:World) (a b:fQ) (I:a.length<=1000000) (J:b.length<=1000000):fL prog 60 #[.string (su a),.string (su b)] w λr w'=>r= .bool (ie a b)/\Ext w w':=by
 refine gK func60 fx fF ?_;unfold ie;refine fA ?_;refine fI fx fx (rB w a I) (λr T h1=>?_);obtain⟨h1,H⟩:=h1;refine fA ?_;refine fI fx fx (rB T b J) (λr U g=>?_);obtain⟨g,B⟩:=g;obtain⟨x,O⟩:∃x,x=fZ a:=⟨_,rfl⟩;obtain⟨y,R⟩:∃y,y=fZ b:=⟨_,rfl⟩;have Q:=rW a;have S:=rW b;rw[←O]at h1 Q⊢;rw[←R]at g S⊢;obtain⟨A,c,rfl,Z,ab,F⟩:=(h1.rw.ext B).op oO;obtain⟨D,E,rfl,aa,ad,G⟩:=g.rw.op oO;refine fA ?_;refine gA (α:=Nat) (λi=>[(5,.slice A x.length c),(6,.slice D y.length E),(7,.int .i64 (i:Int))]) (λi w'=>Ext U w'/\i<=x.length/\i<=y.length/\iV (x.drop i) (y.drop i)=iV x y) (λi=>x.length-i) 0 (sub ⟨rfl,rfl,rfl⟩) ⟨Fr.refl _ _,iy _,iy _,rfl⟩ ?_;rintro i s ⟨m,hi,ae,f⟩;have n:=(H.t B).t m
 by_cases g1:i<x.length
 ·by_cases g2:i<y.length
  ·obtain⟨k,o,p,rfl,_,af,L,K⟩:=F.at_ g1;obtain⟨C,o',q,rfl,_,hq,N,M⟩:=G.at_ g2;have c1:=m.cell (K 0 _ rfl);have c2:=m.cell (M 0 _ rfl);rw[ph,kS]at c1 c2;rw[L,N,iV]at f;have V:s.drew.cell? ⟨k,o+i,none⟩=some (.string (su p)):=c1;have X:s.drew.cell? ⟨C,o'+i,none⟩=some (.string (su q)):=c2;have W:s.drew.drew.cell? ⟨k,o+i,none⟩=some (.string (su p)):=c1;have Y:s.drew.drew.cell? ⟨C,o'+i,none⟩=some (.string (su q)):=c2
   by_cases e:p=q
   ·subst e;rw[if_pos rfl]at f
    repeat' (first|refine kV i (o+i) rfl rfl rfl rfl rfl g1 ?_|refine kV i (o'+i) rfl rfl rfl rfl rfl g2 ?_|refine gq (op:= .neq) (a:=p) (b:=p) (r:=false) rfl rfl (by simp[hZ]) ?_|refine iu rfl rfl ?_|refine iH rfl rfl ?_|refine fT ?_|fail)
    exact gn ⟨i+1,sub ⟨rfl,rfl,rfl⟩,⟨m.d,fy,by omega,f⟩,(by show x.length-(i+1)<x.length-i;omega)⟩
   ·rw[if_neg e]at f
    repeat' (first|refine kV i (o+i) rfl rfl rfl rfl rfl g1 ?_|refine kV i (o'+i) rfl rfl rfl rfl rfl g2 ?_|refine gq (op:= .neq) (a:=p) (b:=q) (r:=true) rfl rfl (by simp[hZ,e]) ?_|refine gq (op:= .lss) (a:=p) (b:=q) rfl rfl rfl ?_|refine iu rfl rfl ?_|refine iH rfl rfl ?_|refine fT ?_|fail)
    exact fB fx fx ⟨by rw[←f],n.d.d⟩
  ·obtain rfl:i=y.length:=fy;rw[jJ]at f;have v:x.drop y.length≠[]:=by rw[Ne,RT];omega
   have e:iV x y=false:=by
    rw[←f];cases u:x.drop y.length with
    |nil=>exact absurd u v
    |cons _ _=>rfl
   rw[e];refine lP ?_;exact fB fx fx ⟨rfl,n⟩
 ·obtain rfl:i=x.length:=fy;rw[jJ]at f
  by_cases g2:x.length<y.length
  ·have v:y.drop x.length≠[]:=by rw[Ne,RT];omega
   have e:iV x y=true:=by
    rw[←f];cases u:y.drop x.length with
    |nil=>exact absurd u v
    |cons _ _=>rfl
   rw[e];refine lP ?_;exact fB fx fx ⟨rfl,n⟩
  ·have e:iV x y=false:=by
    rw[←f,List.drop_of_length_le fy];rfl
   rw[e];refine lP ?_;exact fB fx fx ⟨rfl,n⟩
end
end Go.Proofs.YtecaahegomdbbaaGreatDoor.gp
