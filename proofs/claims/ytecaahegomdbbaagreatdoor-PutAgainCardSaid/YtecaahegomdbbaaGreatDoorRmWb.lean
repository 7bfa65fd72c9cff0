/- Parts of the proof. -/
import Derived.Lib.Bytealg
import Derived.Test.YtecaahegomdbbaaGreatDoorRmWa
set_option linter.all false
set_option maxRecDepth 99999
set_option maxHeartbeats 0
namespace Go.Proofs.YtecaahegomdbbaaGreatDoor.gr
open Go.Proofs.Tryz
open Go.RowKit
variable {s:fL}
section
attribute [local irreducible] xs T
def Na (l:fL) (c:UInt8):Nat->Int
 |0=> -1
 |k+1=>if l[k]? =some c then k else Na l c k
theorem Ih {l:fL} {c:UInt8} (h:c∉l):∀k,Na l c k= -1
 |0=>rfl
 |k+1=>by
  rw[Na,if_neg (λe=>h (jT e)),Ih h k]
theorem L0 {a x:fL} {c:UInt8} (h:c∉x):∀j,j<=x.length->Na (a++c::x) c (a.length+1+j)=a.length
 |0,_=>by
  rw[kB,Na,if_pos iB]
 |j+1,d=>by
  rw[<-GC,Na,if_neg ?_,L0 h j fy];intro e;rw[tk fy,show a.length+1+j-a.length=j+1 from by omega,Dr]at e;exact h (jT e)
def GG (w:i5) (l:fL) (g:l.length<=1000000):fQ prog 170 #[.U l,.int .u8 47] w λr w'=>r= .I (Na l 47 l.length)/\w=w':=by
 refine gP func170 fx fE ?_;refine l4 ?_;refine gC (α:=Nat) (λk=>[(0,.U l),(1,.int .u8 47),(5,.I ((k:Int)-1))]) (λk w'=>w=w'/\k<=l.length/\Na l 47 k=Na l 47 l.length) (λk=>k) l.length (sub ⟨rfl,rfl,rfl⟩) ⟨rfl,gJ _,rfl⟩ ?_;rintro k m ⟨rfl,hk,d⟩;cases k with
 |zero=>
  refine l4 ?_;exact fB fx fx ⟨by rw[<-d];rfl,rfl⟩
 | succ k=>
  obtain⟨c,hc⟩:∃c,l[k]? =some c:=⟨_,j9 fy⟩;rw[Na,hc]at d
  by_cases h:c=47
  .have f:((c.toNat:Int))=47:=by rw[h];rfl
   rw[if_pos (by rw[h])]at d
   repeat' (first|refine QS (z:=c) k fx fx fx fy hc ?_|refine ie fx fx ?_|refine iE fx fx ?_|refine fT ?_|fail)
   exact fB fx fx ⟨by rw[<-d];congr 1;omega,rfl⟩
  .have f:¬((c.toNat:Int))=47:=λe=>h ((rS (n:=47) fU).1 e)
   rw[if_neg (λe=>h (jb e))]at d
   repeat' (first|refine QS (z:=c) k fx fx fx fy hc ?_|refine ie fx fx ?_|refine iE fx fx ?_|refine fT ?_|fail)
   exact gl ⟨k,sub ⟨rfl,rfl,km fy⟩,⟨rfl,fy,d⟩,(by show k<k+1;omega)⟩
def Ev (w:i5) (l:fL) (d:l.length<=1000000):fQ prog 108 #[.U l,.int .u8 47] w λr w'=>r= .I (Na l 47 l.length)/\w=w':=by
 refine gP func108 fx fE ?_;refine fA ?_;refine fI fx fx (GG w l d) (λr f h1=>?_);exact y8
def wi (s:fL):fL:=(iI s).getD []
def U7 (hm:gX s=true) (h0:s≠[]):iI s=some (n8 s)/\((Na s 47 s.length= -1/\n8 s=[])\/∃k:Nat,Na s 47 s.length=k/\k<=s.length/\n8 s=s.take k):=by
 have g:fX s≠[]:=by rw[iy hm h0];exact kU s
 refine⟨by unfold iI;rw[if_neg g],?_⟩;have d:=kI hm;obtain⟨l,x,f⟩:∃l x,fX s=l++[x]:=⟨_,_,(MH g).symm⟩
 have n:(47:UInt8)∉x:=by
  have:x∈hC s:=by rw[<-iy hm h0,f];simp
  exact wq s x this
 rw[f]at d;have m:n8 s=jm l:=by unfold n8;rw[f,Dv]
 by_cases h1:l=[]
 .subst h1;have:s=x:=d.symm;left;exact⟨by rw[this];exact Ih n _,by rw[m];rfl⟩
 .rw[p6 l x h1]at d;right;refine⟨(jm l).length,?_,?_,?_⟩
  .rw[<-d];have:=L0 (a:=jm l) n x.length (gJ _);rw[ib,iP,show(jm l).length+(x.length+1)=(jm l).length+1+x.length from by omega];exact this
  .rw[<-d];simp
  .rw[m,<-d,vr]
def lW (w:i5) (l:fL):fQ prog 62 #[.U l] w λr w'=>r= .tuple #[.U (wi l),.bool (iI l).isSome]/\Ext w w':=by
 refine gD func62 fx fE ?_
 by_cases h0:l=[]
 .subst h0;refine Y8 ?_;exact ia fx fx fx ⟨rfl,Fr.refl _ _⟩
 refine Zg ?_;refine fI fx fx (oC w l) (λr g h1=>?_);obtain⟨rfl,f⟩:=h1;cases hm:gX l with
 |false=>
  have e:iI l=none:=by unfold iI;rw[if_pos (n9 hm)]
  refine l4 ?_;exact ia fx fx fx ⟨by rw[wi,e];rfl,f⟩
 | true=>
  have hlen:=kO hm;obtain⟨e,hc⟩:=U7 hm h0;refine l4 ?_;refine fI fx fx (Ev g l fy) (λr m d=>?_);obtain⟨rfl,rfl⟩:=d;rcases hc with⟨h1,d⟩|⟨k,h1,d,h3⟩
  .rw[h1];refine l4 ?_;exact ia fx fx fx ⟨by rw[wi,e,d];rfl,f⟩
  .rw[h1]
   repeat' (first|refine xI k fx fx fx fx d ?_|refine ie fx fx ?_|refine iE fx fx ?_|refine fT ?_|fail)
   exact ia fx fx fx ⟨by rw[wi,e,h3];rfl,f⟩
theorem wR:∀s:fL,(hC s).length=s.count 47+1
 |[]=>rfl
 | c::r=>by
  have d:=wR r
  by_cases hc:c=47
  .subst hc;simp[hC,d]
  .rw[hC,if_neg hc,Lw hc];split
   .rename_i h t e;rw[e]at d;simpa using d
   .rename_i e;exact absurd e (kU r)
def Ko (w:i5) (l:fL):fQ prog 320 #[.U l,.U [47]] w λr w'=>r= .I (l.count 47:Int)/\w=w':=by
 refine gP func320 fx fE ?_
 repeat' (first|refine QS (z:=47) 0 fx fx fx fx fx ?_|refine ie fx fx ?_|refine iE fx fx ?_|refine fT ?_|fail)
 refine U9 (e:=Extern.BytealgCount.count) func358 fE fE fE fE fx (Lib.run_countString (su l) _ w) ?_;refine fA ?_;refine fB fx fx ⟨?_,rfl⟩;simp[Lib.countByte,su]
def HG (w:i5) (l:fL) (c:UInt8):fQ prog 321 #[.U l,.U [c]] w λr w'=>r= .I (wH l c)/\w=w':=by
 refine gP func321 fx fE ?_;refine fA ?_;refine fI fx fx (Hf w l c) (λr d h1=>?_);exact y8
def j5:x4 51 9 (.string ⟨#[]⟩) 1 16:=Nq underlying51 fE
structure SpI (l:fL) (g n:Nat) (w0:World) (x:Nat×List fL×fL) (w:World):Prop where
 i:x.1+1<=n
 len:x.2.1.length=x.1
 gO:fW w g 9 (x.2.1.map (λs=>Value.U s)++List.replicate (n-x.1) (Value.string ⟨#[]⟩)).toArray
 cut:x.2.1++hC x.2.2=hC l
 sl:x.2.2.length<=l.length
 ext:Ext w0 w
def F3 {α:Type} {a b:ip α} {i k:Nat} {x y:α} (hi:a.length=i) (hk:b=List.replicate (k+1) y):((a++b).toArray.setIfInBounds i x)=(a++[x]++List.replicate k y).toArray:=by
 subst hk;rw[LO,Lz _ _ fy,hi,HD,Xd,Qa];simp
def BH (w:i5) (l:fL) (Z:l.length<=1000000):fQ prog 286 #[.U l,.U [47],.I 0,.I (-1)] w λr w'=>Ow qM 1 w' w.heap.size 9 r (hC l)/\Ext w w':=by
 refine xA func286 fx fE ?_;have F:=wR l;have X:l.count 47<=l.length:=xC;obtain⟨n,G⟩:∃n,n=l.count 47+1:=⟨_,rfl⟩;have R:min ((l.count 47:Int)+1) ((l.length:Int)+1)=(n:Int):=fy
 repeat' (first|refine gk (op:= .eql) (b:=[]) (r:=false) fx fx fx ?_|refine ie fx fx ?_|refine iE fx fx ?_|refine fT ?_|fail)
 refine fI fx fx (Ko w l) (λr T h1=>?_);obtain⟨rfl,rfl⟩:=h1
 repeat' (first|refine QJ fx fx ?_|refine ie fx fx ?_|refine iE fx fx ?_|refine fT ?_|fail)
 rw[R];refine fA ?_;refine WA j5 fx fx fx fy fy fy (λT C L aa=>?_);rw[je]at C|-;refine fA ?_;refine gC (α:=Nat×ip fL×fL) (λx=>[(0,.U x.2.2),(1,.U [47]),(2,.I 0),(3,.I ((n:Int)-1)),(9,.S w.heap.size 0 n n),(10,.I (x.1:Int))]) (SpI l w.heap.size n w) (λx=>n-x.1) (0,[],l) (sub ⟨rfl,rfl,rfl,rfl,rfl,rfl⟩) ⟨by dsimp only;omega,rfl,by simpa using C,rfl,gJ _,L⟩ ?_;rintro⟨i,done,s⟩ U ⟨hi,hlen,m,g,S,t⟩;dsimp only at hi hlen m g S t|-;have E:done.length+(hC s).length=n:=by rw[<-ib,g,F,G]
 have d:=vF s
 by_cases fY:i<n-1
 .have hm:(ik s).2.2=true:=by
   cases hm:(ik s).2.2 with
   |true=>rfl
   |false=>rw[hm]at d;rw[d]at E;simp at E;omega
  have Q:=rO s hm;have v:=zU s hm;have B:=Fh s;rw[hm,if_pos rfl]at B;rw[hm,if_pos rfl]at d;obtain⟨a,D⟩:∃a,a=(ik s).1:=⟨_,rfl⟩;obtain⟨b,M⟩:∃b,b=(ik s).2.1:=⟨_,rfl⟩;rw[<-D]at B;rw[<-D,<-M]at Q v d;have I:s.take a.length=a:=by rw[v,vr]
  have J:s.drop (a.length+1)=b:=by rw[v,<-rU,List.drop_left];rfl
  refine l4 ?_;refine fI fx fx (HG U s 47) (λr H h3=>?_);obtain⟨rfl,rfl⟩:=h3;rw[B]
  repeat' (first|refine xI a.length fx fx fx fy fy ?_|refine kt i i fx fx fx fx fy fy ?_|refine ie fx fx ?_|refine iE fx fx ?_|refine fT ?_|fail)
  refine ir m fx fx fx fx (by rw[decide_eq_true_eq];simp;omega) (λH f u=>?_);rw[I,F3 (k:=n-(i+1)) (y:= .string ⟨#[]⟩) (by simpa using hlen) (by congr 1;omega)]at f
  repeat' (first|refine VM (a.length+1) fx fx fx iB fy ?_|refine ie fx fx ?_|refine iE fx fx ?_|refine fT ?_|fail)
  rw[J];exact gl ⟨(i+1,done++[a],b),sub ⟨rfl,rfl,rfl,rfl,rfl,rfl⟩,⟨by dsimp only;omega,by dsimp only;rw[ib,hlen];rfl,by dsimp only;rw[pw];exact f,by dsimp only;rw[<-g,d,kF];rfl,by dsimp only;omega,Ext.te t u λj O e=>by have e':j=w.heap.size:=e;omega⟩,(by show n-(i+1)<n-i;omega)⟩
 .have Y:i=n-1:=fy
  have N:hC s=[s]:=by
   have:(ik s).2.2=false:=by
    cases hm:(ik s).2.2 with
    |false=>rfl
    |true=>
     rw[hm,if_pos rfl]at d;have h1:=congrArg List.length d;have W:0<(hC (ik s).2.1).length:=rP.2 (kU _);simp at h1;omega
   rw[d,this,(yM s this).1];rfl
  repeat' (first|refine kt i i fx fx fx fx fy fy ?_|refine ie fx fx ?_|refine iE fx fx ?_|refine fT ?_|fail)
  refine ir m fx fx fx fx (by rw[decide_eq_true_eq];simp;omega) (λH f u=>?_);rw[F3 (k:=0) (y:= .string ⟨#[]⟩) (by simpa using hlen) (by congr 1;omega)]at f;refine l4 ?_;refine Yt fx fx fx fy fy (λV K=>?_);obtain rfl:=K _ _ rfl fy;refine fA ?_;refine fB fx fx ⟨?_,Ext.te t u λj O e=>by have e':j=w.heap.size:=e;omega⟩;rw[show((i:Int)+1).toNat=n from by omega];refine Ow.E7 nZ f ?_ (gJ _) (by rw[F,G]) (by unfold maxLen;omega);rw[<-g,N,Mp,pw];simp
def Kj (w:i5) (l:fL) (f:l.length<=1000000):fQ prog 236 #[.U l,.U [47]] w λr w'=>Ow qM 1 w' w.heap.size 9 r (hC l)/\Ext w w':=by
 refine gP func236 fx fE ?_;refine fA ?_;refine fI fx fx (BH w l f) (λr g h1=>?_);obtain⟨h1,d⟩:=h1;refine fA ?_;exact fB fx fx ⟨h1,d⟩
def AX (w:i5) (l:fL):fQ prog 174 #[.U l] w λr w'=>Ow qM 1 w' w.heap.size 9 r (fX l)/\Ext w w':=by
 refine gD func174 fx fE ?_
 by_cases h0:l=[]
 .subst h0;refine Y8 ?_;exact fB fx fx ⟨Ow.nil _ _ _,Fr.refl _ _⟩
 refine Zg ?_;refine fI fx fx (oC w l) (λr m h1=>?_);obtain⟨rfl,f⟩:=h1;cases hm:gX l with
 |false=>
  refine l4 ?_;exact fB fx fx ⟨by rw[n9 hm];exact Ow.nil _ _ _,f⟩
 |true=>
  have hlen:=kO hm;refine l4 ?_;refine fI fx fx (Kj m l fy) (λr n d=>?_);obtain⟨d,g⟩:=d;refine l4 ?_;exact fB fx fx ⟨by rw[iy hm h0];exact d.mono f.size,f.t g⟩
def He {l:ip fL} (h:l≠[]):l[l.length-1]? =some (l.getLastD []):=by
 rw[List.getLastD_eq_getLast?,List.getLast?_eq_getElem?];have:0<l.length:=rP.2 h;rw[j9 fy];rfl
def M7 (w:i5) (l:fL):fQ prog 171 #[.U l] w λr w'=>r= .U (mK l)/\Ext w w':=by
 refine gD func171 fx fE ?_;refine l4 ?_;refine fI fx fx (AX w l) (λr B h1=>?_);obtain⟨h1,d⟩:=h1;have y:=sF l;obtain⟨A,c,rfl,u,v,g⟩:=h1.rw.op nZ
 by_cases h0:fX l=[]
 .have t:(fX l).length=0:=by rw[h0];rfl
  refine l4 ?_;exact fB fx fx ⟨by rw[mK,h0];rfl,d⟩
 .have t:0<(fX l).length:=rP.2 h0;obtain⟨b,o,x,rfl,_,f,_,m⟩:=g.at_ (i:=(fX l).length-1) fy
  have n:x=mK l:=by
   rw[He h0]at f;exact(jb f).symm
  have hk:=m 0 _ rfl;refine aa5 ?_;refine Bw fx fx (by rw[oR,kB]at hk;exact hk) ?_;refine l4 ?_;exact fB fx fx ⟨by rw[n],d⟩
def WC (s:fL):ip fL:=if s=[]then[]else hC s
def Dg (s:fL):Prop:=s=[]\/∀x∈hC s,x≠[]
def yI (h:Dg s) (h0:s≠[]):WC s=(ik s).1::WC (ik s).2.1/\Dg (ik s).2.1/\(ik s).2.1.length<s.length/\s.length<=(ik s).1.length+1+(ik s).2.1.length:=by
 have d:∀x∈hC s,x≠[]:=h.resolve_left h0;have hc:=vF s;unfold WC;rw[if_neg h0,hc];cases hm:(ik s).2.2 with
 |false=>
  obtain⟨f,g⟩:=yM s hm;rw[g,f];refine⟨rfl,.inl fx,rP.2 h0,by simp⟩
 | true=>
  have t:=rO s hm;rw[if_pos rfl];rw[hm,if_pos rfl]at hc
  have m:(ik s).2.1≠[]:=by
   intro e;exact d [] (by rw[hc,e];simp[hC]) fx
  rw[if_neg m];exact⟨rfl,.inr λx n=>d x (by rw[hc];exact qC _ n),fy,by omega⟩
def Hh (h:gX s=true):WC s=fX s/\Dg s:=by
 by_cases h0:s=[]
 .subst h0;exact⟨rfl,.inl rfl⟩
 .refine⟨by unfold WC;rw[if_neg h0,iy h h0],.inr λx d=>yS ((sJ h h0).1 x d)⟩
structure LsI (a0 b0:fL) (w0:World) (x:fL×fL) (w:World):Prop where
 ga:Dg x.1
 gb:Dg x.2
 la:x.1.length<=100
 lb:x.2.length<=100
 go:jc (WC x.1) (WC x.2)=ix a0 b0
 ext:Ext w0 w
def aap (a:fL):∃d,(if gX a then a else[])=d/\WC d=fX a/\Dg d/\d.length<=100:=by
 cases h:gX a with
 |true=>exact⟨a,rfl,(Hh h).1,(Hh h).2,kO h⟩
 |false=>exact⟨[],rfl,by rw[n9 h];rfl,.inl rfl,by simp⟩
def sW (w:i5) (a b:fL):fQ prog 86 #[.U a,.U b] w λr w'=>r= .bool (ix a b)/\Ext w w':=by
 refine gP func86 fx fE ?_;obtain⟨m,n,L,ga,la⟩:=aap a;obtain⟨b',u,M,gb,lb⟩:=aap b;refine fA ?_;refine iq (α:=fL×fL) 0 fx (λx=>[(0,.U x.1),(1,.U x.2)]) (LsI a b w) (λx=>x.1.length) ?_ ?_
 .rintro⟨p,q⟩ y ⟨D,E,J,K,d,v⟩;dsimp only at D E J K d|-
  by_cases f:p=[]
  .subst f
   by_cases hq:q=[]
   .subst hq
    repeat' (first|refine gk (op:= .neq) (b:=[]) (r:=false) fx fx fx ?_|refine gk (op:= .eql) (b:=[]) (r:=true) fx fx fx ?_|refine ie fx fx ?_|refine iE fx fx ?_|refine fT ?_|fail)
    exact fB fx fx ⟨by rw[<-d];rfl,v⟩
   .repeat' (first|refine gk (op:= .neq) (b:=[]) (r:=false) fx fx fx ?_|refine gk (op:= .eql) (b:=[]) (r:=true) fx fx fx ?_|refine gk (op:= .neq) (b:=[]) (r:=true) fx fx (by simp[hG,hq]) ?_|refine ie fx fx ?_|refine iE fx fx ?_|refine fT ?_|fail)
    refine fB fx fx ⟨?_,v⟩;rw[<-d,(yI E hq).1];rfl
  .by_cases hq:q=[]
   .subst hq
    repeat' (first|refine gk (op:= .neq) (b:=[]) (r:=false) fx fx fx ?_|refine gk (op:= .eql) (b:=[]) (r:=false) fx fx (by simp[hG,f]) ?_|refine gk (op:= .neq) (b:=[]) (r:=true) fx fx (by simp[hG,f]) ?_|refine ie fx fx ?_|refine iE fx fx ?_|refine fT ?_|fail)
    refine fB fx fx ⟨?_,v⟩;rw[<-d,(yI D f).1];rfl
   .obtain⟨p1,p2,N,_⟩:=yI D f;obtain⟨q1,q2,q3,_⟩:=yI E hq;rw[p1,q1,jc]at d
    repeat' (first|refine gk (op:= .neq) (a:=p) (b:=[]) (r:=true) fx fx (by simp[hG,f]) ?_|refine gk (op:= .neq) (a:=q) (b:=[]) (r:=true) fx fx (by simp[hG,hq]) ?_|refine ie fx fx ?_|refine iE fx fx ?_|refine fT ?_|fail)
    refine fI fx fx (Am y p fy) (λr g B=>?_);obtain⟨rfl,C⟩:=B;refine fA ?_;refine fI fx fx (Am g q fy) (λr O h3=>?_);obtain⟨rfl,I⟩:=h3;have F:=v.t (C.t I);refine fA ?_
    by_cases e:(ik p).1=(ik q).1
    .rw[if_pos e]at d
     repeat' (first|refine gk (op:= .neq) (r:=false) fx fx (by simp[hG,e]) ?_|refine ie fx fx ?_|refine iE fx fx ?_|refine fT ?_|fail)
     exact hy fx ⟨_,(by show(ik p).2.1.length<p.length;omega),rfl,((ik p).2.1,(ik q).2.1),sub ⟨rfl,rfl⟩,⟨p2,q2,by dsimp only;omega,by dsimp only;omega,d,F⟩,rfl⟩
    .rw[if_neg e]at d
     repeat' (first|refine gk (op:= .neq) (r:=true) fx fx (by simp[hG,e]) ?_|refine gk (op:= .lss) fx fx fx ?_|refine ie fx fx ?_|refine iE fx fx ?_|refine fT ?_|fail)
     exact fB fx fx ⟨by rw[<-d],F⟩
 .intro H;refine fA ?_;refine fI fx fx (oC w a) (λr y h1=>?_);obtain⟨rfl,G⟩:=h1;refine fA ?_;refine p5 (α:=Unit) (λ_=>[(0,.U m),(1,.U b)]) (λ_ w'=>y=w') ?_ ?_
  .cases hm:gX a with
   |true=>
    rw[hm,if_pos rfl]at n;subst n;exact y22
   |false=>
    rw[hm,if_neg fU]at n;subst n;exact y22
  rintro _ _ rfl;refine fA ?_;refine fI fx fx (oC y b) (λr g B=>?_);obtain⟨rfl,C⟩:=B;have fin:LsI a b w (m,b') g:=⟨ga,gb,la,lb,by dsimp only;rw[L,M];rfl,G.t C⟩;cases hm:gX b with
  |true=>
   rw[hm,if_pos rfl]at u;subst u;refine fA ?_;refine hI ?_;exact iw (H (m,b) g fin) (sub ⟨rfl,rfl⟩)
  |false=>
   rw[hm,if_neg fU]at u;subst u;refine fA ?_;refine hI ?_;exact iw (H (m,[]) g fin) (sub ⟨rfl,rfl⟩)
def Tz (s p:fL):p.isPrefixOf s=(decide (p.length<=s.length)&&decide (s.take p.length=p)):=by
 rw[xJ,Qs,iU,decide_eq_true_eq,decide_eq_true_eq];constructor
 .intro h;exact⟨h.length_le,(VP.1 h).symm⟩
 .rintro⟨_,h⟩;exact VP.2 h.symm
