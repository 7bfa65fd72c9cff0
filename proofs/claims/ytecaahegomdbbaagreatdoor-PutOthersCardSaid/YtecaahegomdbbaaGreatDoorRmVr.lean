/- Parts of the proof. -/
import Derived.Test.YtecaahegomdbbaaGreatDoorRmB9b
import Derived.Test.YtecaahegomdbbaaGreatDoorRmYc
set_option linter.all false
set_option maxRecDepth 99999
set_option maxHeartbeats 0
namespace Go.Proofs.YtecaahegomdbbaaGreatDoor.gr
open Go.Proofs.Tryz
open Go.RowKit
section
open Wr
def Ts (r:fL) (k:Nat):vk r k []=r:=by unfold vk;rw[List.take_nil,mR,kL,kB,mJ]
def T4 {r d:fL} {k j:Nat} {z:UInt8} (f:d[j]? =some z) (g:k+d.length<=r.length):(vk r k (d.take j)).set (k+j) z=vk r k (d.take (j+1)):=by
 have m:=(jR.1 f).1;have hk:k<=r.length:=fy;apply BK;intro q;rw[LK,sx _ _ _ hk]
 by_cases hq:q<r.length
 .rw[EV _ _ _ hk hq,EV _ _ _ hk hq,kv,kv]
  by_cases e:k+j=q
  .subst e;rw[if_pos rfl,if_pos hq,if_pos fy,Ic,if_pos fy,show k+j-k=j by omega,f]
  .rw[if_neg e]
   by_cases h1:k<=q/\q<k+min j d.length
   .rw[if_pos h1,if_pos fy,Ic,Ic,if_pos fy,if_pos fy]
   .rw[if_neg h1,if_neg fy]
 .rw[x0 (l:=vk r k (d.take (j+1))) (by rw[sx _ _ _ hk];omega)];split
  .rw[if_neg fy]
  .exact x0 (by rw[sx _ _ _ hk];omega)
def uH (o:Int) (l:ip hT) (r:fL):fL:=l.foldl (λr p=>vk r (p.pos-o).toNat p.data) r
def Jp {o:Int} {l:ip hT} {i:Nat} {p:hT} (h:l[i]? =some p) (r:fL):uH o (l.take (i+1)) r=vk (uH o (l.take i) r) (p.pos-o).toNat p.data:=by
 unfold uH;rw[j2,h,ID];rfl
theorem B7 {o hi:Int}:∀(l:ip hT) (r:fL),(∀p∈l,o<=p.pos/\gU p<=hi)->(hi-o).toNat=r.length->(uH o l r).length=r.length
 |[],_,_,_=>rfl
 |p::l,r,h,f=>by
  have d:=h p iB;unfold gU at d;have e:(vk r (p.pos-o).toNat p.data).length=r.length:=sx _ _ _ fy;have:=B7 l (vk r (p.pos-o).toNat p.data) (λq hq=>h q (by simp[hq])) (by rw[e];exact f);rw[e]at this;exact this
def z6 (n:Nd) (pos d:Int):Int:=min d (n.size-pos)
def ph (n:Nd) (pos d:Int):fL×Int:=
 if fG n=false\/n.kind≠2\/pos<0\/d<0\/4000<d then([],1)else if n.size<=pos then([],0)
 else(uH pos (gZ n.data pos (pos+z6 n pos d)) (List.replicate (z6 n pos d).toNat 0),0)
attribute [local irreducible] xs T
structure RdO (w0:World) (g:Nat) (o:Int) (z:fL) (l:List hT) (i:Nat) (w:World):Prop where
 il:i<=l.length
 b:fW w g 5 (sd (uH o (l.take i) z)).toArray
 f:Fr (· =g) w0 w
structure RdJ (w0:World) (g:Nat) (r:fL) (k:Nat) (d:fL) (j:Nat) (w:World):Prop where
 il:j<=d.length
 b:fW w g 5 (sd (vk r k (d.take j))).toArray
 f:Fr (· =g) w0 w
def JH (w:i5) (x:gG) (pos f:Int) (ad:im w x) (ap:fF x.n.data<=1000000) (ax:x.n.target.length<=1000000) (v:pos<=4000000000000000000):fQ prog 22 #[.agg (gB x).toArray,.I pos,.I f] w λr w'=>r= .tuple #[.string (su (ph x.n pos f).1),.I (ph x.n pos f).2]/\Ext w w':=by
 refine kg func22 fx fE ?_;refine fA ?_;refine hP fx (λaf ak Q aI=>?_);have N:fW af w.heap.size 37 (gB x).toArray:=ak;refine fA ?_;refine gR (t:=37) N fx fx ?_;refine fA ?_;refine fH fx fx (na af x (ad.ext Q) ap ax) (λr g B=>?_);obtain⟨rfl,R⟩:=B;have H:=N.ext R;have m:=Q.t R;have k0:gc g w.heap.size 0 (.I x.n.kind):=H.cell 0;have k7:gc g w.heap.size 7 (.I x.n.size):=H.cell 7;have k8:gc g w.heap.size 8 x.vd:=H.cell 8
 by_cases bad:fG x.n=false\/x.n.kind≠2\/pos<0\/f<0\/4000<f
 .have y:ph x.n pos f=([],1):=by unfold ph;rw[if_pos bad]
  rw[y];cases G:fG x.n with
  |false=>
   exact Zh
  | true=>
   by_cases B:x.n.kind=2
   .by_cases h3:pos<0
    .exact Zh
    .by_cases M:f<0
     .exact Zh
     .have aA:4000<f:=by
       rcases bad with h|h|h|h|h
       .rw[G]at h;cases h
       .exact absurd B h
       .exact absurd h h3
       .exact absurd h M
       .exact h
      exact Zh
   .exact Zh
 have G:fG x.n=true:=by cases h:fG x.n with
  |true=>rfl
  |false=>exact absurd (.inl h) bad
 have B:x.n.kind=2:=by
  by_cases h:x.n.kind=2
  .exact h
  .exact absurd (.inr (.inl h)) bad
 have h3:0<=pos:=by
  by_cases h:0<=pos
  .exact h
  .exact absurd (.inr (.inr (.inl fy))) bad
 have M:0<=f/\f<=4000:=by
  by_cases h:0<=f/\f<=4000
  .exact h
  .exact absurd (.inr (.inr (.inr fy))) bad
 rw[G];obtain⟨p1,p2,aL,aM,ay⟩:=u5 (iX G B)
 by_cases hs:x.n.size<=pos
 .have y:ph x.n pos f=([],0):=by unfold ph;rw[if_neg bad,if_pos hs]
  rw[y];clear bad;exact Zh
 obtain⟨k,hk⟩:∃k:Nat,k=(z6 x.n pos f).toNat:=⟨_,rfl⟩;have X:z6 x.n pos f=(k:Int):=by unfold z6 at hk|-;omega
 have av:min f (x.n.size-pos)=(k:Int):=X;have aE:(k:Int)<=4000/\pos+(k:Int)<=x.n.size:=fy;have y:ph x.n pos f=(uH pos (gZ x.n.data pos (pos+(k:Int))) (List.replicate k 0),0):=by unfold ph;rw[if_neg bad,if_neg hs,X,je]
 rw[y];clear bad y;refine KJ ?_;rw[av];refine fA ?_;refine WA Qu fx fx fx fy fy fy (λag C E aJ=>?_);rw[je]at C|-;rw[HA]at C;have aK:gc ag w.heap.size 8 x.vd:=E.cell k8;refine fA ?_;refine fH fx fx (qx ag x.vd x.n.data pos (pos+(k:Int)) ((ad.d.ext m).ext E) p1 fy) (λr ah ai=>?_);obtain⟨J,S⟩:=ai;obtain⟨l,K⟩:∃l,l=gZ x.n.data pos (pos+(k:Int)):=⟨_,rfl⟩;have Y:∀p∈l,pos<=p.pos/\gU p<=pos+(k:Int):=λp v=>by rw[K]at v;exact⟨(nx v).2.1,(nx v).2.2.1⟩
 have aF:l.length<=16:=by rw[K];exact ly (qa _ _ _) ay
 rw[<-K]at J|-;obtain⟨A,c,rfl,aC,aD,aj⟩:=J.rw.op hB;have al:=fW.ext C S;have z3:=E.size
 have ar:∀b o,A=some ⟨b,o,none⟩->g.heap.size≠b:=λb o e h=>by
  have:=(J.gO (b:=b) (by rw[e];rfl)).1;have:=C.lt;omega
 refine fA ?_;refine gC (α:=Nat) (λi=>[(1,.I pos),(8,.I (k:Int)),(9,.S g.heap.size 0 k k),(10,.slice A l.length c),(11,.I (i:Int))]) (RdO ah g.heap.size pos (List.replicate k 0) l) (λi=>l.length-i) 0 (sub ⟨rfl,rfl,rfl,rfl,rfl⟩) ⟨iF _,al,Fr.refl _ _⟩ ?_;rintro i az ⟨hi,D,U⟩
 have L:(uH pos (l.take i) (List.replicate k 0)).length=k:=by
  rw[B7 (hi:=pos+(k:Int)) _ _ (λp v=>Y p (DC v)) (by rw[Bg];omega),Bg]
 by_cases fY:i<l.length
 .obtain⟨b,o,p,rfl,aB,aa,_,V⟩:=aj.at_ fY;have aH:=Y p (jT aa);have Z:¬b=g.heap.size:=λe=>ar b o rfl e.symm
  have aG:gU p=p.pos+(p.data.length:Int):=rfl;obtain⟨r,ab⟩:∃r,r=uH pos (l.take i) (List.replicate k 0):=⟨_,rfl⟩;rw[<-ab]at D L;obtain⟨q,hq⟩:∃q:Nat,q=(p.pos-pos).toNat:=⟨_,rfl⟩;refine fA ?_;refine gC (α:=Nat) (λj=>[(1,.I pos),(8,.I (k:Int)),(9,.S g.heap.size 0 k k),(10,.S b o l.length c),(11,.I (i:Int)),(12,.I (j:Int))]) (RdJ ah g.heap.size r q p.data) (λj=>p.data.length-j) 0 (sub ⟨rfl,rfl,rfl,rfl,rfl,rfl⟩) ⟨iF _,by rw[yb,Ts];exact D,U⟩ ?_;rintro j u ⟨au,I,F⟩;have q1:gc u b (o+i*2+1) (.U p.data):=F.cell (V 1 _ rfl) Z;have q0:gc u b (o+i*2+0) (.I p.pos):=F.cell (V 0 _ rfl) Z
  by_cases W:j<p.data.length
  .obtain⟨z,ae⟩:∃z,p.data[j]? =some z:=⟨_,j9 W⟩;have aq:=Fr.drew hJ u;have T:Ext u u.drew:=aq;have aO:gc u.drew b (o+i*2+1) (.U p.data):=q1;have aN:gc u.drew b (o+i*2+0) (.I p.pos):=q0;have am:=I.ext T
   repeat' (first|refine gH i (o+i*2) fx fx fx fx fx fY ?_|refine iE fx fx ?_|refine QS j fx fx fx fx ae ?_|refine kt (q+j) (q+j) fx fx fx fy fy fy ?_|refine fT ?_|fail)
   refine ir am fx fx fE fx (by rw[decide_eq_true_eq,nK,sR,sx _ _ _ fy];omega) (λaP O ao=>?_)
   have aw:(sd (vk r q (p.data.take j))).toArray.setIfInBounds (q+j) (.int .u8 (z.toNat:Int))=(sd (vk r q (p.data.take (j+1)))).toArray:=by
    rw[<-T4 ae fy];unfold sd;rw[vz];simp
   rw[aw]at O;refine fA ?_;exact gl ⟨j+1,sub ⟨rfl,rfl,rfl,rfl,rfl,km fy⟩,⟨W,O,(F.te T).t ao⟩,by show p.data.length-(j+1)<p.data.length-j;omega⟩
  .obtain rfl:j=p.data.length:=fy;rw[kh]at I
   repeat' (first|refine gH i (o+i*2) fx fx fx fx fx fY ?_|refine iE fx fx ?_|refine fT ?_|fail)
   exact gl ⟨i+1,sub ⟨rfl,rfl,rfl,rfl,km fy⟩,⟨fY,by rw[Jp aa,<-ab,<-hq];exact I,F⟩,by show l.length-(i+1)<l.length-i;omega⟩
 .obtain rfl:i=l.length:=fy;rw[kh]at D L;refine fA ?_;refine abS D fx L.symm (by unfold maxLen;omega) ?_;refine fA ?_;have an:Ext w az:=((m.t E).t S).trans U λj au e=>by have:j=g.heap.size:=e;have:=m.size;omega
  exact ia fx fx fx ⟨rfl,an⟩
