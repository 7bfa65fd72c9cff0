/- Parts of the proof. -/
import Derived.Test.YtecaahegomdbbaaGreatDoorRmB9b
import Derived.Test.YtecaahegomdbbaaGreatDoorRmKb
import Derived.Test.YtecaahegomdbbaaGreatDoorRmWp
import Derived.Test.YtecaahegomdbbaaGreatDoorRmWv
import Derived.Test.YtecaahegomdbbaaGreatDoorRmYc
set_option linter.all false
set_option maxRecDepth 99999
set_option maxHeartbeats 0
namespace Go.Proofs.YtecaahegomdbbaaGreatDoor.gr
open Go.Proofs.Tryz
open Go.RowKit
variable {g3:Nat} {n:Nd} {w w' w0:i5} {t:fZ} {m:uW}
section
open Wr
attribute [local irreducible] xs T
def Sf {p:hT} {r:ip hT} {size:Int} (h0:0<=p.pos) (d:p.data≠[]) (h:p.pos<size):gZ (p::r) 0 size=⟨p.pos,p.data.take (min (p.data.length:Int) (size-p.pos)).toNat⟩::gZ r 0 size:=by
 have f:=rP.2 d;have he:gU p=p.pos+(p.data.length:Int):=rfl
 have e:nf 0 size p=some ⟨p.pos,p.data.take (min (p.data.length:Int) (size-p.pos)).toNat⟩:=by
  unfold nf;rw[if_pos fy,show max 0 p.pos=p.pos from by omega,show(p.pos-p.pos).toNat=0 from by omega,wK,show min size (gU p)-p.pos=min (p.data.length:Int) (size-p.pos)from by omega]
 unfold gZ;rw[Xp,e]
theorem zt {size:Int}:∀{l:ip hT},(∀p∈l,size<=p.pos)->gZ l 0 size=[]
 |[],_=>rfl
 |p::r,h=>by
  have d:=h p iB;have e:nf 0 size p=none:=by unfold nf;rw[if_neg fy]
  unfold gZ;rw[Xp,e];exact zt λq hq=>h q (by simp[hq])
def aaw (w:i5) (x:gG) (size:Int) (r:i6) (w':i5):Prop:=
 ∃x',r= .tuple #[.agg (gB x').toArray,.I (kx x.n size).2]/\x'.n=(kx x.n size).1/\im w' x'/\((kx x.n size).2=0->rj w' w.heap.size x')/\Ext w w'
structure CuS (Wb:World) (g:Nat) (fin:Nd) (va vc:Value) (L:List hT) (size:Int) (x:Nat×Value×List hT) (w':World):Prop where
 i:x.1<=L.length
 b:fW w' g 37 (gB ⟨fin,va,vc,x.2.1⟩).toArray
 d:Ow kc 2 w' Wb.heap.size 39 x.2.1 x.2.2
 n:x.2.2.length<=x.1
 f:Fr (· =g) Wb w'
 m:gZ L 0 size=x.2.2++gZ (L.drop x.1) 0 size
def N3 (w:i5) (x:gG) (size:Int) (Q:im w x) (bq:GZ x.n) (G:fF x.n.data<=1000000):fQ prog 176 #[.agg (gB x).toArray,.I size] w (aaw w x size):=by
 refine gP func176 fx fE ?_;unfold aaw;refine fA ?_;refine hP fx (λM a9 aM bT=>?_);refine fA ?_;refine gx (z:= .agg tH) fE (λaD bi ar bW=>?_);have aH:fW aD w.heap.size 37 (gB x).toArray:=fW.ext a9 ar;have aL:Ext w aD:=aM.t ar;have b4:=aM.size;have z2:=ar.size;refine fA ?_;refine gR (t:=37) aH fx fx ?_;refine fA ?_;refine fH fx fx (xK aD x (Q.ext aL) G) (λr am h3=>?_);obtain⟨rfl,ai⟩:=h3;have aa:=aH.ext ai;have aj:=fW.ext bi ai;have ab:=aL.t ai;have al:=Q.ext ab;have z3:=ai.size;have W:∀{w:i5} {y:gG},im w y->∀u∈gB y,u.oneCell'=true:=λh=>iC h
 by_cases bad:fG x.n=false\/x.n.kind≠2\/size<0\/1099511627776<size
 .have hw:kx x.n size=(x.n,1):=by unfold kx;rw[if_pos bad]
  rw[hw]
  have ag:(decide (x.n.kind=2)&&fG x.n)=false\/((decide (x.n.kind=2)&&fG x.n)=true/\(size<0\/1099511627776<size)):=by
   cases h1:fG x.n with
   |false=>left;simp
   | true=>
    by_cases R:x.n.kind=2
    .right;refine⟨by simp[R],?_⟩;rcases bad with h|h|h
     .rw[h1]at h;cases h
     .exact absurd R h
     .exact h
    .left;simp[R]
  rcases ag with ag|⟨ag,ax⟩
  .rw[ag];exact y3
  .rw[ag];rcases ax with ax|ax
   .exact y3
   .exact y3
 have a1:fG x.n=true:=by cases h:fG x.n with
  |true=>rfl
  |false=>exact absurd (.inl h) bad
 have aZ:x.n.kind=2:=by
  by_cases h:x.n.kind=2
  .exact h
  .exact absurd (.inr (.inl h)) bad
 have bP:0<=size:=by
  by_cases h:0<=size
  .exact h
  .exact absurd (.inr (.inr (.inl fy))) bad
 have bQ:size<=1099511627776:=by
  by_cases h:size<=1099511627776
  .exact h
  .exact absurd (.inr (.inr (.inr fy))) bad
 rw[show(decide (x.n.kind=2)&&fG x.n)=true from by rw[aZ,a1];rfl];have bA:jV x.n=true:=iX a1 aZ;obtain⟨f1,f2,f3,f4,f5,f6⟩:=(kH x.n).1 bA;obtain⟨fin,V⟩:∃fin:Nd,fin={x.n with data:=gZ x.n.data 0 size,size:=size}:=⟨_,rfl⟩;have bH:kx x.n size=(fin,0):=by unfold kx;rw[if_neg bad,V]
 rw[bH];refine fA ?_;refine gR (t:=37) aa fx fx ?_;refine fA ?_;refine fH fx fx (ub am x al bq) (λr g a8=>?_);obtain⟨⟨n1,D,E,bI⟩,rfl,ae,a4,m⟩:=a8;dsimp only at a4;subst a4;have N:=aa.ext m;have bv:=aj.ext m;have bl:=ab.t m;have z4:=m.size;refine fA ?_;refine gx (z:= .agg tH) fE (λb2 bj aP bX=>?_);refine fA ?_;refine gY bj fx fx fE fx (fJ (l:=gB ⟨x.n,D,E,bI⟩) (ld.2 (W ae.in))) (λb3 bk aT=>?_);have z5:=aP.size;have b6:=aT.size;refine fA ?_;refine ir bk fx fx fE fx fx (λb0 ba bn=>?_);refine fA ?_;refine ir ba fx fx fE fx fx (λH bb bo=>?_);have aI:fW H g.heap.size 37 (gB ⟨fin,D,E,.slice none 0 0⟩).toArray:=by rw[V];exact bb
 have T:Ext g H:=aP.trans ((aT.t bn).t bo) λj O e=>by have:j=g.heap.size:=e;omega
 have aK:=bl.t T;have bc:=N.ext T;have z12:=T.size;have bO:=aI.lt;obtain⟨L,aU⟩:∃L,L=x.n.data:=⟨_,rfl⟩;obtain⟨ao,cL,ap,bw,bN,aG⟩:=(Q.d.ext aK).op hB;rw[<-aU]at aG f3 f4 f5 f6 V bw ap;have k8:H.cell? ⟨w.heap.size,8,none⟩=some (.slice ao L.length cL):=by rw[<-ap];exact bc.cell 8
 have br:∀b o,ao=some ⟨b,o,none⟩->0<L.length->b≠g.heap.size:=λb o e h0=>by
  obtain⟨bK,c0,e0,_,_,h1⟩:=Q.d.op hB;rw[<-aU]at e0 h1;rw[ap]at e0;injection e0 with a7
  obtain⟨bL,o1,Y,R,_⟩:=h1 h0;rw[<-a7,e]at Y;injection Y with Y
  injection Y with Y
  omega
 have bu:=bv.ext T;have a0:∀b,b<g.heap.size->¬b=g.heap.size:=λb G e=>fy
 have aW:∀(v:i6) (w':i5),Ow kc 2 w' H.heap.size 39 v (gZ L 0 size)->Fr (· =g.heap.size) H w'->rj w' am.heap.size ⟨fin,D,E,v⟩:=λv w' hO U=>by
  refine⟨?_,?_,?_⟩
  .have h:=(ae.a.ext T).fr U λb G=>a0 b (ae.a.gO G).2
   rw[V];exact h
  .have h:=(ae.c.ext T).fr U λb G=>a0 b (ae.c.gO G).2
   rw[V];exact h
  .rw[V];exact hO.mono fy
 have aY:∀(v:i6) (w' X:i5),rj w' am.heap.size ⟨fin,D,E,v⟩->Fr (· =g.heap.size) H w'->Fr (· =M.heap.size) w' X->∃x',Value.tuple #[.agg (gB ⟨fin,D,E,v⟩).toArray,.I 0]= .tuple #[.agg (gB x').toArray,.I 0]/\x'.n=fin/\im X x'/\((0:Int)=0->rj X w.heap.size x')/\Ext w X:=λv w' X hO U aS=>by
  have aV:rj X am.heap.size ⟨fin,D,E,v⟩:=hO.fr aS λb G e=>by have:=hO.f b G;have:b=M.heap.size:=e;omega
  exact⟨⟨fin,D,E,v⟩,rfl,rfl,aV.in,(λ_=>aV.mono fy),(aK.trans U λj O e=>by have:j=g.heap.size:=e;omega).trans aS λj O e=>by have:j=M.heap.size:=e;omega⟩
 refine fA ?_;refine gC (α:=Nat×i6×ip hT) (λy=>[(1,.I size),(4,.P M.heap.size),(6,.P g.heap.size),(28,.slice ao L.length cL),(29,.I (L.length:Int)),(30,.I (y.1:Int))]) (CuS H g.heap.size fin D E L size) (λy=>L.length-y.1) (0,.slice none 0 0,[]) (sub ⟨rfl,rfl,rfl,rfl,rfl,rfl⟩) ⟨iF _,aI,Ow.nil _ _ _,gJ _,Fr.refl _ _,rfl⟩ ?_;rintro⟨i,v,out⟩ F ⟨hi,Z,K,bC,J,ak⟩;dsimp only at hi Z K bC J ak|-;have b5:=J.size;have aX:=bu.fr J (show ¬M.heap.size=g.heap.size by omega)
 by_cases fY:i<L.length
 .obtain⟨aF,op,p,rfl,bM,a2,aw,bx⟩:=aG.at_ (i:=i) fY;have az:=f6 p (jT a2);have bS:=rP.2 az.1;have bR:=oa (jT a2);have bG:∀k u,(kc p)[k]? =some u->gc F aF (op+i*2+k) u:=λk u hu=>J.cell (bx k u hu) (br aF op rfl fy)
  repeat' (first|refine gH i (op+i*2) fx fx fx fx fx fY ?_|refine fT ?_|fail)
  refine hV (cs:=kc p) fx fx bG ?_;refine gx (z:= .agg #[.I 0,.string ⟨#[]⟩]) fE (λb1 bd bm bU=>?_);refine gY (cs:=(kc p).toArray) bd fx fx fx fx (vL p) (λI aJ bp=>?_);have S:Ext F I:=Ext.te bm bp λj O e=>by have e':j=F.heap.size:=e;omega
  have q0:gc I F.heap.size 0 (.I p.pos):=aJ.cell 0;have q1:gc I F.heap.size 1 (.U p.data):=aJ.cell 1
  by_cases bB:size<=p.pos
  .have ay:out=gZ L 0 size:=by
    rw[ak,zt (l:=L.drop i),mR];rw[aw];have aB:=f5;unfold jB at aB;rw[<-mJ i L,aw]at aB;have R:=jA.1 (ke.1 aB).2.1;intro r aA;rcases iu.1 aA with rfl|aA
    .exact bB
    .have:=R.1 r aA;unfold gU at this;omega
   rw[ay]at K;have af:=aW v I (K.ext S) (J.te S);refine fA ?_;refine gR (t:=37) (Z.ext S) fx fx ?_;refine fA ?_;refine gY (aX.ext S) fx fx fE fx (fJ (l:=gB ⟨fin,D,E,v⟩) (ld.2 (W af.in))) (λaE aq au=>?_);refine fA ?_;exact hL fx fx fx aq fE (aY v I aE af (J.te S) au)
  .repeat' (first|refine iE fx fx ?_|refine HV ?_|fail)
   obtain⟨nl,bD⟩:∃nl:Nat,nl=(min (p.data.length:Int) (size-p.pos)).toNat:=⟨_,rfl⟩;have bE:nl<=p.data.length:=fy;rw[show min (p.data.length:Int) (size-p.pos)=(nl:Int)from by omega];obtain⟨C,a3⟩:∃C:hT,C=⟨p.pos,p.data.take nl⟩:=⟨_,rfl⟩;have bz:=Fr.drew hJ I;have aN:Ext F I.drew:=S.t bz;have aC:gc I.drew g.heap.size 8 v:=(Z.ext aN).cell 8;have bY:gc I.drew F.heap.size 0 (.I p.pos):=q0;have bZ:gc I.drew F.heap.size 1 (.U p.data):=q1;refine tY 11 [47] (λw'=>gc w' g.heap.size 8 v) fE (by decide+kernel) aC ?_
   repeat' (first|refine xI nl fx fx fx fx bE ?_|refine pG fx fx (λ_ h=>h) ?_|refine fT ?_|fail)
   refine oQ (parts:=[(0,.tmp 49),(1,.tmp 53)]) (cells:=(kc C).toArray) (vs:=[(0,.I C.pos),(1,.U C.data)]) (by rw[a3];rfl) fE ?_;refine fA ?_;refine nV ks fx fx fU fU (λbJ be aO bV=>?_) (λw' he=>he.cell aC);refine HE ?_;have ah:Ext F bJ:=aN.t aO;refine jH (B:=H.heap.size) (news:=kc C) ks fx fU fx (K.ext ah) fx (gQ be fU fx) fx (λu hu=>mh [_] u (by simpa using hu)) (by unfold maxLen;omega) fy (by have:=ah.size;omega) (λv17 a5 bs aQ _=>?_) (λw' U=>U.cell (aO.cell aC) λe=>by have:=(K.gO (b:=g.heap.size) e).1;omega);have av:Ow kc 2 a5 H.heap.size 39 v17 (out++[C]):=Ow.ext1 (l':=[C]) (by simpa using bs);obtain⟨an,qK,rfl,_,_⟩:=av.form;have bf:fW a5 g.heap.size 37 (gB ⟨fin,D,E,v⟩).toArray:=(Z.ext ah).fr aQ λe=>by have:=(K.gO e).1;omega
   refine lB ?_;refine fA ?_;refine ir bf fx fx fE fx fx (λa6 bg aR=>?_);have bh:fW a6 g.heap.size 37 (gB ⟨fin,D,E,.slice an (out++[C]).length qK⟩).toArray:=bg;have bt:Ow kc 2 a6 H.heap.size 39 (.slice an (out++[C]).length qK) (out++[C]):=av.fr aR λb G e=>by have:=(av.gO G).1;have:b=g.heap.size:=e;omega
   refine fA ?_;exact gl ⟨(i+1,.slice an (out++[C]).length qK,out++[C]),sub ⟨rfl,rfl,rfl,rfl,rfl,rfl⟩,⟨fY,bh,bt,by simp only[ib,AZ];omega,((J.te ah).trans aQ λj O e=>by have:=(K.gO e).1;omega).t aR,by rw[ak,aw,Sf az.2.1 az.1 fy,<-bD,<-a3];simp⟩,(by show L.length-(i+1)<L.length-i;omega)⟩
 .obtain rfl:i=L.length:=fy;have ay:out=gZ L 0 size:=by rw[ak,jP,zt (l:=[]) (λp bF=>by simp at bF),mR]
  rw[ay]at K;have af:=aW v F K J;refine fA ?_;refine gR (t:=37) Z fx fx ?_;refine fA ?_;refine gY aX fx fx fE fx (fJ (l:=gB ⟨fin,D,E,v⟩) (ld.2 (W af.in))) (λaE aq au=>?_);refine fA ?_;exact hL fx fx fx aq fE (aY v F aE af J au)
end
section
def tv (l:ip xB) (n:Nd):Nd:={n with attrs:=l}
def tR (l:ip Ac) (n:Nd):Nd:={n with acl:=l}
def MQ {l:ip Ac} (h:(j6 l).1=0):j6 l=qq lz acLt 16 l/\(qq lz acLt 16 l).1=0:=by
 unfold j6 at*;split at h
 .rename_i h1;exact absurd h h1
 .rename_i h1;split at h
  .cases h
  .rename_i d;rw[if_neg h1,if_neg d];exact⟨rfl,h⟩
def Rl {l:ip xB} (h:(mz l).1=0):(mz l).2.length<=1000000:=by
 obtain⟨h1,d⟩:=FW h;have:=h1.length_eq;unfold mz;omega
def Pj {l:ip Ac} (h:(j6 l).1=0):(j6 l).2.length<=1000000:=by
 obtain⟨h0,h⟩:=MQ h;obtain⟨h1,d⟩:=FW h;have:=h1.length_eq;rw[h0];omega
attribute [local irreducible] xs T
def Tp (w:i5) (b f:Nat) (y:gG) (v:i6) (l:ip xB) (g:fW w b 37 (gB y).toArray) (E:gc w f 0 v) (D:Rw jO w v l) (C:l.length<=100000):
  fQ prog 178 #[.P b,.P f] w λr w'=>∃d,r= .I (mz l).1/\fW w' b 37 (gB ⟨tv (mz l).2 y.n,d,y.vc,y.vd⟩).toArray/\Ow jO 2 w' w.heap.size 68 d (mz l).2/\Fr (· =b) w w':=by
 refine gP func178 fx fE ?_;refine fA ?_;refine fH fx fx (Jd w v l D C) (λr H h1=>?_);exact y14
def Jq (w:i5) (B g:Nat) (m:hA) (vf ve vn:i6) (fO:ip gG) (t:fZ) (p:fL) (v:i6) (l:ip xB) (h:nJ w B g m vf ve vn fO t) (hc:0<=m.calls/\m.calls<=4000000000000000000) (K:Rw jO w v l) (O:∀b,Sq v l b->b≠g) (u:l.length<=100000):
  fQ prog 118 #[.P g,.U p,v] w λr w'=>r= .I (nr m t p (λ_=>(mz l).1) (tv (mz l).2))/\∃E,iY w B g vf ve vn fO w' (gj m).2.2 (nL m t p (λ_=>(mz l).1) (tv (mz l).2)) ve vn E:=by
 refine kg func118 fx fE ?_;have V:=h.i.k.lt;have S:=h.b;obtain⟨A,c,ev,T,U,_⟩:=K.op jX;refine fA ?_;refine hP fx (λF H C W=>?_);have k1:F.cell? ⟨w.heap.size,0,none⟩=some v:=by rw[ev]at H|-;exact fW.cell H 0
 refine BR ?_
 have N:EdC F B g 178 #[.P w.heap.size] (λ_=>(mz l).1) (tv (mz l).2):=λQ b y D I G hO=>by
  have z2:=D.size;refine fQ.mono (Tp Q b w.heap.size y v l G (D.cell k1 (show ¬w.heap.size=g by omega)) ((K.ext C).uZ D λb I e=>O b I e) u) λr R ⟨X,h1,L,h3,x⟩=>⟨_,h1,λ_=>rfl,L,λ_=>?_,λb' f=>?_,x⟩
  .have J:∀b',(y.va.ownBlock=some b'\/y.vc.ownBlock=some b'\/y.vd.ownBlock=some b')->¬b'=b:=λb' f=>hO.ne G fU fU fU f
   exact⟨h3.mono fy,hO.c.fr x λb' f=>J b' (.inr (.inl f)),hO.d.fr x λb' f=>J b' (.inr (.inr f))⟩
  .rcases f with f|f|f
   .exact .inr (h3.gO f).1
   .exact .inl (.inr (.inl f))
   .exact .inl (.inr (.inr f))
 refine fI fx fx (rZ F B g m vf ve vn fO t p 178 #[.P w.heap.size] _ _ (h.ext C) hc fE N
  (λn u he=>⟨⟨Rl he,(h.i.l n u).c,(h.i.l n u).d⟩,h.i.s n u⟩)) ?_
 rintro r R ⟨rfl,E,M⟩;refine fA ?_;exact fB fx fx ⟨rfl,E,(iY.ext h C).t M⟩
def TI (w:i5) (b f:Nat) (y:gG) (v:i6) (l:ip Ac) (g:fW w b 37 (gB y).toArray) (E:gc w f 0 v) (D:Rw lA w v l) (C:l.length<=100000):
  fQ prog 180 #[.P b,.P f] w λr w'=>∃d,r= .I (j6 l).1/\fW w' b 37 (gB ⟨tR (j6 l).2 y.n,y.va,d,y.vd⟩).toArray/\Ow lA 3 w' w.heap.size 70 d (j6 l).2/\Fr (· =b) w w':=by
 refine gP func180 fx fE ?_;refine fA ?_;refine fH fx fx (KF w v l D C) (λr H h1=>?_);exact y14
def QE (w:i5) (B g:Nat) (m:hA) (vf ve vn:i6) (fO:ip gG) (t:fZ) (p:fL) (v:i6) (l:ip Ac) (h:nJ w B g m vf ve vn fO t) (hc:0<=m.calls/\m.calls<=4000000000000000000) (K:Rw lA w v l) (O:∀b,Sq v l b->b≠g) (u:l.length<=100000):
  fQ prog 119 #[.P g,.U p,v] w λr w'=>r= .I (nr m t p (λ_=>(j6 l).1) (tR (j6 l).2))/\∃E,iY w B g vf ve vn fO w' (gj m).2.2 (nL m t p (λ_=>(j6 l).1) (tR (j6 l).2)) ve vn E:=by
 refine kg func119 fx fE ?_;have V:=h.i.k.lt;have S:=h.b;obtain⟨A,c,ev,T,U,_⟩:=K.op j7;refine fA ?_;refine hP fx (λF H C W=>?_);have k1:F.cell? ⟨w.heap.size,0,none⟩=some v:=by rw[ev]at H|-;exact fW.cell H 0
 refine BR ?_
 have N:EdC F B g 180 #[.P w.heap.size] (λ_=>(j6 l).1) (tR (j6 l).2):=λQ b y D I G hO=>by
  have z2:=D.size;refine fQ.mono (TI Q b w.heap.size y v l G (D.cell k1 (show ¬w.heap.size=g by omega)) ((K.ext C).uZ D λb I e=>O b I e) u) λr R ⟨X,h1,L,h3,x⟩=>⟨_,h1,λ_=>rfl,L,λ_=>?_,λb' f=>?_,x⟩
  .have J:∀b',(y.va.ownBlock=some b'\/y.vc.ownBlock=some b'\/y.vd.ownBlock=some b')->¬b'=b:=λb' f=>hO.ne G fU fU fU f
   exact⟨hO.a.fr x λb' f=>J b' (.inl f),h3.mono fy,hO.d.fr x λb' f=>J b' (.inr (.inr f))⟩
  .rcases f with f|f|f
   .exact .inl (.inl f)
   .exact .inr (h3.gO f).1
   .exact .inl (.inr (.inr f))
 refine fI fx fx (rZ F B g m vf ve vn fO t p 180 #[.P w.heap.size] _ _ (h.ext C) hc fE N
  (λn u he=>⟨⟨(h.i.l n u).a,Pj he,(h.i.l n u).d⟩,h.i.s n u⟩)) ?_
 rintro r R ⟨rfl,E,M⟩;refine fA ?_;exact fB fx fx ⟨rfl,E,(iY.ext h C).t M⟩
end
section
section
variable {hs:ip Nat} {H:i5->Prop} {full:Array li} {K:Env->i5->Prop} {ii:ip li} {Y:Env} {w:i5} {d:Tmp} {R:i9} {pos:String} {af:Array Edge}
def Np {size:Nat} {css:ip (ip i6)} (f:∀cs∈css,cs.length=size) (h0:0<size) (init:Array i6) (hi:init.size=css.length*size):Instr.fill (λi=>some (i*size,size)) init ((css.zipIdx 0).map λx=>(x.2,Value.agg x.1.toArray))=some css.flatten.toArray:=by
 obtain⟨r,m,D,hk⟩:=Great.fill_dense (s:=size) h0 (css.map λcs=>Value.agg cs.toArray) 0 init (λv B=>by
  obtain⟨cs,d,rfl⟩:=lp.1 B
  exact f cs d) (by rw[hi,jv];simp)
 have n:(((css.map λcs=>Value.agg cs.toArray).zipIdx 0).map λx=>(x.2,x.1))=((css.zipIdx 0).map λx=>(x.2,Value.agg x.1.toArray)):=by
  rw[List.zipIdx_map,rN];rfl
 rw[n]at m;rw[m]
 congr 1
 have w:∀(l:ip (ip i6)),(∀cs∈l,cs.length=size)->l.flatten.length=l.length*size:=by
  intro l
  induction l with
  |nil=>intro _;simp
  |cons x l g=>intro h;rw[List.flatten_cons,ib,g (λcs d=>h cs (by simp[d])),h x iB,iP,sc];omega
 have y:∀(l:ip (ip i6)),(∀cs∈l,cs.length=size)->∀k,k<l.length*size->l.flatten[k]? =(l[k/size]?).bind λcs=>cs[k% size]? :=by
  intro l
  induction l with
  |nil=>intro _ k hk;simp at hk
  | cons x l g=>
   intro h k hk;have C:=h x iB;rw[List.flatten_cons]
   by_cases fY:k<size
   .rw[rk fy,LV fY,uJ fY];rfl
   .rw[iP,sc]at hk;rw[tk fy,C,g (λcs d=>h cs (by simp[d])) (k-size) fy]
    have t:k/size=(k-size)/size+1:=by
     rw[<-Nat.add_div_right _ h0,V1 fy]
    have u:k% size=(k-size)% size:=by
     conv=>lhs;rw[<-V1 (show size<=k by omega),Nat.add_mod_right]
    rw[t,u];rfl
 apply WG;intro k;rw[hk k,jv];simp only[tN,iF,true_and,iM,Mz,po]
 by_cases fY:k<css.length*size
 .rw[if_pos fY,y css f k fY,qX];cases css[k/size]? with
  |none=>rfl
  |some cs=>simp[Value.cells]
 .rw[if_neg fY,FB fy,x0 (by rw[w css f];omega)]
def evz (Y:Env):Nat->ip (Nat×i7)->Option (ip (ip i6))
 |_,[]=>some []
 |k,(j,x)::r=>match Nat.beq j k,gh Y x,evz Y (k+1) r with
  |true,some (.agg cs),some css=>some (cs.toList::css)
  |_,_,_=>none
theorem Hg:∀{l:ip (Nat×i7)} {k:Nat} {css:ip (ip i6)},evz Y k l=some css->(l.map λp=>(p.1,ev Y p.2))=(css.zipIdx k).map (λx=>(x.2,Value.agg x.1.toArray))/\∀p∈l,(gh Y p.2).isSome=true
 |[],k,css,h=>by injection h with h;subst h;exact⟨rfl,by simp⟩
 | (j,x)::r,k,css,h=>by
  simp only[evz]at h;split at h
  .rename_i cs u g d t;injection h with h;subst h
   obtain⟨h1,f⟩:=Hg t;have m:=jq g;subst m;refine⟨by simp[fR d,h1,G9],λp n=>(iu.1 n).elim (λe=>by rw[e,d];rfl) (f p)⟩
  .cases h
def adh {t e:i9} {z:i6} {size bytes n:Nat} {parts:ip (Nat×i7)} {css:ip (ip i6)} (u:x4 t e z size bytes) (f:evz Y 0 parts=some css) (C:∀cs∈css,cs.length=size) (B:css.length=n) (h0:0<size) (h1:0<n) (J:n*size<=10000)
  (h:∀w',fW w' w.heap.size e css.flatten.toArray->Ext w w'->w'.heap.size=w.heap.size+1->xs prog fD fC hs H full K ii ((d,.S w.heap.size 0 n n)::Y) w') (hH:∀w',Ext w w'->H w':=by intros;trivial):
  xs prog fD fC hs H full K (⟨some d,.buildSlice t n parts.toArray,R,pos,af,none⟩::ii) Y w:=by
 obtain⟨hu,i,hi,F,g,G⟩:=u;obtain⟨he,D⟩:=Hg f;refine xw (by simp only[gd,Op.operands];rw[ld];intro x f;simp at f;obtain⟨j,y⟩:=f;exact D _ y) fx (v:= .S w.heap.size 0 n n) (w':=w.alloc (.cells css.flatten.toArray e)) ?_ (h _ (fW.new _ _ _) (Fr.alloc _ _ _) iB) (hH _ (Fr.alloc _ _ _));have I:n<=n*size:=SF n h0
 have E:=run_buildSlice (P:=prog) w t e n ((parts.map λp=>(p.1,ev Y p.2)).toArray) css.flatten.toArray i z hu hi F (by rw[g];omega) (by rw[g];have:0<n*size:=Lq h1 h0;omega) (by
  rw[g];show Instr.fill _ _ (parts.map λp=>(p.1,ev Y p.2))=_
  rw[he]
  exact Np C h0 _ (by simp[B]))
 have m:(parts.toArray.map λx=>match x with|(i,x)=>(i,ev Y x))=(parts.map λp=>(p.1,ev Y p.2)).toArray:=by simp
 simp only[execOp];rw[m];simp[E]
end
attribute [local irreducible] xs T
def WL (k:Nat):ip i6:=[.I (k:Int)]
def Vz (k:Nat):(WL k).length=1:=rfl
theorem js (h:fG n=true):fF n.data<=4000/\n.target.length<=200:=by
 by_cases d:n.kind=2
 .have f:=iX h d;have:=(kH n).1 f;refine⟨this.2.2.2.1,?_⟩;unfold fG at h;rw[d]at h;simp[jz]at h;rw[h.2.1.2];simp
 .have key:n.data=[]/\n.target.length<=200:=by
   unfold fG at h;rw[if_neg d]at h;split at h
   .simp[iv,jz]at h;exact⟨h.2.1.1.2,by rw[h.2.1.2];simp⟩
   .split at h
    .simp[iv]at h;exact⟨h.2.1.1.1.1.2,h.2.1.2⟩
    .split at h
     .simp[iv,jz]at h;exact⟨h.2.1.1.1.1.1.2,by rw[h.2.1.1.1.1.2];simp⟩
     .simp at h
  rw[key.1];exact⟨by simp[fF],key.2⟩
structure MkW where
 i:Nat
 m:uW
 va:Value
 vf:Value
 ve:Value
 vn:Value
 nv:List gG
structure Yh (zs:List Int) (w0:World) (g3:Nat) (x:MkW) (w:World):Prop where
 ext:Ext w0 w
 i:x.i<=zs.length/\x.i<=25
 m:x.m=((zs.take x.i).map uN).foldl hX mj
 res:fW w w0.heap.size 26 #[.slice none 0 0,.slice none 0 0]
 xP:fW w g3 26 #[x.ve,x.vn]
 oe:Ow hR 2 w w0.heap.size 49 x.ve x.m.es
 on:Ow gB 12 w w0.heap.size 37 x.vn x.nv
 od:Ow qM 1 w w0.heap.size 9 x.va x.m.hx
 of:Ow WL 1 w w0.heap.size 3 x.vf x.m.files
 nd:x.nv.map (·.n)=x.m.ns
 Lt:∀y∈x.nv,Nj w y
def Yh.ext' {zs:ip Int} {x:MkW} (h:Yh zs w0 g3 x w) (d:Ext w w'):Yh zs w0 g3 x w':=
 ⟨h.ext.t d,h.i,h.m,h.res.ext d,h.xP.ext d,h.oe.ext d,h.on.ext d,h.od.ext d,h.of.ext d,h.nd,λy f=>(h.Lt y f).ext d⟩
structure vD (w0:World) (g3:Nat) (m:uW) (va vf ve vn:Value) (nv:List gG) (w:World):Prop where
 ext:Ext w0 w
 res:fW w w0.heap.size 26 #[.slice none 0 0,.slice none 0 0]
 xP:fW w g3 26 #[ve,vn]
 oe:Ow hR 2 w w0.heap.size 49 ve m.es
 on:Ow gB 12 w w0.heap.size 37 vn nv
 od:Ow qM 1 w w0.heap.size 9 va m.hx
 of:Ow WL 1 w w0.heap.size 3 vf m.files
 nd:nv.map (·.n)=m.ns
 Lt:∀y∈nv,Nj w y
def vD.ext' {va vf ve vn:i6} {nv:ip gG} (h:vD w0 g3 m va vf ve vn nv w) (d:Ext w w'):vD w0 g3 m va vf ve vn nv w':=
 ⟨h.ext.t d,h.res.ext d,h.xP.ext d,h.oe.ext d,h.on.ext d,h.od.ext d,h.of.ext d,h.nd,λy f=>(h.Lt y f).ext d⟩
def vD.node {g12:Nat} {va vf ve vn:i6} {nv:ip gG} {cs:Array i6} (h:vD w0 g3 m va vf ve vn nv w) (n:fW w g12 37 cs) (h0:w0.heap.size<g12) (v:∀b,vn.ownBlock=some b->b<g12) (f:Fr (· =g12) w w'):vD w0 g3 m va vf ve vn nv w':=by
 have g:∀{b:Nat} {t:i9} {c:Array i6},fW w b t c->t≠37->¬b=g12:=λd ht e=>d.Dm n ht e
 refine⟨h.ext.trans f λj u e=>absurd u fy,h.res.fr f (show ¬w0.heap.size=g12 by omega),h.xP.fr f (g h.xP fU),h.oe.fr f λb d=>?_,h.on.fr f λb d=>?_,h.od.fr f λb d=>?_,h.of.fr f λb d=>?_,h.nd,λy x=>(h.Lt y x).fr f (rh.one n fU)⟩
 .obtain⟨c,hc⟩:=h.oe.za d;exact g hc fU
 .have:=v b d;show ¬b=g12;omega
 .obtain⟨c,hc⟩:=h.od.za d;exact g hc fU
 .obtain⟨c,hc⟩:=h.of.za d;exact g hc fU
structure FJ (g12:Nat) (x:gG) (n:Nd) (w:World):Prop where
 gO:fW w g12 37 (gB x).toArray
 k:Nj w x
 n:x.n=n
def FJ.ext {g12:Nat} {x:gG} {n:Nd} {w w':i5} (h:FJ g12 x n w) (d:Ext w w'):FJ g12 x n w':=⟨h.gO.ext d,h.k.ext d,h.n⟩
def oj {u:Nat} {p:fL} (v:nO (m.hx.getD (u% m.hx.length) []) (hY.getD (u/7% 7) [])=some p) (t:(fK m.es p).isSome=false) {ds:ip fL} {fs:ip Nat}
  (h:(u/3% 9<2/\n={mkNode u with kind:=1}/\ds=m.hx++[p]/\fs=m.files)\/(¬u/3% 9<2/\¬(u/3% 9=2/\0<m.files.length)/\ds=m.hx/\
   ((u/3% 9=3/\n={mkNode u with kind:=3,target:=[46,46,47]++p}/\fs=m.files)\/(u/3% 9≠3/\u/3% 9=4/\n={mkNode u with kind:=4,major:=(u% 300:Nat),minor:=(u/2% 300:Nat)}/\fs=m.files)\/
    (u/3% 9≠3/\u/3% 9≠4/\u/3% 9=5/\n={mkNode u with kind:=6}/\fs=m.files)\/(u/3% 9≠3/\u/3% 9≠4/\u/3% 9≠5/\n=oH u p (mkNode u)/\fs=m.files++[m.ns.length])))):
  hX m u=⟨m.es++[⟨p,(m.ns.length:Int)⟩],m.ns++[n],ds,fs⟩:=by
 unfold hX;rw[v];dsimp only;rw[if_neg (by rw[t];decide)];rcases h with⟨h1,rfl,rfl,rfl⟩|⟨h1,g,rfl,h⟩
 .rw[if_pos h1];rfl
 .rw[if_neg h1,if_neg g];rcases h with⟨h3,rfl,rfl⟩|⟨h3,d,rfl,rfl⟩|⟨h3,d,f,rfl,rfl⟩|⟨h3,d,f,rfl,rfl⟩
  .rw[if_pos h3];rfl
  .rw[if_neg h3,if_pos d];rfl
  .rw[if_neg h3,if_neg d,if_pos f];rfl
  .rw[if_neg h3,if_neg d,if_neg f];rfl
end
section
attribute [local irreducible] xs T
def MkD:Prop:=∀(w:i5) (v:i6) (zs:ip Int),qW w v zs->fQ prog 7 #[v] w λr w'=>∃ve vn fO,r= .agg #[ve,vn]/\mE w' ve vn fO (Nr (zs.map uN))/\Ext w w'
theorem w3 (h:gM t=true):∀n∈t.ns,fG n=true:=by
 obtain⟨es,ns⟩:=t;unfold gM at h;simp only[iU,decide_eq_true_eq]at h;have:=((jo ns es none 0 (iF _)).1 h.1.1.2).2.2.2.1;intro n f;obtain⟨i,hi,rfl⟩:=BV f;have d:=this i (iF _) hi;rwa[kW,j9 hi]at d
def Di (h:fG n=true):GZ n:=by
 have hm:hd n=true:=by
  unfold fG at h;rw[iU]at h;exact h.1
 unfold hd om at hm;simp only[iU,decide_eq_true_eq]at hm;refine⟨fy,by omega,?_⟩
 by_cases d:n.kind=2
 .have:=(u5 (iX h d)).2.2.2.2;omega
 .have f:=(js h).1
  have key:n.data=[]:=by
   unfold fG at h;rw[if_neg d]at h;split at h
   .simp[iv,jz]at h;exact h.2.1.1.2
   .split at h
    .simp[iv]at h;exact h.2.1.1.1.1.2
    .split at h
     .simp[iv,jz]at h;exact h.2.1.1.1.1.1.2
     .simp at h
  rw[key];exact iF _
def Em (h:gM t=true):uV t.ns/\(∀n∈t.ns,GZ n)/\H8 t:=by
 have f:=w3 h;have h1:uV t.ns:=λn d=>by have:=(js (f n d)).1;omega
 exact⟨h1,λn d=>Di (f n d),⟨h1,λn d=>by have:=(js (f n d)).2;omega,λe he=>by have:=kO (wU h e he);omega⟩⟩
theorem zF (h:gM t=true):t.ns.length<=t.es.length:=by
 rw[<-DL h]
 have key:∀(l:ip En) (u:Nat),kE u l<=u+l.length:=by
  intro l
  induction l with
  |nil=>intro u;exact gJ _
  |cons e l f=>
   intro u;rw[kE];have:=f (if e.node<u then u else u+1);rw[iP];split at this<;>rename_i d
   .rw[if_pos d];omega
   .rw[if_neg d];omega
 have:=key t.es 0;omega
def yt (h:gM t=true):1<=t.es.length:=by
 unfold gM at h;simp only[iU,decide_eq_true_eq]at h;exact h.1.1.1.1
end
section
def kN (k:Int):Nd:=⟨k,0,0,0,0,[],[],0,[],[],0,0⟩
def kV (k:Int):gG:=⟨kN k,.slice none 0 0,.slice none 0 0,.slice none 0 0⟩
def Wi (w:i5) (k:Int):im w (kV k):=⟨Rw.nil _ _ fU,Rw.nil _ _ fU,Rw.nil _ _ fU⟩
def Xo (k:Int) (b:Nat):¬Vx (kV k) b:=λh=>by rcases h with h|h|h<;>exact absurd h.1 (by show ¬0<0;decide)
attribute [local irreducible] xs T
