/- Parts of the proof. -/
import Derived.Test.YtecaahegomdbbaaGreatDoorRmB4a
set_option linter.all false
set_option maxRecDepth 99999
set_option maxHeartbeats 0
namespace Go.Proofs.YtecaahegomdbbaaGreatDoor.gr
open Go.Proofs.Tryz
open Go.RowKit
section
attribute [local irreducible] xs T
def NN (w:i5) (a:Ac):fQ prog 230 #[.agg (lA a).toArray] w λr w'=>r= .bool (lz a)/\Ext w w':=by
 refine gD func230 fx fE ?_;refine fA ?_;refine hP fx (λd m g n=>?_);have f:fW d w.heap.size 70 #[.I a.kind,.I a.id,.I a.perm]:=m;have k0:gc d w.heap.size 0 (.I a.kind):=f.cell 0;have k1:gc d w.heap.size 1 (.I a.id):=f.cell 1;have k2:gc d w.heap.size 2 (.I a.perm):=f.cell 2
 repeat' (first|refine fT ?_|refine lj fx fx (λhc=>?_) (λhc=>?_)|refine lg fx fx (λhc=>?_) (λhc=>?_)|refine lq fx fx (λhc=>?_) (λhc=>?_)|refine lh fx fx (λhc=>?_) (λhc=>?_)|refine lv fx fx (λhc=>?_) (λhc=>?_)|refine lf fx fx (λhc=>?_) (λhc=>?_)|fail)
 all_goals first|exact fB rfl rfl ⟨pe (uU a) fy,g⟩|exact fB rfl rfl ⟨pt (uU a) fy,g⟩
def Hs (a b:Ac):acLt a b=true↔a.kind<b.kind\/(a.kind=b.kind/\a.id<b.id):=by
 simp only[acLt,uf,iU,decide_eq_true_eq]
def BT (w:i5) (a b:Ac):fQ prog 231 #[.agg (lA a).toArray,.agg (lA b).toArray] w λr w'=>r= .bool (acLt a b)/\Ext w w':=by
 refine gP func231 fx fE ?_;refine fA ?_;refine hP fx (λf v y E=>?_);refine fA ?_;refine hP fx (λd x u F=>?_);have n:=y.t u;have g:fW d w.heap.size 70 #[.I a.kind,.I a.id,.I a.perm]:=v.ext u;have m:fW d f.heap.size 70 #[.I b.kind,.I b.id,.I b.perm]:=x;have a0:gc d w.heap.size 0 (.I a.kind):=g.cell 0;have B:gc d w.heap.size 1 (.I a.id):=g.cell 1;have C:gc d f.heap.size 0 (.I b.kind):=m.cell 0;have D:gc d f.heap.size 1 (.I b.id):=m.cell 1
 repeat' (first|refine fT ?_|refine lj fx fx (λhc=>?_) (λhc=>?_)|refine lg fx fx (λhc=>?_) (λhc=>?_)|refine lq fx fx (λhc=>?_) (λhc=>?_)|refine lh fx fx (λhc=>?_) (λhc=>?_)|refine lv fx fx (λhc=>?_) (λhc=>?_)|refine lf fx fx (λhc=>?_) (λhc=>?_)|fail)
 all_goals first|exact fB rfl rfl ⟨pe (Hs a b) fy,n⟩|exact fB rfl rfl ⟨pt (Hs a b) fy,n⟩
def AJ (l:ip Ac):Bool:=!(l.any λa=>decide (a.kind=3))&&decide (l≠[])
def GF (w:i5) (v:i6) (l:ip Ac) (n:Rw lA w v l):fQ prog 232 #[v] w λr w'=>r= .bool (AJ l)/\w=w':=by
 refine gD func232 fx fE ?_;obtain⟨A,c,rfl,t,u,f⟩:=n.op j7;unfold AJ;refine fA ?_;refine gC (α:=Nat) (λi=>[(0,.slice A l.length c),(3,.I (i:Int))]) (λi w'=>w=w'/\i<=l.length/\((l.drop i).any λa=>decide (a.kind=3))=l.any λa=>decide (a.kind=3)) (λi=>l.length-i) 0 (sub ⟨rfl,rfl⟩) ⟨rfl,iF _,rfl⟩ ?_;rintro i w' ⟨rfl,hi,d⟩
 by_cases fY:i<l.length
 .obtain⟨b,o,x,rfl,_,y,m,g⟩:=f.at_ fY;rw[m,List.any_cons]at d;have k0:gc w b (o+i*3+0) (.I x.kind):=g 0 _ rfl
  by_cases h:x.kind=3
  .rw[decide_eq_true h,MD]at d;refine GR ?_;exact fB fx fx ⟨by rw[<-d];rfl,rfl⟩
  .rw[decide_eq_false h,CQ]at d;refine GR ?_;exact gl ⟨i+1,sub ⟨rfl,rfl⟩,⟨rfl,fy,d⟩,(by show l.length-(i+1)<l.length-i;omega)⟩
 .obtain rfl:i=l.length:=fy;rw[jP]at d;rw[<-d]
  by_cases h0:l.length=0
  .have e0:l=[]:=zT.1 h0;refine fA ?_;exact fB fx fx ⟨by simp[e0],rfl⟩
  .have e0:l≠[]:=λe=>h0 (by rw[e];rfl)
   refine fA ?_;exact fB fx fx ⟨by simp[e0],rfl⟩
def R8 (l:ip Ac):om l=(jw lz acLt none l&&(decide (l.length<=16)&&!AJ l)):=by
 rw[om,rD,AJ];cases decide (l.length<=16)<;>cases l.all lz<;>cases kX acLt none l<;>by_cases h:l=[]<;>simp[h]
def Fx (w:i5) (v:i6) (l:ip Ac) (K:Rw lA w v l):fQ prog 167 #[v] w λr w'=>r= .bool (om l)/\Ext w w':=by
 refine gD func167 fx fE ?_;obtain⟨A,c,rfl,Y,Z,F⟩:=K.op j7;rw[R8];refine fA ?_;refine gC (α:=Nat) (λi=>[(0,.slice A l.length c),(3,.I (i:Int))]) (λi w'=>Ext w w'/\i<=l.length/\jw lz acLt (h6 l i) (l.drop i)=jw lz acLt none l) (λi=>l.length-i) 0 (sub ⟨rfl,rfl⟩) ⟨Fr.refl _ _,iF _,rfl⟩ ?_;rintro i D ⟨g,hi,f⟩
 by_cases fY:i<l.length
 .obtain⟨b,o,x,rfl,_,U,aa,R⟩:=F.at_ fY;rw[qj U]at f;have L:∀j u,(lA x)[j]? =some u->gc D.drew b (o+i*3+j) u:=λj u hu=>g.cell (R j u hu)
  refine GR ?_;refine hV (cs:=lA x) fx fx L ?_;refine fH fx fx (NN D.drew x) (λr m C=>?_);obtain⟨rfl,H⟩:=C;have n:Ext w m:=g.d.t H;cases I:lz x with
  |false=>
   rw[I,hW,hW]at f;refine fA ?_;exact fB fx fx ⟨by rw[<-f];rfl,n⟩
  | true=>
   rw[I,iV]at f;cases i with
   |zero=>
    have f:jw lz acLt (h6 l (0+1)) (l.drop (0+1))=jw lz acLt none l:=by simpa[h6]using f
    refine fA ?_;exact gl ⟨0+1,sub ⟨rfl,rfl⟩,⟨n,fy,f⟩,(by show l.length-(0+1)<l.length-0;omega)⟩
   | succ k=>
    obtain⟨y,M⟩:∃y,l[k]? =some y:=⟨_,j9 fy⟩;have T:h6 l (k+1)=some y:=M;rw[T]at f;dsimp only at f;obtain⟨b',o',ab,e',_,B,_,S⟩:=F.at_ (i:=k) fy;injection e' with e'
    injection e' with N O
    subst N;subst O;rw[M]at B;injection B with B
    subst B;have W:∀j u,(lA y)[j]? =some u->gc m b (o+k*3+j) u:=λj u hu=>n.cell (S j u hu)
    have V:∀j u,(lA x)[j]? =some u->gc m b (o+(k+1)*3+j) u:=λj u hu=>H.cell (L j u hu)
    repeat' (first|refine gH k (o+k*3) fx fx fx fy fx fy ?_|refine fT ?_|fail)
    refine hV (cs:=lA y) fx fx W ?_
    repeat' (first|refine gH (k+1) (o+(k+1)*3) fx fx fx fx fx fY ?_|refine fT ?_|fail)
    refine hV (cs:=lA x) fx fx V ?_;refine fA ?_;refine fH fx fx (BT m y x) (λr X h3=>?_);obtain⟨rfl,Q⟩:=h3;have G:Ext w X:=n.t Q;cases J:acLt y x with
    |false=>
     rw[J,hW]at f;refine fA ?_;exact fB fx fx ⟨by rw[<-f];rfl,G⟩
    |true=>
     rw[J,iV]at f;refine fA ?_;exact gl ⟨k+1+1,sub ⟨rfl,rfl⟩,⟨G,fy,f⟩,(by show l.length-(k+1+1)<l.length-(k+1);omega)⟩
 .obtain rfl:i=l.length:=fy;rw[jP]at f;rw[<-f]
  by_cases E:l.length<=16
  .rw[decide_eq_true E,iV];refine fA ?_;refine fH fx fx (GF D _ l (K.ext g)) (λr m C=>?_);obtain⟨rfl,rfl⟩:=C;cases hm:AJ l with
   |true=>
    exact y36
   |false=>
    exact y36
  .rw[decide_eq_false E];exact y36
def Ji (w:i5) (a:xB):fQ prog 166 #[.agg (jO a).toArray] w λr w'=>r= .bool (j4 a)/\Ext w w':=by
 refine gD func166 fx fE ?_;refine fA ?_;refine hP fx (λd m g n=>?_);have f:fW d w.heap.size 68 #[.U a.name,.U a.value]:=m;have k0:gc d w.heap.size 0 (.U a.name):=f.cell 0;have k1:gc d w.heap.size 1 (.U a.value):=f.cell 1
 repeat' (first|refine ie fx fx ?_|refine iE fx fx ?_|refine fT ?_|refine lj fx fx (λhc=>?_) (λhc=>?_)|refine lg fx fx (λhc=>?_) (λhc=>?_)|refine lq fx fx (λhc=>?_) (λhc=>?_)|refine lh fx fx (λhc=>?_) (λhc=>?_)|refine lv fx fx (λhc=>?_) (λhc=>?_)|refine lf fx fx (λhc=>?_) (λhc=>?_)|fail)
 all_goals first|exact fB rfl rfl ⟨pe (sw a) fy,g⟩|exact fB rfl rfl ⟨pt (sw a) fy,g⟩
def PT (a b:fL):(Op.bytesLess a b||decide (a=b))=!Op.bytesLess b a:=by
 by_cases e:a=b
 .subst e;simp[si]
 .rcases ux a b e with h|h
  .rw[h,MC h];rfl
  .rw[h,MC h];simp[e]
def zf (n:Nd):Bool:=decide (0<=n.mode)&&decide (n.mode<=4095)&&v8 n.uid&&v8 n.gid&&decide (0<=n.time)&&decide (n.attrs.length<=8)
def Kz (n:Nd):hd n=(jw j4 ki none n.attrs&&(zf n&&om n.acl)):=by
 rw[Dl,zf];cases jw j4 ki none n.attrs<;>simp[L8]
def Cs (n:Nd):zf n=true↔0<=n.mode/\n.mode<=4095/\0<=n.uid/\n.uid<=2147483647/\0<=n.gid/\n.gid<=2147483647/\0<=n.time/\n.attrs.length<=8:=by
 simp only[zf,v8,iU,decide_eq_true_eq,and_assoc]
def Pz {n:Nd} (q:Bool) (h:¬(0<=n.mode/\n.mode<=4095/\0<=n.uid/\n.uid<=2147483647/\0<=n.gid/\n.gid<=2147483647/\0<=n.time/\n.attrs.length<=8)):Value.bool false= .bool (zf n&&q):=by
 cases hm:zf n with
 |false=>rfl
 |true=>exact absurd ((Cs n).1 hm) h
def BF (w:i5) (x:gG) (Q:im w x):fQ prog 104 #[.agg (qV x).toArray] w λr w'=>r= .bool (hd x.n)/\Ext w w':=by
 refine gD func104 fx fE ?_;rw[Kz];refine fA ?_;refine hP fx (λG W C ag=>?_);have B:fW G w.heap.size 34 #[.I x.n.mode,.I x.n.uid,.I x.n.gid,.I x.n.time,x.va,x.vc]:=W;obtain⟨A,c,V,X,ae,H⟩:=Q.a.op jX;have k4:G.cell? ⟨w.heap.size,4,none⟩=some (.slice A x.n.attrs.length c):=by rw[<-V];exact B.cell 4
 obtain⟨l,L⟩:∃l,l=x.n.attrs:=⟨_,rfl⟩;rw[<-L]at H X k4|-;refine fA ?_;refine gC (α:=Nat) (λi=>[(1,.P w.heap.size),(3,.I (i:Int))]) (λi w'=>Ext G w'/\i<=l.length/\jw j4 ki (h6 l i) (l.drop i)=jw j4 ki none l) (λi=>l.length-i) 0 (sub ⟨rfl,rfl⟩) ⟨Fr.refl _ _,iF _,rfl⟩ ?_;rintro i g ⟨m,hi,f⟩;have m4:gc g w.heap.size 4 (.slice A l.length c):=m.cell k4;have ah:gc g.drew w.heap.size 4 (.slice A l.length c):=m4
 by_cases fY:i<l.length
 .obtain⟨b,o,y,rfl,_,ab,af,N⟩:=H.at_ fY;rw[qj ab]at f;have ad:∀j u,(jO y)[j]? =some u->gc g.drew b (o+i*2+j) u:=λj u hu=>m.cell (C.cell (N j u hu))
  refine zD ?_;refine hV (cs:=jO y) fx fx ad ?_;refine fH fx fx (Ji g.drew y) (λr D h3=>?_);obtain⟨rfl,I⟩:=h3;have v:Ext G D:=m.d.t I;cases O:j4 y with
  |false=>
   rw[O,hW,hW]at f;refine fA ?_;exact fB fx fx ⟨by rw[<-f];rfl,C.t v⟩
  | true=>
   rw[O,iV]at f;cases i with
   |zero=>
    have f:jw j4 ki (h6 l (0+1)) (l.drop (0+1))=jw j4 ki none l:=by simpa[h6]using f
    refine fA ?_;exact gl ⟨0+1,sub ⟨rfl,rfl⟩,⟨v,fy,f⟩,(by show l.length-(0+1)<l.length-0;omega)⟩
   | succ k=>
    obtain⟨z,R⟩:∃z,l[k]? =some z:=⟨_,j9 fy⟩;have aa:h6 l (k+1)=some z:=R;rw[aa]at f;dsimp only at f;obtain⟨b',o',ak,e',_,F,_,Y⟩:=H.at_ (i:=k) fy;injection e' with e'
    injection e' with S U
    subst S;subst U;rw[R]at F;injection F with F
    subst F;have aj:gc D w.heap.size 4 (.S b o l.length c):=v.cell k4;have n1:gc D b (o+k*2+0) (.U z.name):=v.cell (C.cell (Y 0 _ rfl));have ai:gc D b (o+(k+1)*2+0) (.U y.name):=v.cell (C.cell (N 0 _ rfl));cases E:ki z y with
    |false=>
     rw[E,hW]at f;have K:Op.bytesLess z.name y.name=false:=E
     repeat' (first|refine gH (k+1) (o+(k+1)*2) fx fx fx fx fx fY ?_|refine gH k (o+k*2) fx fx fx fy fx fy ?_|refine gk (op:= .leq) (r:=true) fx fx (by rw[hG,PT,K];rfl) ?_|refine fT ?_|fail)
     exact fB fx fx ⟨by rw[<-f];rfl,C.t v⟩
    |true=>
     rw[E,iV]at f;have K:Op.bytesLess z.name y.name=true:=E
     repeat' (first|refine gH (k+1) (o+(k+1)*2) fx fx fx fx fx fY ?_|refine gH k (o+k*2) fx fx fx fy fx fy ?_|refine gk (op:= .leq) (r:=false) fx fx (by rw[hG,PT,K];rfl) ?_|refine fT ?_|fail)
     exact gl ⟨k+1+1,sub ⟨rfl,rfl⟩,⟨v,fy,f⟩,(by show l.length-(k+1+1)<l.length-(k+1);omega)⟩
 .have Z:i=l.length:=fy;subst Z;rw[jP]at f;rw[<-f];show T prog _ (λr w'=>r= .bool (zf x.n&&om x.n.acl)/\Ext w w') _ _ _
  have m0:gc g w.heap.size 0 (.I x.n.mode):=(B.ext m).cell 0;have m1:gc g w.heap.size 1 (.I x.n.uid):=(B.ext m).cell 1;have m2:gc g w.heap.size 2 (.I x.n.gid):=(B.ext m).cell 2;have m3:gc g w.heap.size 3 (.I x.n.time):=(B.ext m).cell 3;have m5:gc g w.heap.size 5 x.vc:=(B.ext m).cell 5;have J:=C.t m
  by_cases hq:0<=x.n.mode/\x.n.mode<=4095/\0<=x.n.uid/\x.n.uid<=2147483647/\0<=x.n.gid/\x.n.gid<=2147483647/\0<=x.n.time/\x.n.attrs.length<=8
  .rw[(Cs x.n).2 hq,iV];have M:=hq;rw[<-L]at M;refine fA ?_;refine fH fx fx (Fx g x.vc x.n.acl (Q.c.ext J)) (λr D h3=>?_);obtain⟨rfl,I⟩:=h3;refine fA ?_;exact fB fx fx ⟨rfl,J.t I⟩
  .have M:=hq;rw[<-L]at M
   repeat' (first|refine fT ?_|refine lj fx fx (λhc=>?_) (λhc=>?_)|refine lg fx fx (λhc=>?_) (λhc=>?_)|refine lq fx fx (λhc=>?_) (λhc=>?_)|refine lh fx fx (λhc=>?_) (λhc=>?_)|refine lv fx fx (λhc=>?_) (λhc=>?_)|refine lf fx fx (λhc=>?_) (λhc=>?_)|fail)
   all_goals first|exact fB rfl rfl ⟨Pz _ hq,J⟩|(exfalso;omega)
