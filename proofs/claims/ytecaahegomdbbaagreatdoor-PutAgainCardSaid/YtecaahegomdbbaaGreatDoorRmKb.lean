/- Parts of the proof. -/
import Derived.Test.YtecaahegomdbbaaGreatDoorRmB4b
set_option linter.all false
set_option maxRecDepth 99999
set_option maxHeartbeats 0
namespace Go.Proofs.YtecaahegomdbbaaGreatDoor.gr
open Go.Proofs.Tryz
open Go.RowKit
variable {i:Nat}
section
section
variable {hs:ip Nat} {H:i5->Prop} {full:Array li} {K:Env->i5->Prop} {ii:ip li} {Y:Env} {w:i5} {d:Tmp} {R:i9} {pos:String} {af:Array Edge}
def Z8 {t e:i9} {z:i6} {size bytes m c:Nat} {s x:i7} {A:Option Addr} {news:ip i6} (C:x4 t e z size bytes) (L:z.cells.size=size) (J:0<size) (n:gh Y s=some (.slice none 0 0)) (y:gh Y x=some (.slice A m c))
  (G:Row w (.slice A m c) m news) (E:news.length=m*size) (h1:∀u∈news,u.oneCell'=true) (M:m<=maxLen) (D:m*bytes<=140737488355328)
  (h:∀f w',gK w' w.heap.size e size f m news->(m=0->f= .slice none 0 0)->Ext w w'->xs prog fD fC hs H full K ii ((d,f)::Y) w') (hH:∀w',Ext w w'->H w':=by intros;trivial):
  xs prog fD fC hs H full K (⟨some d,.call {callee:= .builtin .append,args:=⟨[s,x]⟩,argTypes:=⟨[t,t]⟩},R,pos,af,none⟩::ii) Y w:=by
 rcases yc m with h0|h0
 .subst h0;have F:news=[]:=BZ fy;subst F;obtain⟨hu,i,hi,Q,O,N⟩:=C
  have I:(Builtin.append_ #[t,t] R #[.slice none 0 0,.slice A 0 c]).run prog w= .ok (.slice none 0 0) w:=by
   cases A<;>simp[Builtin.append_,run_underlying hu,sizeOf,typeInfo,hi,Builtin.lenOf,Builtin.firstCells,loadCells,loadCellsFrom]
  refine xw (by simp[gd,Op.operands,Call.operands,n,y]) fx (v:= .slice none 0 0) (w':=w) ?_ (h _ _ (gK.nil _ _ _ _) (λ_=>rfl) (Fr.refl _ _)) (hH _ (Fr.refl _ _));simp[execOp,resolve,invoke,builtin,fR n,fR y,I]
 .refine jH (B:=w.heap.size) C L J n (gK.nil w w.heap.size e size) y G E h1 fy (by rw[iM];exact D) (gJ _) (λf w' hO g _=>h f w' ?_ (λe=>fy) (g.mono λj _ he=>by cases he)) (λw' g=>hH w' (g.mono λj _ he=>by cases he));rw[iM]at hO;exact hO
end
def Sg {α:Type} {lt:α->α->Bool} {l:ip α} (h:mM.Wk lt l) {j:Nat} {a b:α} (f:l[i]? =some a) (g:l[j]? =some b) (m:i<j):lt b a=false:=by
 obtain⟨h1,rfl⟩:=jR.1 f;obtain⟨d,rfl⟩:=jR.1 g;exact(Hc.1 h) i j h1 d m
def Ib {α:Type} {lt:α->α->Bool} {l:ip α} {x y:α} (f:l[i]? =some y) (d:l[i+1]? =some x):kX lt (h6 l (i+1)) (l.drop (i+1))=(lt y x&&kX lt (h6 l (i+1+1)) (l.drop (i+1+1))):=by
 have e:h6 l (i+1)=some y:=f;rw[mA d,prev_next d,e];rfl
def Cw {α:Type} {lt:α->α->Bool} (l:ip α):kX lt (h6 l 1) (l.drop 1)=kX lt none l:=by
 cases l with
 |nil=>rfl
 |cons x r=>rfl
def H9 {α:Type} {lt:α->α->Bool} {l:ip α} (h:l.length<=i):kX lt (h6 l i) (l.drop i)=true:=by
 rw[zi h];cases h6 l i<;>rfl
def Se {α:Type} {a b:ip α} (h:a.Perm b) (f:α->Bool):a.any f=b.any f:=by
 rw[xJ,SG,SG];exact⟨λ⟨x,h1,d⟩=>⟨x,h.mem_iff.1 h1,d⟩,λ⟨x,h1,d⟩=>⟨x,h.mem_iff.2 h1,d⟩⟩
def zY {l:ip Ac} {k:Int} (h:qq lz acLt 16 l=(k,[])) (hk:k≠0):j6 l=(k,[]):=by
 unfold j6;rw[h,if_pos hk]
def Tt {y x:Ac} (h:x1 y x≠0) (hw:acLt x y=false):acLt y x=true:=by
 have h1:¬(x.kind<y.kind\/x.kind=y.kind/\x.id<y.id):=λd=>by rw[(pQ x y).2 d]at hw;cases hw
 rw[pQ];have hk:=wI y.kind x.kind;have hi:=wI y.id x.id;unfold x1 at h;split at h<;>omega
structure Vi {α:Type} (cf:α->List Value) (z:Nat) (e:TypeId) (lt:α->α->Bool) (l:List α) (w:World) (x:Nat×Value×List α) (w':World):Prop where
 perm:x.2.2.Perm l
 wk:mM.Wk lt x.2.2
 own:Ow cf z w' w.heap.size e x.2.1 x.2.2
 ext:Ext w w'
 pos:1<=x.1
 go:kX lt (h6 x.2.2 x.1) (x.2.2.drop x.1)=kX lt none x.2.2
attribute [local irreducible] xs T
def Jd (w:i5) (v:i6) (l:ip xB) (V:Rw jO w v l) (ar:l.length<=100000):fQ prog 179 #[v] w λr w'=>∃X,r= .tuple #[X,.I (mz l).1]/\Ow jO 2 w' w.heap.size 68 X (mz l).2/\Ext w w':=by
 refine gD func179 fx fE ?_;obtain⟨A,c,rfl,an,ao,ad⟩:=V.op jX;refine fA ?_
 refine uA (α:=Nat) (β:=Nat×i6×ip xB) 0 1 fU fx fx
  (λi=>[(0,.slice A l.length c),(4,.I (i:Int))]) (λi w'=>Ext w w'/\i<=l.length/\(l.drop i).all j4=l.all j4) (λi=>l.length-i+l.length+2)
  (λx=>[(4,.I (x.1:Int)),(5,x.2.1)]) (λx w'=>Vi jO 2 68 ki l w x w'/\l.all j4=true) (λx=>l.length+1-x.1) ?_ ?_ ?_
 .rintro i C ⟨m,hi,f⟩ F
  by_cases fY:i<l.length
  .obtain⟨b,o,x,rfl,_,N,T,K⟩:=ad.at_ fY;rw[T,ra]at f;refine zD ?_;refine hV (cs:=jO x) fx fx (λj u hu=>m.cell (K j u hu)) ?_;refine fH fx fx (u7 C x) (λr H I=>?_);obtain⟨rfl,D⟩:=I;cases U:j4 x with
   |false=>
    have ah:l.all j4=false:=by rw[<-f,U];rfl
    have e:mz l=(1,[]):=MI ah;rw[e];refine fA ?_;exact ia fx fx fx ⟨_,rfl,Ow.nil _ _ _,m.t D⟩
   |true=>
    rw[U,iV]at f;refine fA ?_;exact hy fx ⟨_,(by show l.length-(i+1)+l.length+2<l.length-i+l.length+2;omega),.inl ⟨rfl,i+1,sub ⟨rfl,rfl⟩,⟨m.t D,fy,f⟩,rfl⟩⟩
  .obtain rfl:i=l.length:=fy;rw[jP]at f;refine fA ?_;refine Z8 (news:=l.flatMap jO) yr fx fU fx fx (Row.ext V m) (gn jX _) (Bo _) (by unfold maxLen;omega) fy (λv2 H af ak D=>?_);have J:Ow jO 2 H C.heap.size 68 v2 l:=af;have R:=m.t D;have al:=m.size
   have key:∀(s:ip xB) (n:i5),s.Perm l->mM.Wk ki s->Ow jO 2 n C.heap.size 68 v2 s->Ext w n->(Vi jO 2 68 ki l w (1,v2,s) n/\l.all j4=true):=λs n h1 I h3 ab=>
    ⟨⟨h1,I,h3.mono al,ab,gJ _,Cw s⟩,by rw[<-f];rfl⟩
   by_cases h0:l=[]
   .have e0:=ak (by rw[h0];rfl);subst e0;refine fA ?_;refine fH fx fx (Ie H _) (λr n S=>?_);refine fA ?_;refine hI ?_;exact iw (F (1,.slice none 0 0,l) n (key l n (tE _) (by rw[h0];exact List.Pairwise.nil) (J.ext S) (R.t S)) (by show l.length+1-1<l.length-l.length+l.length+2;omega)) (sub ⟨rfl,rfl⟩)
   .refine fA ?_;refine fH fx fx (Kf H C.heap.size v2 l J h0 fy) (λr n h3=>?_);obtain⟨⟨s,B,hs,ag⟩,ae⟩:=h3;refine fA ?_;refine hI ?_
    exact iw (F (1,v2,s) n (key s n B (hs.imp λ{a b} h=>by
     cases e:ki b a with
     |false=>rfl
     |true=>exact absurd ((K1 b.name a.name).2 e) h) ag (Ext.te R ae λj F e=>by have:=(J.gO e).1;omega)) (by show l.length+1-1<l.length-l.length+l.length+2;omega)) (sub ⟨rfl,rfl⟩)
 .rintro⟨i,v5,s⟩ C ⟨⟨B,hw,hO,m,aj,f⟩,E⟩ F;dsimp only at B hw hO m aj f|-;have au:=B.length_eq;obtain⟨am,c5,rfl,ap,aq,Q⟩:=hO.rw.op jX
  by_cases fY:i<s.length
  .obtain⟨k,rfl⟩:∃k,i=k+1:=⟨i-1,fy⟩;obtain⟨b,o,x,rfl,_,N,T,K⟩:=Q.at_ fY;obtain⟨b',o',y,e',_,W,_,ai⟩:=Q.at_ (i:=k) fy;injection e' with e'
   injection e' with Z aa
   subst Z;subst aa;rw[Ib W N]at f;have k1:gc C.drew b (o+k*2+0) (.U y.name):=ai 0 _ rfl;have k2:gc C.drew b (o+(k+1)*2+0) (.U x.name):=K 0 _ rfl;have M:=Sg hw W N (zb k)
   by_cases G:y.name=x.name
   .have L:ki y x=false:=by unfold ki;rw[G];exact si _
    rw[L,hW]at f;have e:mz l=(6,[]):=L5 E p7 B hw f.symm;rw[e]
    repeat' (first|refine gH k (o+k*2) fx fx fx fy fx fy ?_|refine gH (k+1) (o+(k+1)*2) fx fx fx fx fx fY ?_|refine gk (op:= .eql) (a:=y.name) (b:=x.name) (r:=true) fx fx (by simp[hG,G]) ?_|refine fT ?_|fail)
    exact ia fx fx fx ⟨_,rfl,Ow.nil _ _ _,m.d⟩
   .have L:ki y x=true:=by
     rcases ux _ _ G with g|g
     .exact g
     .unfold ki at M;rw[g]at M;cases M
    rw[L,iV]at f
    repeat' (first|refine gH k (o+k*2) fx fx fx fy fx fy ?_|refine gH (k+1) (o+(k+1)*2) fx fx fx fx fx fY ?_|refine gk (op:= .eql) (a:=y.name) (b:=x.name) (r:=false) fx fx (by simp[hG,G]) ?_|refine fT ?_|fail)
    exact hy fx ⟨_,(by show l.length+1-(k+1+1)<l.length+1-(k+1);omega),.inr ⟨rfl,(k+1+1,_,s),sub ⟨rfl,rfl⟩,⟨⟨B,hw,hO.ext (Fr.drew hJ C),m.d,fy,f⟩,E⟩,rfl⟩⟩
  .rw[H9 fy]at f
   by_cases O:8<s.length
   .have e:mz l=(13,[]):=G0 E p7 B hw f.symm O;rw[e];refine fA ?_;exact ia fx fx fx ⟨_,rfl,Ow.nil _ _ _,m⟩
   .have e:mz l=(0,s):=EY E p7 B hw f.symm O;rw[e];refine fA ?_;exact ia fx fx fx ⟨_,rfl,hO,m⟩
 .intro Y _;refine fA ?_;refine hI ?_;exact iw (Y 0 w ⟨Fr.refl _ _,iF _,rfl⟩) (sub ⟨rfl,rfl⟩)
def KF (w:i5) (v:i6) (l:ip Ac) (U:Rw lA w v l) (aw:l.length<=100000):fQ prog 181 #[v] w λr w'=>∃W,r= .tuple #[W,.I (j6 l).1]/\Ow lA 3 w' w.heap.size 70 W (j6 l).2/\Ext w w':=by
 refine gD func181 fx fE ?_;obtain⟨A,c,rfl,aq,ar,ab⟩:=U.op j7;refine fA ?_
 refine uA (α:=Nat) (β:=Nat×i6×ip Ac) 0 1 fU fx fx
  (λi=>[(0,.slice A l.length c),(4,.I (i:Int))]) (λi w'=>Ext w w'/\i<=l.length/\(l.drop i).all lz=l.all lz) (λi=>l.length-i+l.length+2)
  (λx=>[(4,.I (x.1:Int)),(5,x.2.1)]) (λx w'=>Vi lA 3 70 acLt l w x w'/\l.all lz=true) (λx=>l.length+1-x.1) ?_ ?_ ?_
 .rintro i g ⟨f,hi,d⟩ F
  by_cases fY:i<l.length
  .obtain⟨b,o,x,rfl,_,L,S,I⟩:=ab.at_ fY;rw[S,ra]at d;refine GR ?_;refine hV (cs:=lA x) fx fx (λj u hu=>f.cell (I j u hu)) ?_;refine fH fx fx (xh g x) (λr C B=>?_);obtain⟨rfl,D⟩:=B;cases T:lz x with
   |false=>
    have ag:l.all lz=false:=by rw[<-d,T];rfl
    have e:j6 l=(1,[]):=zY (MI ag) fU;rw[e];refine fA ?_;exact ia fx fx fx ⟨_,rfl,Ow.nil _ _ _,f.t D⟩
   |true=>
    rw[T,iV]at d;refine fA ?_;exact hy fx ⟨_,(by show l.length-(i+1)+l.length+2<l.length-i+l.length+2;omega),.inl ⟨rfl,i+1,sub ⟨rfl,rfl⟩,⟨f.t D,fy,d⟩,rfl⟩⟩
  .obtain rfl:i=l.length:=fy;rw[jP]at d;refine fA ?_;refine Z8 (news:=l.flatMap lA) Fy fx fU fx fx (Row.ext U f) (gn j7 _) (Fo _) (by unfold maxLen;omega) fy (λv2 C ae an D=>?_);have H:Ow lA 3 C g.heap.size 70 v2 l:=ae;have O:=f.t D;have ao:=f.size
   have key:∀(s:ip Ac) (m:i5),s.Perm l->mM.Wk acLt s->Ow lA 3 m g.heap.size 70 v2 s->Ext w m->(Vi lA 3 70 acLt l w (1,v2,s) m/\l.all lz=true):=λs m h1 B h3 aa=>
    ⟨⟨h1,B,h3.mono ao,aa,gJ _,Cw s⟩,by rw[<-d];rfl⟩
   by_cases h0:l=[]
   .have e0:=an (by rw[h0];rfl);subst e0;refine fA ?_;refine fH fx fx (GO C _) (λr m Q=>?_);refine fA ?_;refine hI ?_;exact iw (F (1,.slice none 0 0,l) m (key l m (tE _) (by rw[h0];exact List.Pairwise.nil) (H.ext Q) (O.t Q)) (by show l.length+1-1<l.length-l.length+l.length+2;omega)) (sub ⟨rfl,rfl⟩)
   .refine fA ?_;refine fH fx fx (JU C g.heap.size v2 l H h0 fy) (λr m h3=>?_);obtain⟨⟨s,n,hs,af⟩,ad⟩:=h3;refine fA ?_;refine hI ?_
    exact iw (F (1,v2,s) m (key s m n (hs.imp λ{a b} h=>by
     cases e:acLt b a with
     |false=>rfl
     |true=>exact absurd ((vb b a).1 e) h) af (Ext.te O ad λj F e=>by have:=(H.gO e).1;omega)) (by show l.length+1-1<l.length-l.length+l.length+2;omega)) (sub ⟨rfl,rfl⟩)
 .rintro⟨i,v5,s⟩ g ⟨⟨n,hw,hO,f,ai,d⟩,E⟩ F;dsimp only at n hw hO f ai d|-;have ax:=n.length_eq;obtain⟨ap,c5,rfl,au,av,N⟩:=hO.rw.op j7
  by_cases fY:i<s.length
  .obtain⟨k,rfl⟩:∃k,i=k+1:=⟨i-1,fy⟩;obtain⟨b,o,x,rfl,_,L,S,I⟩:=N.at_ fY;obtain⟨b',o',y,e',_,V,_,ah⟩:=N.at_ (i:=k) fy;injection e' with e'
   injection e' with Y Z
   subst Y;subst Z;rw[Ib V L]at d;have al:∀j u,(lA y)[j]? =some u->gc g.drew b (o+k*3+j) u:=λj u hu=>ah j u hu
   have ak:∀j u,(lA x)[j]? =some u->gc g.drew b (o+(k+1)*3+j) u:=λj u hu=>I j u hu
   have aj:=Sg hw V L (zb k)
   repeat' (first|refine gH k (o+k*3) fx fx fx fy fx fy ?_|refine gH (k+1) (o+(k+1)*3) fx fx fx fx fx fY ?_|refine hV (cs:=lA y) fx fx al ?_|refine hV (cs:=lA x) fx fx ak ?_|refine fT ?_|fail)
   refine fH fx fx (Ah g.drew y x) (λr C B=>?_);obtain⟨rfl,D⟩:=B;have G:Ext g C:=(Fr.drew hJ g).t D
   by_cases am:x1 y x=0
   .have J:acLt y x=false:=by
     cases e:acLt y x with
     |false=>rfl
     |true=>have:=(vb y x).1 e;omega
    rw[J,hW]at d;have e:j6 l=(6,[]):=zY (L5 E wm n hw d.symm) fU;rw[e];refine fA ?_;exact ia fx fx fx ⟨_,rfl,Ow.nil _ _ _,f.t G⟩
   .have J:acLt y x=true:=Tt am aj;rw[J,iV]at d;refine fA ?_;exact hy fx ⟨_,(by show l.length+1-(k+1+1)<l.length+1-(k+1);omega),.inr ⟨rfl,(k+1+1,_,s),sub ⟨rfl,rfl⟩,⟨⟨n,hw,hO.ext G,f.t G,fy,d⟩,E⟩,rfl⟩⟩
  .rw [H9 fy]at d
   by_cases M:16<s.length
   .have e:j6 l=(13,[]):=zY (G0 E wm n hw d.symm M) fU;rw[e];refine fA ?_;exact ia fx fx fx ⟨_,rfl,Ow.nil _ _ _,f⟩
   .have K:qq lz acLt 16 l=(0,s):=EY E wm n hw d.symm M;have R:(l.any λa=>decide (a.kind=3))=(sg s).2:=by rw[wz];exact Se n.symm _
    refine fA ?_;refine fH fx fx (DI g _ s hO.rw) (λr C B=>?_);obtain⟨rfl,rfl⟩:=B;cases hm:(sg s).2 with
    | true=>
     have e:j6 l=(0,s):=by
      unfold j6;rw[K,if_neg (λh=>h rfl),R,hm,if_neg (λh=>by cases h.2)]
     rw[e];refine fA ?_;exact ia fx fx fx ⟨_,rfl,hO,f⟩
    | false=>
     by_cases h0:s.length=0
     .have e:j6 l=(0,s):=by
       unfold j6;rw[K,if_neg (λh=>h rfl),if_neg (λh=>h.1 fy)]
      rw[e];refine fA ?_;exact ia fx fx fx ⟨_,rfl,hO,f⟩
     .have e:j6 l=(7,[]):=by
       unfold j6;rw[K,if_neg (λh=>h rfl),R,hm,if_pos ⟨fy,rfl⟩]
      rw[e];refine fA ?_;exact ia fx fx fx ⟨_,rfl,Ow.nil _ _ _,f⟩
 .intro X _;refine fA ?_;refine hI ?_;exact iw (X 0 w ⟨Fr.refl _ _,iF _,rfl⟩) (sub ⟨rfl,rfl⟩)
