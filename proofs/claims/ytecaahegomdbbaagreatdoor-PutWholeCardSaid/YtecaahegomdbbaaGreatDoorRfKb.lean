/- Parts of the proof. -/
import Derived.Test.YtecaahegomdbbaaGreatDoorRfB4b
set_option linter.all false
set_option maxRecDepth 100000
set_option maxHeartbeats 64000000
namespace Go.Proofs.YtecaahegomdbbaaGreatDoor.gp
open Go.Proofs.Tryz
open Go.RowKit
variable {i:Nat}
section
section
variable {hs:List Nat} {H:World->Prop} {full:Array Oper} {K:Env->World->Prop} {rest:List Oper} {env:Env} {w:World} {d:Tmp} {ty:TypeId} {pos:String} {af:Array Edge}
theorem aao {t e:TypeId} {z:Value} {size bytes m c:Nat} {s x:Operand} {A:Option Addr} {news:List Value} (y:xv t e z size bytes) (J:z.cells.size=size) (I:0<size) (g:gh env s=some (.slice none 0 0)) (n:gh env x=some (.slice A m c))
  (F:Row w (.slice A m c) m news) (D:news.length=m*size) (h1:∀u∈news,u.oneCell'=true) (L:m<=maxLen) (C:m*bytes<=140737488355328)
  (h:∀a w',gD w' w.heap.size e size a m news->(m=0->a= .slice none 0 0)->Ext w w'->xs prog fD fC hs H full K rest ((d,a)::env) w') (hH:∀w',Ext w w'->H w':=by intros;trivial):
  xs prog fD fC hs H full K (⟨some d,.call {callee:= .builtin .append,args:=⟨[s,x]⟩,argTypes:=⟨[t,t]⟩},ty,pos,af,none⟩::rest) env w:=by
 rcases xE m with h0|h0
 ·subst h0;have E:news=[]:=zf fy;subst E;obtain⟨hu,i,hi,O,N,M⟩:=y
  have G:(Builtin.append_ #[t,t] ty #[.slice none 0 0,.slice A 0 c]).run prog w= .ok (.slice none 0 0) w:=by
   cases A<;>simp[Builtin.append_,run_underlying hu,sizeOf,typeInfo,hi,Builtin.lenOf,Builtin.firstCells,loadCells,loadCellsFrom]
  refine xw (by simp[fX,Op.operands,Call.operands,g,n]) fx (v:= .slice none 0 0) (w':=w) ?_ (h _ _ (gD.nil _ _ _ _) (λ_=>rfl) (Fr.refl _ _)) (hH _ (Fr.refl _ _));simp[execOp,resolve,invoke,builtin,fM g,fM n,G]
 ·refine jI (B:=w.heap.size) y J I g (gD.nil w w.heap.size e size) n F D h1 fy (by rw[iC];exact C) (gJ _) (λa w' hO f _=>h a w' ?_ (λe=>fy) (f.mono λj _ he=>by cases he)) (λw' f=>hH w' (f.mono λj _ he=>by cases he));rw[iC]at hO;exact hO
end
theorem Q3 {α:Type} {lt:α->α->Bool} {l:List α} (h:mH.Wk lt l) {j:Nat} {a b:α} (f:l[i]? =some a) (g:l[j]? =some b) (m:i<j):lt b a=false:=by
 obtain⟨h1,rfl⟩:=j0.1 f;obtain⟨d,rfl⟩:=j0.1 g;exact(G1.1 h) i j h1 d m
theorem Gi {α:Type} {lt:α->α->Bool} {l:List α} {x y:α} (d:l[i]? =some y) (a:l[i+1]? =some x):kQ lt (hT l (i+1)) (l.drop (i+1))=(lt y x&&kQ lt (hT l (i+1+1)) (l.drop (i+1+1))):=by
 have e:hT l (i+1)=some y:=d;rw[lT a,prev_next a,e];rfl
theorem BP {α:Type} {lt:α->α->Bool} (l:List α):kQ lt (hT l 1) (l.drop 1)=kQ lt none l:=by
 cases l with
 |nil=>rfl
 |cons x r=>rfl
theorem GU {α:Type} {lt:α->α->Bool} {l:List α} (h:l.length<=i):kQ lt (hT l i) (l.drop i)=true:=by
 rw[yE h];cases hT l i<;>rfl
theorem O4 {α:Type} {a b:List α} (h:a.Perm b) (f:α->Bool):a.any f=b.any f:=by
 rw[Co,PR,PR];exact⟨λ⟨x,h1,d⟩=>⟨x,h.mem_iff.1 h1,d⟩,λ⟨x,h1,d⟩=>⟨x,h.mem_iff.2 h1,d⟩⟩
theorem zP {l:List Ac} {k:Int} (h:qm lk acLt 16 l=(k,[])) (hk:k≠0):j4 l=(k,[]):=by
 unfold j4;rw[h,if_pos hk]
theorem Th {y x:Ac} (h:xH y x≠0) (hw:acLt x y=false):acLt y x=true:=by
 have h1:¬(x.kind<y.kind∨x.kind=y.kind/\x.id<y.id):=λa=>by rw[(py x y).2 a]at hw;cases hw
 rw[py];have hk:=wx y.kind x.kind;have hi:=wx y.id x.id;unfold xH at h;split at h<;>omega
structure TI {α:Type} (cf:α->List Value) (z:Nat) (e:TypeId) (lt:α->α->Bool) (l:List α) (w:World) (x:Nat×Value×List α) (w':World):Prop where
 perm:x.2.2.Perm l
 wk:mH.Wk lt x.2.2
 own:Ow cf z w' w.heap.size e x.2.1 x.2.2
 ext:Ext w w'
 pos:1<=x.1
 go:kQ lt (hT x.2.2 x.1) (x.2.2.drop x.1)=kQ lt none x.2.2
attribute [local irreducible] xs T
theorem JI (w:World) (v:Value) (l:List xn) (W:Rw jK w v l) (au:l.length<=100000):fL prog 179 #[v] w λr w'=>∃Y,r= .tuple #[Y,.int .i64 (lW l).1]/\Ow jK 2 w' w.heap.size 68 Y (lW l).2/\Ext w w':=by
 refine gr func179 fx fF ?_;obtain⟨A,c,rfl,ao,ap,ae⟩:=W.op jN;refine fA ?_
 refine vG (α:=Nat) (β:=Nat×Value×List xn) 0 1 fV fx fx
  (λi=>[(0,.slice A l.length c),(4,.int .i64 (i:Int))]) (λi w'=>Ext w w'/\i<=l.length/\(l.drop i).all jV=l.all jV) (λi=>l.length-i+l.length+2)
  (λx=>[(4,.int .i64 (x.1:Int)),(5,x.2.1)]) (λx w'=>TI jK 2 68 j8 l w x w'/\l.all jV=true) (λx=>l.length+1-x.1) ?_ ?_ ?_
 ·rintro i C ⟨m,hi,f⟩ F
  by_cases fW:i<l.length
  ·obtain⟨b,o,x,rfl,_,O,U,L⟩:=ae.at_ fW;rw[U,rJ]at f;refine zF ?_;refine hL (cs:=jK x) fx fx (λj u hu=>m.cell (L j u hu)) ?_;refine fG fx fx (um C x) (λr H I=>?_);obtain⟨rfl,D⟩:=I;cases V:jV x with
   |false=>
    have ai:l.all jV=false:=by rw[←f,V];rfl
    have e:lW l=(1,[]):=Lj ai;rw[e];refine fA ?_;exact ia fx fx fx ⟨_,rfl,Ow.nil _ _ _,m.t D⟩
   |true=>
    rw[V,iU]at f;refine fA ?_;exact gX fx ⟨_,(by show l.length-(i+1)+l.length+2<l.length-i+l.length+2;omega),.inl ⟨rfl,i+1,sub ⟨rfl,rfl⟩,⟨m.t D,fy,f⟩,rfl⟩⟩
  ·obtain rfl:i=l.length:=fy;rw[jJ]at f;refine fA ?_;refine aao (news:=l.flatMap jK) yk fx fV fx fx (Row.ext W m) (gl jN _) (yt _) (by unfold maxLen;omega) fy (λv2 H ag al D=>?_);have K:Ow jK 2 H C.heap.size 68 v2 l:=ag;have S:=m.t D;have am:=m.size
   have key:∀(s:List xn) (n:World),s.Perm l->mH.Wk j8 s->Ow jK 2 n C.heap.size 68 v2 s->Ext w n->(TI jK 2 68 j8 l w (1,v2,s) n/\l.all jV=true):=λs n h1 I J ad=>
    ⟨⟨h1,I,J.mono am,ad,gJ _,BP s⟩,by rw[←f];rfl⟩
   by_cases h0:l=[]
   ·have e0:=al (by rw[h0];rfl);subst e0;refine fA ?_;refine fG fx fx (FR H _) (λr n T=>?_);refine fA ?_;refine hv ?_;exact ic (F (1,.slice none 0 0,l) n (key l n (sS _) (by rw[h0];exact List.Pairwise.nil) (K.ext T) (S.t T)) (by show l.length+1-1<l.length-l.length+l.length+2;omega)) (sub ⟨rfl,rfl⟩)
   ·refine fA ?_;refine fG fx fx (JM H C.heap.size v2 l K h0 fy) (λr n J=>?_);obtain⟨⟨s,B,hs,ah⟩,af⟩:=J;refine fA ?_;refine hv ?_
    exact ic (F (1,v2,s) n (key s n B (hs.imp λ{a b} h=>by
     cases e:j8 b a with
     |false=>rfl
     |true=>exact absurd ((Lq b.name a.name).2 e) h) ah (Ext.te S af λj F e=>by have:=(K.gH e).1;omega)) (by show l.length+1-1<l.length-l.length+l.length+2;omega)) (sub ⟨rfl,rfl⟩)
 ·rintro⟨i,v5,s⟩ C ⟨⟨B,hw,hO,m,ak,f⟩,E⟩ F;dsimp only at B hw hO m ak f⊢;have av:=B.length_eq;obtain⟨an,c5,rfl,aq,ar,R⟩:=hO.rw.op jN
  by_cases fW:i<s.length
  ·obtain⟨k,rfl⟩:∃k,i=k+1:=⟨i-1,fy⟩;obtain⟨b,o,x,rfl,_,O,U,L⟩:=R.at_ fW;obtain⟨b',o',y,e',_,X,_,aj⟩:=R.at_ (i:=k) fy;injection e' with e'
   injection e' with aa ab
   subst aa;subst ab;rw[Gi X O]at f;have k1:C.drew.cell? ⟨b,o+k*2+0,none⟩=some (.string (su y.name)):=aj 0 _ rfl;have k2:C.drew.cell? ⟨b,o+(k+1)*2+0,none⟩=some (.string (su x.name)):=L 0 _ rfl;have N:=Q3 hw X O (yD k)
   by_cases G:y.name=x.name
   ·have M:j8 y x=false:=by unfold j8;rw[G];exact ri _
    rw[M,hW]at f;have e:lW l=(6,[]):=K9 E pz B hw f.symm;rw[e]
    repeat' (first|refine gF k (o+k*2) rfl rfl rfl fy rfl fy ?_|refine gF (k+1) (o+(k+1)*2) rfl rfl rfl rfl rfl fW ?_|refine gq (op:= .eql) (a:=y.name) (b:=x.name) (r:=true) rfl rfl (by simp[hZ,G]) ?_|refine fT ?_|fail)
    exact ia fx fx fx ⟨_,rfl,Ow.nil _ _ _,m.d⟩
   ·have M:j8 y x=true:=by
     rcases tS _ _ G with g|g
     ·exact g
     ·unfold j8 at N;rw[g]at N;cases N
    rw[M,iU]at f
    repeat' (first|refine gF k (o+k*2) rfl rfl rfl fy rfl fy ?_|refine gF (k+1) (o+(k+1)*2) rfl rfl rfl rfl rfl fW ?_|refine gq (op:= .eql) (a:=y.name) (b:=x.name) (r:=false) rfl rfl (by simp[hZ,G]) ?_|refine fT ?_|fail)
    exact gX fx ⟨_,(by show l.length+1-(k+1+1)<l.length+1-(k+1);omega),.inr ⟨rfl,(k+1+1,_,s),sub ⟨rfl,rfl⟩,⟨⟨B,hw,hO.ext (Fr.drew hG C),m.d,fy,f⟩,E⟩,rfl⟩⟩
  ·rw[GU fy]at f
   by_cases Q:8<s.length
   ·have e:lW l=(13,[]):=HU E pz B hw f.symm Q;rw[e];refine fA ?_;exact ia fx fx fx ⟨_,rfl,Ow.nil _ _ _,m⟩
   ·have e:lW l=(0,s):=Dz E pz B hw f.symm Q;rw[e];refine fA ?_;exact ia fx fx fx ⟨_,rfl,hO,m⟩
 ·intro Z _;refine fA ?_;refine hv ?_;exact ic (Z 0 w ⟨Fr.refl _ _,iy _,rfl⟩) (sub ⟨rfl,rfl⟩)
theorem J7 (w:World) (v:Value) (l:List Ac) (V:Rw lh w v l) (ax:l.length<=100000):fL prog 181 #[v] w λr w'=>∃X,r= .tuple #[X,.int .i64 (j4 l).1]/\Ow lh 3 w' w.heap.size 70 X (j4 l).2/\Ext w w':=by
 refine gr func181 fx fF ?_;obtain⟨A,c,rfl,ar,au,ad⟩:=V.op jZ;refine fA ?_
 refine vG (α:=Nat) (β:=Nat×Value×List Ac) 0 1 fV fx fx
  (λi=>[(0,.slice A l.length c),(4,.int .i64 (i:Int))]) (λi w'=>Ext w w'/\i<=l.length/\(l.drop i).all lk=l.all lk) (λi=>l.length-i+l.length+2)
  (λx=>[(4,.int .i64 (x.1:Int)),(5,x.2.1)]) (λx w'=>TI lh 3 70 acLt l w x w'/\l.all lk=true) (λx=>l.length+1-x.1) ?_ ?_ ?_
 ·rintro i g ⟨f,hi,d⟩ F
  by_cases fW:i<l.length
  ·obtain⟨b,o,x,rfl,_,M,T,J⟩:=ad.at_ fW;rw[T,rJ]at d;refine E5 ?_;refine hL (cs:=lh x) fx fx (λj u hu=>f.cell (J j u hu)) ?_;refine fG fx fx (w5 g x) (λr C B=>?_);obtain⟨rfl,D⟩:=B;cases U:lk x with
   |false=>
    have ah:l.all lk=false:=by rw[←d,U];rfl
    have e:j4 l=(1,[]):=zP (Lj ah) fV;rw[e];refine fA ?_;exact ia fx fx fx ⟨_,rfl,Ow.nil _ _ _,f.t D⟩
   |true=>
    rw[U,iU]at d;refine fA ?_;exact gX fx ⟨_,(by show l.length-(i+1)+l.length+2<l.length-i+l.length+2;omega),.inl ⟨rfl,i+1,sub ⟨rfl,rfl⟩,⟨f.t D,fy,d⟩,rfl⟩⟩
  ·obtain rfl:i=l.length:=fy;rw[jJ]at d;refine fA ?_;refine aao (news:=l.flatMap lh) Eu fx fV fx fx (Row.ext V f) (gl jZ _) (D4 _) (by unfold maxLen;omega) fy (λv2 C af ao D=>?_);have I:Ow lh 3 C g.heap.size 70 v2 l:=af;have Q:=f.t D;have ap:=f.size
   have key:∀(s:List Ac) (m:World),s.Perm l->mH.Wk acLt s->Ow lh 3 m g.heap.size 70 v2 s->Ext w m->(TI lh 3 70 acLt l w (1,v2,s) m/\l.all lk=true):=λs m h1 B G ab=>
    ⟨⟨h1,B,G.mono ap,ab,gJ _,BP s⟩,by rw[←d];rfl⟩
   by_cases h0:l=[]
   ·have e0:=ao (by rw[h0];rfl);subst e0;refine fA ?_;refine fG fx fx (EY C _) (λr m R=>?_);refine fA ?_;refine hv ?_;exact ic (F (1,.slice none 0 0,l) m (key l m (sS _) (by rw[h0];exact List.Pairwise.nil) (I.ext R) (Q.t R)) (by show l.length+1-1<l.length-l.length+l.length+2;omega)) (sub ⟨rfl,rfl⟩)
   ·refine fA ?_;refine fG fx fx (IU C g.heap.size v2 l I h0 fy) (λr m G=>?_);obtain⟨⟨s,n,hs,ag⟩,ae⟩:=G;refine fA ?_;refine hv ?_
    exact ic (F (1,v2,s) m (key s m n (hs.imp λ{a b} h=>by
     cases e:acLt b a with
     |false=>rfl
     |true=>exact absurd ((uE b a).1 e) h) ag (Ext.te Q ae λj F e=>by have:=(I.gH e).1;omega)) (by show l.length+1-1<l.length-l.length+l.length+2;omega)) (sub ⟨rfl,rfl⟩)
 ·rintro⟨i,v5,s⟩ g ⟨⟨n,hw,hO,f,aj,d⟩,E⟩ F;dsimp only at n hw hO f aj d⊢;have ay:=n.length_eq;obtain⟨aq,c5,rfl,av,aw,O⟩:=hO.rw.op jZ
  by_cases fW:i<s.length
  ·obtain⟨k,rfl⟩:∃k,i=k+1:=⟨i-1,fy⟩;obtain⟨b,o,x,rfl,_,M,T,J⟩:=O.at_ fW;obtain⟨b',o',y,e',_,W,_,ai⟩:=O.at_ (i:=k) fy;injection e' with e'
   injection e' with Z aa
   subst Z;subst aa;rw[Gi W M]at d;have am:∀j u,(lh y)[j]? =some u->g.drew.cell? ⟨b,o+k*3+j,none⟩=some u:=λj u hu=>ai j u hu
   have al:∀j u,(lh x)[j]? =some u->g.drew.cell? ⟨b,o+(k+1)*3+j,none⟩=some u:=λj u hu=>J j u hu
   have ak:=Q3 hw W M (yD k)
   repeat' (first|refine gF k (o+k*3) rfl rfl rfl fy rfl fy ?_|refine gF (k+1) (o+(k+1)*3) rfl rfl rfl rfl rfl fW ?_|refine hL (cs:=lh y) rfl rfl am ?_|refine hL (cs:=lh x) rfl rfl al ?_|refine fT ?_|fail)
   refine fG fx fx (zV g.drew y x) (λr C B=>?_);obtain⟨rfl,D⟩:=B;have H:Ext g C:=(Fr.drew hG g).t D
   by_cases an:xH y x=0
   ·have K:acLt y x=false:=by
     cases e:acLt y x with
     |false=>rfl
     |true=>have:=(uE y x).1 e;omega
    rw[K,hW]at d;have e:j4 l=(6,[]):=zP (K9 E uq n hw d.symm) fV;rw[e];refine fA ?_;exact ia fx fx fx ⟨_,rfl,Ow.nil _ _ _,f.t H⟩
   ·have K:acLt y x=true:=Th an ak;rw[K,iU]at d;refine fA ?_;exact gX fx ⟨_,(by show l.length+1-(k+1+1)<l.length+1-(k+1);omega),.inr ⟨rfl,(k+1+1,_,s),sub ⟨rfl,rfl⟩,⟨⟨n,hw,hO.ext H,f.t H,fy,d⟩,E⟩,rfl⟩⟩
  ·rw [GU fy]at d
   by_cases N:16<s.length
   ·have e:j4 l=(13,[]):=zP (HU E uq n hw d.symm N) fV;rw[e];refine fA ?_;exact ia fx fx fx ⟨_,rfl,Ow.nil _ _ _,f⟩
   ·have L:qm lk acLt 16 l=(0,s):=Dz E uq n hw d.symm N;have S:(l.any λa=>decide (a.kind=3))=(rQ s).2:=by rw[wy];exact O4 n.symm _
    refine fA ?_;refine fG fx fx (Ck g _ s hO.rw) (λr C B=>?_);obtain⟨rfl,rfl⟩:=B;cases hm:(rQ s).2 with
    | true=>
     have e:j4 l=(0,s):=by
      unfold j4;rw[L,if_neg (λh=>h rfl),S,hm,if_neg (λh=>by cases h.2)]
     rw[e];refine fA ?_;exact ia fx fx fx ⟨_,rfl,hO,f⟩
    | false=>
     by_cases h0:s.length=0
     ·have e:j4 l=(0,s):=by
       unfold j4;rw[L,if_neg (λh=>h rfl),if_neg (λh=>h.1 fy)]
      rw[e];refine fA ?_;exact ia fx fx fx ⟨_,rfl,hO,f⟩
     ·have e:j4 l=(7,[]):=by
       unfold j4;rw[L,if_neg (λh=>h rfl),S,hm,if_pos ⟨fy,rfl⟩]
      rw[e];refine fA ?_;exact ia fx fx fx ⟨_,rfl,Ow.nil _ _ _,f⟩
 ·intro Y _;refine fA ?_;refine hv ?_;exact ic (Y 0 w ⟨Fr.refl _ _,iy _,rfl⟩) (sub ⟨rfl,rfl⟩)
end
end Go.Proofs.YtecaahegomdbbaaGreatDoor.gp
