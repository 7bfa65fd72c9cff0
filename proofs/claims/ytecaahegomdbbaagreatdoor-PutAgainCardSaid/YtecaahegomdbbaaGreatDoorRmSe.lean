/- Parts of the proof. -/
import Derived.Test.YtecaahegomdbbaaGreatDoorRmB0a
set_option linter.all false
set_option maxRecDepth 99999
set_option maxHeartbeats 0
namespace Go.Proofs.YtecaahegomdbbaaGreatDoor.gr
open Go.Proofs.Tryz
open Go.RowKit
variable {af:Array Edge} {full:Array li} {Y:Env} {K:Env->i5->Prop} {hs:ip Nat} {ii:ip li} {g q zs:Nat} {x y:i7} {dst:Option Tmp} {pos:String} {d:Tmp} {R:i9} {w w':i5} {H:i5->Prop}
abbrev Tg:=Nat×En
def BA (x:Tg):ip i6:=hR x.2
def D4 (x:Tg):(BA x).length=2:=rfl
def DB (zs:Nat) (w:i5) (g:Nat) (l:ip Tg):Prop:=∃ii:ip i6,l.length*2+ii.length=zs/\fW w g 49 (l.flatMap BA++ii).toArray
theorem DB.cell {w:i5} {g:Nat} {l:ip Tg} (h:DB zs w g l) {i:Nat} {z:Tg} (d:l[i]? =some z) {j:Nat} {u:i6} (hu:(BA z)[j]? =some u):w.cell? ⟨g,i*2+j,none⟩=some u:=by
 obtain⟨ii,_,h⟩:=h;rw[h.cell,po];have:=flat_get D4 d hu
 grind
theorem DB.lt {w:i5} {g:Nat} {l:ip Tg} (h:DB zs w g l):g<w.heap.size:=by obtain⟨ii,d,h⟩:=h;exact h.lt
def DB.fr {S:Nat->Prop} {w w':i5} {g:Nat} {l:ip Tg} (h:DB zs w g l) (f:Fr S w w') (d:¬S g):DB zs w' g l:=by obtain⟨ii,m,h⟩:=h;exact⟨ii,m,h.fr f d⟩
def DB.dr {l:ip Tg} (h:DB zs w g l):DB zs w.drew g l:=h
def DB.ext {l:ip Tg} (h:DB zs w g l) (d:Ext w w'):DB zs w' g l:=h.fr d λf=>f
def FY {i:Nat} {l:ip Tg} (f:DB zs w g l) (m:gh Y x=some (.pointer (some ⟨g,q,none⟩))) (hq:q=i*2) (hi:i<l.length)
  (h:xs prog fD fC hs H full K ii ((d,.agg (BA (l.getD i default)).toArray)::Y) w) (hm:n4 hs (some d)=false:=by rfl):xs prog fD fC hs H full K (⟨some d,.load 49 x,R,pos,af,none⟩::ii) Y w:=by
 subst hq;have n:l[i]? =some (l.getD i default):=by rw[kW,j9 hi];rfl
 exact hV (cs:=BA (l.getD i default)) m fE (λj u hu=>f.cell n hu) h hm
def afC {t m:i9} {cs:Array i6} {u v:i6} (d:fW w g m cs) (J:gh Y x=some (.pointer (some ⟨g,q,none⟩))) (L:gh Y y=some (.agg #[u,v])) (ht:get kA t=some 2) (hu:u.oneCell'=true) (I:v.oneCell'=true) (hi:q+1<cs.size)
  (h:∀w',fW w' g m ((cs.setIfInBounds q u).setIfInBounds (q+1) v)->Fr (· =g) w w'->xs prog fD fC hs H full K ii Y w') (hH:∀w',Fr (· =g) w w'->H w':=by intros;trivial):xs prog fD fC hs H full K (⟨none,.store t x y,R,pos,af,none⟩::ii) Y w:=by
 obtain⟨_,i,D,E⟩:=kJ ht;refine gW fx (by grind [gd, Op.operands]) ?_;have c0:w.cell? ⟨g,q,none⟩=some (cs[q]'fy):=by rw[d.cell];simp[show q<cs.size by omega]
 have f:=d.YR q u;have c1:(w.setCell ⟨g,q,none⟩ u).cell? ⟨g,q+1,none⟩=some ((cs.setIfInBounds q u)[q+1]'(by simpa using hi)):=by rw[f.cell];simp[hi]
 have F:=f.YR (q+1) v;have n:Fr (· =g) w (w.setCell ⟨g,q,none⟩ u):=by grind [Fr.setCell]
 have B:Fr (· =g) (w.setCell ⟨g,q,none⟩ u) ((w.setCell ⟨g,q,none⟩ u).setCell ⟨g,q+1,none⟩ v):=by grind [Fr.setCell]
 have f0:w.frozen? ⟨g,q,none⟩=false:=d.frozen q;have f1:(w.setCell ⟨g,q,none⟩ u).frozen? ⟨g,q+1,none⟩=false:=f.frozen (q+1)
 have G:(storeVar t ⟨g,q,none⟩ (.agg #[u,v])).run prog w= .ok () ((w.setCell ⟨g,q,none⟩ u).setCell ⟨g,q+1,none⟩ v):=by
  have C:Addr.add ⟨g,q,none⟩ 1=⟨g,q+1,none⟩:=nE g q 1;simp[storeVar,Value.cells,sizeOf,typeInfo,D,E,storeCells,Addr.add_zero',C,run_store _ _ _ _ _ hu,run_store _ _ _ _ _ I,c0,c1,f0,f1]
 show out prog ((execOp (ev Y) ⟨none,.store t x y,R,pos,af,none⟩).run prog w) _
 have e:(execOp (ev Y) ⟨none,.store t x y,R,pos,af,none⟩).run prog w= .ok .skip ((w.setCell ⟨g,q,none⟩ u).setCell ⟨g,q+1,none⟩ v):=by
  simp[execOp,fR J,fR L,Instr.storeAt,Instr.sureAddr,G]
 rw[e];exact⟨hH _ (n.t B),h _ F (n.t B)⟩
theorem HJ:∀(l:ip Tg) (i:Nat) (z:Tg) (r:ip i6),i<l.length->((l.flatMap BA++r).set (i*2) (.U z.2.path)).set (i*2+1) (.I z.2.node)=(l.set i z).flatMap BA++r
 |[],i,_,_,h=>by simp at h
 |x::l,0,z,r,_=>rfl
 | x::l,i+1,z,r,h=>by
  have f:=HJ l i z r (by simpa using h);have e:(x::l).flatMap BA++r= .U x.2.path:: .I x.2.node::(l.flatMap BA++r):=rfl
  have d:(((x::l).flatMap BA++r).set ((i+1)*2) (.U z.2.path)).set ((i+1)*2+1) (.I z.2.node)= .U x.2.path:: .I x.2.node::(((l.flatMap BA++r).set (i*2) (.U z.2.path)).set (i*2+1) (.I z.2.node)):=by
   rw[e,show(i+1)*2=i*2+2 from by omega];rfl
  rw[d,f];rfl
def H6 {i:Nat} {l:ip Tg} {z:Tg} (d:DB zs w g l) (m:gh Y x=some (.pointer (some ⟨g,q,none⟩))) (n:gh Y y=some (.agg (BA z).toArray)) (hq:q=i*2) (hi:i<l.length)
  (h:∀w',DB zs w' g (l.set i z)->Fr (· =g) w w'->xs prog fD fC hs H full K ii Y w') (hH:∀w',Fr (· =g) w w'->H w':=by intros;trivial):xs prog fD fC hs H full K (⟨none,.store 49 x y,R,pos,af,none⟩::ii) Y w:=by
 subst hq;obtain⟨r,C,d⟩:=d;have B:=gn D4 l;refine afC (u:= .U z.2.path) (v:= .I z.2.node) d m n fE fx fx fM (λw' t f=>h w' ⟨r,by grind,?_⟩ f) hH
 grind [HJ]
def swp (l:ip Tg) (i j:Nat):ip Tg:=(l.set i (l.getD j default)).set j (l.getD i default)
@[simp] theorem YP (l:ip Tg) (i j:Nat):(swp l i j).length=l.length:=by simp[swp]
theorem sD (A:ip Tg) (x:Tg) (C:ip Tg) (i:Nat) (h:i=A.length):(A++x::C).getD i default=x:=by subst h;simp
theorem Vn (A:ip Tg) (x y:Tg) (C:ip Tg) (i:Nat) (h:i=A.length):(A++x::C).set i y=A++y::C:=by subst h;simp
theorem ED (A:ip Tg) (x:Tg) (M:ip Tg) (y:Tg) (C:ip Tg) (i j:Nat) (hi:i=A.length) (d:j=A.length+1+M.length):swp (A++x::(M++y::C)) i j=A++y::(M++x::C):=by
 grind [swp, sD, Vn]
def GU (A:ip Tg) (x:Tg) (M:ip Tg) (y:Tg) (C:ip Tg) (i j:Nat) (hi:i=A.length) (d:j=A.length+1+M.length):swp (A++x::(M++y::C)) j i=A++y::(M++x::C):=by
 grind [ED, swp, List.set_comm]
def B6 (l:ip Tg) (a b:Nat):Nat->ip Tg
 |0=>l
 |i+1=>swp (B6 l a b i) (a+i) (b+i)
@[simp] theorem HY (l:ip Tg) (a b i:Nat):(B6 l a b i).length=l.length:=by induction i with
 |zero=>rfl
 |succ i d=>simp[B6,d]
theorem Lg (A X M Y C:ip Tg) (m:X.length=Y.length):∀i,i<=X.length->B6 (A++X++M++Y++C) A.length (A.length+X.length+M.length) i=A++Y.take i++X.drop i++M++X.take i++Y.drop i++C
 |0,_=>by simp[B6]
 |i+1,h=>by
  rw[B6,Lg A X M Y C m i fy];obtain⟨x,d⟩:∃x,X[i]? =some x:=⟨_,j9 fy⟩;obtain⟨y,f⟩:∃y,Y[i]? =some y:=fM;have n:X.drop i=x::X.drop (i+1):=by rw[Fq fy];rw[j9 fy]at d;injection d with d;rw[d]
  have t:Y.drop i=y::Y.drop (i+1):=by rw[Fq fy];rw[j9 fy]at f;injection f with f;rw[f]
  have w:X.take (i+1)=X.take i++[x]:=by rw[j2,d];rfl
  have B:Y.take (i+1)=Y.take i++[y]:=by rw[j2,f];rfl
  have g:(Y.take i).length=i:=by rw[kv];omega
  have v:(X.take i).length=i:=by rw[kv];omega
  have u:(X.drop (i+1)).length=X.length-(i+1):=lY;rw[n,t,w,B];have:=ED (A++Y.take i) x (X.drop (i+1)++M++X.take i) y (Y.drop (i+1)++C) (A.length+i) (A.length+X.length+M.length+i) (by simp[g]) (by simp only[ib,g,u,v];omega);simpa using this
structure ad0 (l:List Tg) (a b n g:Nat) (w0:World) (i:Nat) (w:World):Prop where
 le:i<=n
 db:DB zs w g (B6 l a b i)
 fr:Fr (· =g) w0 w
def Ad (w:i5) (g n c a b k:Nat) (u:i6) (l:ip Tg) (v:DB zs w g l) (C:n=l.length) (G:n<=100000) (E:a+k<=n) (F:b+k<=n):
  fQ prog 309 #[.S g 0 n c,.I a,.I b,.I k,u] w λ_ w'=>DB zs w' g (B6 l a b k)/\Fr (· =g) w w':=by
 refine Ao func309 fx fE ?_;refine wk ?_;refine gC (α:=Nat) (λi=>[(0,.S g 0 n c),(1,.I (a:Int)),(2,.I (b:Int)),(3,.I (k:Int)),(10,.I (i:Int))]) (ad0 (zs:=zs) l a b k g w) (λi=>k-i) 0 (sub ⟨rfl,rfl,rfl,rfl,rfl⟩) ⟨fy,v,Fr.refl _ _⟩ ?_;rintro i H ⟨hi,f,m⟩;have hlen:(B6 l a b i).length=n:=by rw[HY,C]
 by_cases fY:i<k
 .repeat' (first|refine KS ?_|refine gH (b+i) ((b+i)*2) fx fx fx fy fy fy ?_|refine gH (a+i) ((a+i)*2) fx fx fx fy fy fy ?_|refine FY (by assumption) fx fx fy ?_|fail)
  refine H6 f fx fx fx fy (λI x y=>?_)
  repeat' (first|refine KS ?_|refine gH (b+i) ((b+i)*2) fx fx fx fy fy fy ?_|refine gH (a+i) ((a+i)*2) fx fx fx fy fy fy ?_|fail)
  refine H6 x fx fx fx fM (λJ D B=>?_);refine wk ?_;exact gl ⟨i+1,sub ⟨rfl,rfl,rfl,rfl,rfl⟩,⟨fy,by grind [B6, swp],(m.d.t y).t B⟩,by dsimp only;omega⟩
 .obtain rfl:i=k:=fy;refine wk ?_;exact mr fx ⟨f,m⟩
def ox (w:i5) (g n c:Nat) (f:i6) (A X M Y C:ip Tg) (v:DB zs w g (A++X++M++Y++C)) (d:X.length=Y.length) (m:n=(A++X++M++Y++C).length) (B:n<=100000) (a b k:Int) (x:a=A.length) (y:b=A.length+X.length+M.length) (hk:k=X.length):
  fQ prog 309 #[.S g 0 n c,.I a,.I b,.I k,f] w λ_ w'=>DB zs w' g (A++Y++M++X++C)/\Fr (· =g) w w':=by
 have D:=m;simp only[ib]at D;have:=Ad w g n c A.length (A.length+X.length+M.length) X.length f _ v m B fy fy;rw[Lg A X M Y C d X.length (gJ _)]at this;have e:(List.drop X.length X)=[]:=by simp
 have t:Y.drop X.length=[]:=by rw[d];simp
 have u:Y.take X.length=Y:=by rw[d];simp
 rw[e,t,u,kh]at this;subst x;subst y;subst hk;simpa using this
structure adO (T:List Tg) (m g:Nat) (w0:World) (x:List Tg×List Tg×List Tg×List Tg) (w:World):Prop where
 db:DB zs w g (x.1++x.2.1++x.2.2.1++x.2.2.2)
 tgt:x.1++x.2.2.1++x.2.1++x.2.2.2=T
 mid:x.1.length+x.2.1.length=m
 p1:0<x.2.1.length
 p2:0<x.2.2.1.length
 fr:Fr (· =g) w0 w
def H7 (w:i5) (g n c:Nat) (D:i6) (A X Y C:ip Tg) (N:DB zs w g (A++X++Y++C)) (V:n=A.length+X.length+Y.length+C.length) (J:n<=100000) (a m b:Int) (O:a=A.length) (hm:m=A.length+X.length) (R:b=A.length+X.length+Y.length) (h1:0<X.length) (M:0<Y.length):
  fQ prog 269 #[.S g 0 n c,.I a,.I m,.I b,D] w λ_ w'=>DB zs w' g (A++Y++X++C)/\Fr (· =g) w w':=by
 subst O;subst hm;subst R;refine Ao func269 fx fE ?_;refine wk ?_;refine gC (α:=ip Tg×ip Tg×ip Tg×ip Tg) (λx=>[(0,.S g 0 n c),(2,.I ((A.length:Int)+X.length)),(4,D),(10,.I (x.2.1.length:Int)),(11,.I (x.2.2.1.length:Int))]) (adO (zs:=zs) (A++Y++X++C) (A.length+X.length) g w) (λx=>x.2.1.length+x.2.2.1.length) (A,X,Y,C) (sub ⟨rfl,rfl,rfl,km (by dsimp only;omega),km (by dsimp only;omega)⟩) ⟨N,rfl,rfl,h1,M,Fr.refl _ _⟩ ?_;rintro⟨u,f,d,y⟩ B ⟨H,K,U,W,Z,I⟩;dsimp only at*;have fY:=congrArg List.length K;simp only[ib]at fY
 by_cases he:f.length=d.length
 .refine wk ?_;refine fI (S:=λ_ w'=>DB zs w' g (u++d++[]++f++y)/\Fr (· =g) B w') fx fx (ox B g n c D u f [] d y (by simpa using H) he (by simp;omega) J _ _ _ fy (by simp;omega) fy) ?_;rintro v L ⟨F,E⟩;refine wk ?_;refine mr fx ⟨?_,I.t E⟩
  grind
 .by_cases T:d.length<f.length
  .obtain⟨P,Q,rfl,G⟩:∃P Q,f=P++Q/\P.length=d.length:=⟨f.take d.length,f.drop d.length,lX,by grind⟩;simp only[ib]at*;refine wk ?_;refine fI (S:=λ_ w'=>DB zs w' g (u++d++Q++P++y)/\Fr (· =g) B w') fx fx (ox B g n c D u P Q d y (by simpa using H) G (by simp;omega) J _ _ _ fy fy fy) ?_;rintro v L ⟨F,E⟩;refine wk ?_;exact gl ⟨(u++d,Q,P,y),sub ⟨rfl,rfl,rfl,km (by dsimp only;omega),km (by dsimp only;omega)⟩,⟨by simpa using F,by rw[<-K];simp,by simp;omega,by dsimp only;omega,by dsimp only;omega,I.t E⟩,by grind⟩
  .obtain⟨P,Q,rfl,G⟩:∃P Q,d=P++Q/\Q.length=f.length:=⟨d.take (d.length-f.length),d.drop (d.length-f.length),lX,by grind⟩;simp only[ib]at*;refine wk ?_;refine fI (S:=λ_ w'=>DB zs w' g (u++Q++P++f++y)/\Fr (· =g) B w') fx fx (ox B g n c D u f P Q y (by simpa using H) G.symm (by simp;omega) J _ _ _ fy fy fy) ?_;rintro v L ⟨F,E⟩;refine wk ?_;exact gl ⟨(u,Q,P,f++y),sub ⟨rfl,rfl,rfl,km (by dsimp only;omega),km (by dsimp only;omega)⟩,⟨by simpa using F,by rw[<-K];simp,by dsimp only;omega,by dsimp only;omega,by dsimp only;omega,I.t E⟩,by grind⟩
def pE (g:Nat) (w:i5) (f:FuncId) (cap:Array i6) (D:Tg->Prop) (c:Tg->Int):Prop:=
 bit qR f=true/\∀w',Fr (· =g) w w'->∀x y,D x->D y->fQ prog f (#[.agg (BA x).toArray,.agg (BA y).toArray]++cap) w' λr d=>Ext w' d/\∃z,r= .I z/\(z<0↔c x<c y)
def pE.fr {f:FuncId} {cap:Array i6} {D:Tg->Prop} {c:Tg->Int} (h:pE g w f cap D c) (m:Fr (· =g) w w'):pE g w' f cap D c:=⟨h.1,λn d=>h.2 n (m.t d)⟩
def Tu {f:FuncId} {t:Tmp} {cap:Array i6} {D:Tg->Prop} {c:Tg->Int} {a b:i7} {m:Array i9} {x y:Tg} (d:pE g w f cap D c) (B:gh Y (.tmp t)=some (.func (.func f) #[] cap)) (v:O2 Y [a,b]=some [.agg (BA x).toArray,.agg (BA y).toArray]) (n:D x) (u:D y)
  (h:∀z w',Ext w w'->(z<0↔c x<c y)->xs prog fD fC hs gS full K ii (put Y dst (.I z)) w'):xs prog fD fC hs gS full K (⟨dst,.call {callee:= .value (.tmp t),args:= #[a,b],argTypes:=m},R,pos,af,none⟩::ii) Y w:=
 xa (S:=λr C=>Ext w C/\∃z,r= .I z/\(z<0↔c x<c y)) B v d.1 (d.2 w (Fr.refl _ _) x y n u) fM
def lt (c:Tg->Int) (x y:Tg):Prop:=c x<c y\/c x=c y/\x.1<y.1
def yn (c:Tg->Int) (x y:Tg):Prop:=c x=c y->x.1<y.1
def YK {c:Tg->Int} {x y:Tg} (h:lt c x y):yn c x y:=λe=>by grind [lt]
theorem lt_trans {c:Tg->Int} {x y z:Tg} (h:lt c x y) (d:lt c y z):lt c x z:=by grind [lt]
theorem xu {c:Tg->Int} {P:ip Tg} {y x:Tg} (hs:(P++[y]).Pairwise (lt c)) (h:lt c y x):∀p∈P++[y],lt c p x:=by
 grind [lt_trans, List.mem_singleton]
structure IA (c:Tg->Int) (A S C:List Tg) (g:Nat) (w0:World) (x:List Tg×List Tg) (w:World):Prop where
 db:DB zs w g (A++x.1++x.2++C)
 perm:(x.1++x.2).Perm S
 A7:x.1.Pairwise (lt c)
 st:∀y∈x.1,∀z∈x.2,yn c y z
 st2:x.2.Pairwise (yn c)
 fr:Fr (· =g) w0 w
def IA.dr {c:Tg->Int} {A S C:ip Tg} {w0:i5} {x:ip Tg×ip Tg} (h:IA (zs:=zs) c A S C g w0 x w):IA (zs:=zs) c A S C g w0 x w.drew:=⟨h.db,h.perm,h.A7,h.st,h.st2,h.fr.d⟩
def IA.ex {c:Tg->Int} {A S C:ip Tg} {w0:i5} {x:ip Tg×ip Tg} (h:IA (zs:=zs) c A S C g w0 x w) (he:Ext w w'):IA (zs:=zs) c A S C g w0 x w':=⟨h.db.ext he,h.perm,h.A7,h.st,h.st2,h.fr.te he⟩
structure adi (c:Tg->Int) (A S1:List Tg) (v:Tg) (C:List Tg) (g:Nat) (w0:World) (x:List Tg×List Tg) (w:World):Prop where
 db:DB zs w g (A++x.1++v::x.2++C)
 eq:x.1++x.2=S1
 gt:∀q∈x.2,c v<c q
 fr:Fr (· =g) w0 w
def rG (w:i5) (g n cp:Nat) (f:FuncId) (cap:Array i6) (D:Tg->Prop) (c:Tg->Int) (A S C:ip Tg) (T:DB zs w g (A++S++C)) (ah:n=A.length+S.length+C.length) (ao:n<=100000) (V:pE g w f cap D c) (am:∀x∈S,D x) (H:S.Pairwise (yn c)) (a b:Int) (aa:a=A.length) (ab:b=A.length+S.length):
  fQ prog 219 #[.S g 0 n cp,.I a,.I b,.func (.func f) #[] cap] w λ_ w'=>∃B,B.Perm S/\B.Pairwise (lt c)/\DB zs w' g (A++B++C)/\Fr (· =g) w w':=by
 subst aa;subst ab;refine xA func219 fx fE ?_;refine wk ?_;rcases S with _|⟨s0,S⟩
 .refine gC (α:=Unit) (λ_=>[(2,.I ((A.length:Int)+([]:ip Tg).length)),(8,.I ((A.length:Int)+1))]) (λ_ w'=>w=w') (λ_=>0) () (sub ⟨rfl,rfl⟩) fx ?_;rintro _ N rfl;simp only[kL];refine wk ?_;exact mr fx (by grind [List.Perm.refl, List.Pairwise.nil, Fr.refl])
 rw[jA]at H;refine gC (α:=ip Tg×ip Tg) (λx=>[(0,.S g 0 n cp),(1,.I (A.length:Int)),(2,.I ((A.length:Int)+(s0::S).length)),(3,.func (.func f) #[] cap),(8,.I ((A.length:Int)+x.1.length))]) (IA (zs:=zs) c A (s0::S) C g w) (λx=>x.2.length) ([s0],S) (sub ⟨rfl,rfl,rfl,rfl,km (by dsimp only;simp)⟩) ⟨by simpa using T,by simp,by simp,fM,H.2,Fr.refl _ _⟩ ?_;rintro⟨u,m⟩ N ⟨ad,ai,F,aj,L,K⟩;dsimp only at*;have hlen:=ai.length_eq;simp only[ib]at hlen;rcases m with _|⟨v,m⟩
 .simp only[kL]at hlen;refine wk ?_;refine mr fx fM
 .simp only[iP]at hlen ah;simp only[iP];have W:D v:=fM;have an:∀y∈u,D y:=fM;refine wk ?_;refine gC (α:=ip Tg×ip Tg) (λx=>[(0,.S g 0 n cp),(1,.I (A.length:Int)),(2,.I ((A.length:Int)+((S.length:Int)+1))),(3,.func (.func f) #[] cap),(8,.I ((A.length:Int)+u.length)),(9,.I ((A.length:Int)+x.1.length))]) (adi (zs:=zs) c A u v (m++C) g N) (λx=>x.1.length) (u,[]) (sub ⟨rfl,rfl,km fy,rfl,rfl,rfl⟩) ⟨by simpa using ad,by simp,by simp,Fr.refl _ _⟩ ?_;rintro⟨P,Q⟩ O ⟨I,heq,ae,E⟩;dsimp only at*;have ag:=congrArg List.length heq;simp only[ib]at ag
  have done:(∀p∈P,lt c p v)->IA (zs:=zs) c A (s0::S) C g w (P++v::Q,m) O:=λaq=>by
   subst heq;rw[ke]at F;rw[jA]at L;refine⟨by simpa using I,?_,?_,?_,L.2,K.t E⟩
   .grind
   .dsimp only;rw[ke,jA];refine⟨F.1,⟨λq hq=> .inl (ae q hq),F.2.1⟩,λp ar q hq=>?_⟩
    grind
   grind
  rcases Dq P with rfl|⟨P,y,rfl⟩
  .simp only[kL]at*;refine wk ?_;exact gl ⟨([]++v::Q,m),sub ⟨rfl,rfl,km fy,rfl,km fM⟩,(done iB).dr,by dsimp only;omega⟩
  .rw[D3]at*;simp only[ib,iP,kL]at*;have JS:DB zs O g ((A++P)++y::([]++v::(Q++(m++C)))):=by simpa using I
   have ap:((A++P)++y::([]++v::(Q++(m++C)))).length=n:=by simp;omega
   have gv:((A++P)++y::([]++v::(Q++(m++C)))).getD (A.length+P.length+1) default=v:=by
    have:=sD (A++P++[y]) v (Q++(m++C)) (A.length+P.length+1) (by simp;omega);simpa using this
   have R:((A++P)++y::([]++v::(Q++(m++C)))).getD (A.length+P.length) default=y:=fM;have X:D y:=fM;refine Z9 ?_;rw[gv,R];refine Tu ((V.fr (K.t E)).fr (Fr.drew _ _)) fx fx W X (λz ax G M=>?_);have J:=JS.dr.ext G
   by_cases fY:c v<c y
   .have ak:=M.2 fY
    repeat' (first|refine xp fx ?_|refine lB ?_|refine gH (A.length+P.length+1) ((A.length+P.length+1)*2) fx fx fx fy fy fy ?_|refine gH (A.length+P.length) ((A.length+P.length)*2) fx fx fx fy fy fy ?_|refine FY J fx fx fy ?_|refine KS ?_|fail)
    refine H6 J.dr fx fx fx fy (λav U Y=>?_)
    repeat' (first|refine xp fx ?_|refine lB ?_|refine gH (A.length+P.length) ((A.length+P.length)*2) fx fx fx fy fy fy ?_|refine KS ?_|fail)
    refine H6 U fx fx fx fM (λaw al Z=>?_);refine wk ?_;have e:=GU (A++P) y [] v (Q++(m++C)) (A.length+P.length) (A.length+P.length+1) iB iB;refine gl ⟨(P,y::Q),sub ⟨rfl,rfl,rfl,rfl,rfl,km (by dsimp only;omega)⟩,⟨?_,by rw[<-heq];simp,λq hq=>?_,(((E.d.te G).d.t Y).t Z)⟩,by dsimp only;omega⟩
    .grind [swp]
    grind
   .have ak:¬z<0:=λh=>fY (M.1 h)
    refine wk ?_;refine gl ⟨((P++[y])++v::Q,m),sub ⟨rfl,rfl,km fy,rfl,km fM⟩,(done ?_).dr.ex G,by dsimp only;omega⟩
    have au:lt c y v:=by
     have:=aj y (by rw[<-heq];simp) v iB
     by_cases he:c y=c v
     .exact .inr ⟨he,this he⟩
     .exact .inl fy
    grind [xu]
def LZ {t n:i9} {k m:kw} {a:Int} (f:gh Y x=some (.int k a)) (g:gh Y y=some (.int m 1)) (hk:decide ((1:Int)<=k.bits)=true)
  (h:xs prog fD fC hs H full K ii ((d,.int k (a/2))::Y) w):xs prog fD fC hs H full K (⟨some d,.binOp .shr t x y n,R,pos,af,none⟩::ii) Y w:=
 XA f g fy (of_decide_eq_true hk) h
def tc {c:Tg->Int} (A S C:ip Tg) (h:S.Pairwise (lt c)) (q d:Nat) (h1:A.length<=q) (f:q<d) (h3:d<A.length+S.length):lt c ((A++S++C).getD q default) ((A++S++C).getD d default):=by
 grind [List.pairwise_iff_getElem, List.length, default, List.append_assoc, List.getElem?_append_right, List.getElem?_append_left, List.getElem?_eq_getElem]
def yN (A S C:ip Tg) (q:Nat) (hq:q<S.length) (r:Nat) (d:r=A.length+q):(A++S++C).getD r default=S[q]:=by
 grind
def sQ (A S C:ip Tg) (q:Nat) (h1:A.length<=q) (h3:q<A.length+S.length):(A++S++C).getD q default∈S:=by
 grind
def Qf {c:Tg->Int} {Y:ip Tg} {y x:Tg} {X:ip Tg} (f:(Y++[y]).Pairwise (lt c)) (d:(x::X).Pairwise (lt c)) (h:lt c y x):∀p∈Y++[y],∀q∈x::X,lt c p q:=by
 grind [xu, lt_trans, List.pairwise_cons]
structure Bs (p:Nat->Prop) (lo hi:Nat) (l:List Tg) (g:Nat) (w0:World) (x:Nat×Nat) (w:World):Prop where
 db:DB zs w g l
 fr:Fr (· =g) w0 w
 l1:lo<=x.1
 l2:x.1<=x.2
 l3:x.2<=hi
 yes:∀q,lo<=q->q<x.1->p q
 no:∀q,x.2<=q->q<hi->¬p q
structure ShR (A:List Tg) (x:Tg) (Y C:List Tg) (g:Nat) (w0:World) (s:List Tg×List Tg) (w:World):Prop where
 db:DB zs w g (A++s.1++x::s.2++C)
 eq:s.1++s.2=Y
 fr:Fr (· =g) w0 w
def smA (f:FuncId) (cap:Array i6) (D:Tg->Prop) (c:Tg->Int) (g n cp:Nat) (av:n<=100000) (w:i5) (A X Y C:ip Tg) (V:DB zs w g (A++X++Y++C)) (ay:n=A.length+X.length+Y.length+C.length) (aa:pE g w f cap D c) (ab:∀x∈X++Y,D x)
  (aj:X.Pairwise (lt c)) (F:Y.Pairwise (lt c)) (ak:∀x∈X,∀y∈Y,yn c x y) (ap:0<X.length) (aq:0<Y.length) (ag:X.length=1):
  fQ prog 220 #[.S g 0 n cp,.I A.length,.I (A.length+X.length),.I (A.length+X.length+Y.length),.func (.func f) #[] cap] w λ_ w'=>∃Z,Z.Perm (X++Y)/\Z.Pairwise (lt c)/\DB zs w' g (A++Z++C)/\Fr (· =g) w w':=by
 have T:=tc A X (Y++C) aj;have H:=tc (A++X) Y C F;have am:=sQ A X (Y++C);have S:=sQ (A++X) Y C;rw[<-kF]at T am;simp only[ib]at H S;have hlen:(A++X++Y++C).length=n:=by simp;omega
 refine Ao func220 fx fE ?_;obtain⟨x,rfl⟩:∃x,X=[x]:=CZ.1 ag;simp only[iP,kL]at*;refine wk ?_;refine gC (α:=Nat×Nat) (λx=>[(0,.S g 0 n cp),(1,.I (A.length:Int)),(2,.I ((A.length:Int)+1)),(3,.I ((A.length:Int)+1+Y.length)),(4,.func (.func f) #[] cap),(10,.I (x.1:Int)),(11,.I (x.2:Int))]) (Bs (zs:=zs) (λq=>c ((A++[x]++Y++C).getD q default)<c x) (A.length+1) (A.length+1+Y.length) (A++[x]++Y++C) g w) (λx=>x.2-x.1) (A.length+1,A.length+1+Y.length) (sub ⟨rfl,rfl,km fy,km fy,rfl,km (by dsimp only;omega),km (by dsimp only;omega)⟩) ⟨V,Fr.refl _ _,by dsimp only;omega,by dsimp only;omega,by dsimp only;omega,fM,fM⟩ ?_;rintro⟨i,j⟩ an ⟨B,E,ah,aw,M,O,N⟩;dsimp only at*;have U:(A++[x]++Y++C).getD A.length default=x:=by simp
 by_cases au:i<j
 .repeat' (first|refine xp fx ?_|refine lB ?_|refine ya fx fx fx fy fy ?_|refine LZ fx fx fE ?_|refine B1 fx fx fx fy fy ?_|refine gH ((i+j)/2) (((i+j)/2)*2) fx fx fx fy fy fy ?_|refine gH A.length (A.length*2) fx fx fx fy fy fy ?_|refine FY B fx fx fy ?_|refine KS ?_|fail)
  rw[U];have ax:=S ((i+j)/2) fy fy;refine Tu ((aa.fr E).fr (Fr.drew _ _)) fx fx fM (ab _ iB) (λz aB G R=>?_)
  by_cases fY:c ((A++[x]++Y++C).getD ((i+j)/2) default)<c x
  .have al:=R.2 fY;refine wk ?_;refine gl ⟨((i+j)/2+1,j),sub ⟨rfl,rfl,rfl,rfl,rfl,km (by dsimp only;omega),rfl⟩,⟨B.dr.ext G,E.d.te G,by dsimp only;omega,by dsimp only;omega,M,λq h1 I=>?_,N⟩,by dsimp only;omega⟩;dsimp only at*
   by_cases e:q=(i+j)/2
   .rw[e];exact fY
   .have:=H q ((i+j)/2) fy fy fy
    grind [lt]
  .have al:¬z<0:=λh=>fY (R.1 h)
   refine wk ?_;refine gl ⟨(i,(i+j)/2),sub ⟨rfl,rfl,rfl,rfl,rfl,rfl,km (by dsimp only;omega)⟩,⟨B.dr.ext G,E.d.te G,ah,by dsimp only;omega,by dsimp only;omega,O,λq h1 I=>?_⟩,by dsimp only;omega⟩;dsimp only at*
   by_cases e:q=(i+j)/2
   .rw[e];exact fY
   .have:=H ((i+j)/2) q fy fy fy
    grind [lt]
 .obtain rfl:i=j:=fy;obtain⟨m,u,rfl,ar⟩:∃P Q,Y=P++Q/\P.length=i-(A.length+1):=⟨Y.take (i-(A.length+1)),Y.drop (i-(A.length+1)),lX,by rw[kv];omega⟩;simp only[ib]at*;have hi:(i:Int)=A.length+1+m.length:=fy
  have p1:∀y∈m,c y<c x:=λy v=>by
   obtain⟨q,hq,rfl⟩:=BV v;have:=O (A.length+1+q) fy fy;have e:=yN (A++[x]) m (u++C) q hq _ (by simp:A.length+1+q=(A++[x]).length+q);rw[show A++[x]++(m++u)++C=(A++[x])++m++(u++C)by simp,e]at this;exact this
  have p2:∀y∈u,¬c y<c x:=λy v=>by
   obtain⟨q,hq,rfl⟩:=BV v;have:=N (A.length+1+m.length+q) fy fy;have e:=yN (A++[x]++m) u C q hq (A.length+1+m.length+q) (by simp;omega);rw[show A++[x]++(m++u)++C=(A++[x]++m)++u++C by simp,e]at this;exact this
  refine wk ?_;refine gC (α:=ip Tg×ip Tg) (λs=>[(0,.S g 0 n cp),(10,.I ((A.length:Int)+1+m.length)),(13,.I ((A.length:Int)+s.1.length))]) (ShR (zs:=zs) A x m (u++C) g an) (λs=>s.2.length) ([],m) (sub ⟨rfl,km fy,km (by dsimp only;simp)⟩) ⟨by simpa using B,rfl,Fr.refl _ _⟩ ?_;rintro⟨P,Q⟩ ao ⟨K,heq,L⟩;dsimp only at*;have hle:=congrArg List.length heq;simp only[ib]at hle;rcases Q with _|⟨q,Q⟩
  .simp only[kL]at hle;obtain rfl:P=m:=by simpa using heq
   refine wk ?_;refine Gw fx ⟨P++x::u,?_,?_,by simpa using K,E.t L⟩
   .grind
   .rw[ke]at F;rw[ke,jA];refine⟨F.1,⟨λy v=>?_,F.2.1⟩,λp ai q hq=>?_⟩
    .have h1:=p2 y v;have I:=ak x iB y (by simp[v]);unfold yn at I;unfold lt;omega
    .rcases iu.1 hq with rfl|hq
     .exact .inl (p1 p ai)
     grind
  .simp only[iP]at*;have JS:DB zs ao g ((A++P)++x::([]++q::(Q++(u++C)))):=by simpa using K
   have M:((A++P)++x::([]++q::(Q++(u++C)))).length=n:=by simp;omega
   refine Z9 ?_;refine H6 JS.dr fx fx fx fy (λaz W ad=>?_)
   repeat' (first|refine xp fx ?_|refine lB ?_|refine gH (A.length+P.length+1) ((A.length+P.length+1)*2) fx fx fx fy fy fy ?_|refine KS ?_|fail)
   refine H6 W fx fx fx fM (λaA J ae=>?_);refine wk ?_;have e:=ED (A++P) x [] q (Q++(u++C)) (A.length+P.length) (A.length+P.length+1) iB iB;refine gl ⟨(P++[q],Q),sub ⟨rfl,rfl,km fM⟩,⟨?_,by rw[<-heq];simp,((L.d.t ad).t ae)⟩,by dsimp only;omega⟩;unfold swp at e;rw[e]at J;simpa using J
def smB (f:FuncId) (cap:Array i6) (D:Tg->Prop) (c:Tg->Int) (g n cp:Nat) (au:n<=100000) (w:i5) (A X Y C:ip Tg) (V:DB zs w g (A++X++Y++C)) (ax:n=A.length+X.length+Y.length+C.length) (aa:pE g w f cap D c) (ab:∀x∈X++Y,D x)
  (F:X.Pairwise (lt c)) (ai:Y.Pairwise (lt c)) (aj:∀x∈X,∀y∈Y,yn c x y) (ap:0<X.length) (aq:0<Y.length) (af:¬X.length=1) (ag:Y.length=1):
  fQ prog 220 #[.S g 0 n cp,.I A.length,.I (A.length+X.length),.I (A.length+X.length+Y.length),.func (.func f) #[] cap] w λ_ w'=>∃Z,Z.Perm (X++Y)/\Z.Pairwise (lt c)/\DB zs w' g (A++Z++C)/\Fr (· =g) w w':=by
 have H:=tc A X (Y++C) F;have T:=tc (A++X) Y C ai;have S:=sQ A X (Y++C);have al:=sQ (A++X) Y C;rw[<-kF]at H S;simp only[ib]at T al;have hlen:(A++X++Y++C).length=n:=by simp;omega
 refine Ao func220 fx fE ?_;obtain⟨y,rfl⟩:∃x,Y=[x]:=CZ.1 ag;simp only[iP,kL]at*;have U:(A++X++[y]++C).getD (A.length+X.length) default=y:=by simp
 refine wk ?_;refine gC (α:=Nat×Nat) (λx=>[(0,.S g 0 n cp),(1,.I (A.length:Int)),(2,.I ((A.length:Int)+X.length)),(4,.func (.func f) #[] cap),(14,.I (x.1:Int)),(15,.I (x.2:Int))]) (Bs (zs:=zs) (λq=>¬c y<c ((A++X++[y]++C).getD q default)) A.length (A.length+X.length) (A++X++[y]++C) g w) (λx=>x.2-x.1) (A.length,A.length+X.length) (sub ⟨rfl,rfl,rfl,rfl,rfl,km (by dsimp only;omega)⟩) ⟨V,Fr.refl _ _,by dsimp only;omega,by dsimp only;omega,by dsimp only;omega,fM,fM⟩ ?_;rintro⟨i,j⟩ am ⟨B,E,ah,av,L,O,M⟩;dsimp only at*
 by_cases ar:i<j
 .repeat' (first|refine xp fx ?_|refine lB ?_|refine ya fx fx fx fy fy ?_|refine LZ fx fx fE ?_|refine B1 fx fx fx fy fy ?_|refine gH ((i+j)/2) (((i+j)/2)*2) fx fx fx fy fy fy ?_|refine gH (A.length+X.length) ((A.length+X.length)*2) fx fx fx fy fy fy ?_|refine FY B fx fx fy ?_|refine KS ?_|fail)
  rw[U];have aw:=S ((i+j)/2) fy fy;refine Tu ((aa.fr E).fr (Fr.drew _ _)) fx fx (ab _ iB) fM (λz aA G R=>?_)
  by_cases fY:c y<c ((A++X++[y]++C).getD ((i+j)/2) default)
  .have ak:=R.2 fY;refine wk ?_;refine gl ⟨(i,(i+j)/2),sub ⟨rfl,rfl,rfl,rfl,rfl,km (by dsimp only;omega)⟩,⟨B.dr.ext G,E.d.te G,ah,by dsimp only;omega,by dsimp only;omega,O,λq h1 I=>?_⟩,by dsimp only;omega⟩;dsimp only at*
   by_cases e:q=(i+j)/2
   .rw[e];omega
   .have:=H ((i+j)/2) q fy fy fy
    grind [lt]
  .have ak:¬z<0:=λh=>fY (R.1 h)
   refine wk ?_;refine gl ⟨((i+j)/2+1,j),sub ⟨rfl,rfl,rfl,rfl,km (by dsimp only;omega),rfl⟩,⟨B.dr.ext G,E.d.te G,by dsimp only;omega,by dsimp only;omega,L,λq h1 I=>?_,M⟩,by dsimp only;omega⟩;dsimp only at*
   by_cases e:q=(i+j)/2
   .rw[e];exact fY
   .have:=H q ((i+j)/2) fy fy fy
    grind [lt]
 .obtain rfl:i=j:=fy;obtain⟨m,u,rfl,af⟩:∃P Q,X=P++Q/\P.length=i-A.length:=⟨X.take (i-A.length),X.drop (i-A.length),lX,by rw[kv];omega⟩;simp only[ib]at*;have hi:(i:Int)=A.length+m.length:=fy
  have p1:∀x∈m,¬c y<c x:=λx v=>by
   obtain⟨q,hq,rfl⟩:=BV v;have:=O (A.length+q) fy fy;have e:=yN A m (u++[y]++C) q hq _ rfl;rw[show A++(m++u)++[y]++C=A++m++(u++[y]++C)by simp,e]at this;exact this
  have p2:∀x∈u,c y<c x:=λx v=>by
   obtain⟨q,hq,rfl⟩:=BV v;have:=M (A.length+m.length+q) fy fy;have e:=yN (A++m) u ([y]++C) q hq (A.length+m.length+q) iB;rw[show A++(m++u)++[y]++C=(A++m)++u++([y]++C)by simp,e]at this;omega
  refine wk ?_;refine gC (α:=ip Tg×ip Tg) (λs=>[(0,.S g 0 n cp),(14,.I ((A.length:Int)+m.length)),(17,.I ((A.length:Int)+m.length+s.1.length))]) (ShR (zs:=zs) (A++m) y u C g am) (λs=>s.1.length) (u,[]) (sub ⟨rfl,km fy,km (by dsimp only;omega)⟩) ⟨by simpa using B,by simp,Fr.refl _ _⟩ ?_;rintro⟨P,Q⟩ an ⟨J,heq,K⟩;dsimp only at*;have hle:=congrArg List.length heq;simp only[ib]at hle;rcases Dq P with rfl|⟨P,p,rfl⟩
  .simp only[kL]at*;obtain rfl:Q=u:=by simpa using heq
   refine wk ?_;refine Gw fx ⟨m++y::Q,?_,?_,by simpa using J,E.t K⟩
   .grind
   .rw[ke]at F;rw[ke,jA];refine⟨F.1,⟨λx v=> .inl (p2 x v),F.2.1⟩,λp N q hq=>?_⟩;rcases iu.1 hq with rfl|hq
    .have h1:=p1 p N;have I:=aj p (by simp[N]) q iB;unfold yn at I;unfold lt;omega
    grind
  .rw[D3]at*;simp only[ib,iP,kL]at*;have JS:DB zs an g ((A++m++P)++p::([]++y::(Q++C))):=by simpa using J
   have L:((A++m++P)++p::([]++y::(Q++C))).length=n:=by simp;omega
   repeat' (first|refine xp fx ?_|refine lB ?_|refine gH (A.length+m.length+P.length+1) ((A.length+m.length+P.length+1)*2) fx fx fx fy fy fy ?_|refine gH (A.length+m.length+P.length) ((A.length+m.length+P.length)*2) fx fx fx fy fy fy ?_|refine FY JS fx fx fy ?_|refine KS ?_|fail)
   refine H6 JS.dr fx fx fx fy (λay W ad=>?_)
   repeat' (first|refine xp fx ?_|refine lB ?_|refine gH (A.length+m.length+P.length) ((A.length+m.length+P.length)*2) fx fx fx fy fy fy ?_|refine KS ?_|fail)
   refine H6 W fx fx fx fM (λaz ao ae=>?_);refine wk ?_;have e:=GU (A++m++P) p [] y (Q++C) (A.length+m.length+P.length) (A.length+m.length+P.length+1) (by simp;omega) (by simp;omega);refine gl ⟨(P,p::Q),sub ⟨rfl,rfl,km (by dsimp only;omega)⟩,⟨?_,by rw[<-heq];simp,((K.d.t ad).t ae)⟩,by dsimp only;omega⟩
   grind [swp]
structure aev (A X Y mid:Nat) (w0:World) (x:Nat×Nat) (w:World):Prop where
 a:A<=x.1
 b:mid+(A+X)<=x.1+(A+X+Y)
 c:x.1<=x.2
 d:x.2<=mid/\x.2<=A+X/\(x.2=mid\/x.2=A+X)
 e:x.1=A\/x.1+(A+X+Y)=mid+(A+X)
 w:w0=w
def smC (f:FuncId) (cap:Array i6) (D:Tg->Prop) (c:Tg->Int) (g n cp:Nat) (aR:n<=100000) (w:i5) (A X Y C:ip Tg) (aJ:DB zs w g (A++X++Y++C)) (a3:n=A.length+X.length+Y.length+C.length) (am:pE g w f cap D c) (ad:∀x∈X++Y,D x)
  (L:X.Pairwise (lt c)) (M:Y.Pairwise (lt c)) (ap:∀x∈X,∀y∈Y,yn c x y) (aZ:0<X.length) (a0:0<Y.length) (aK:¬X.length=1) (aL:¬Y.length=1) (ax:∀(w:i5) (A I J C:ip Tg),I.length+J.length<X.length+Y.length->DB zs w g (A++I++J++C)->n=A.length+I.length+J.length+C.length->pE g w f cap D c->(∀x∈I++J,D x)->
  I.Pairwise (lt c)->J.Pairwise (lt c)->(∀x∈I,∀y∈J,yn c x y)->0<I.length->0<J.length->∀a m b:Int,a=A.length->m=A.length+I.length->b=A.length+I.length+J.length->
  fQ prog 220 #[.S g 0 n cp,.I a,.I m,.I b,.func (.func f) #[] cap] w λ_ w'=>∃Z,Z.Perm (I++J)/\Z.Pairwise (lt c)/\DB zs w' g (A++Z++C)/\Fr (· =g) w w'):
  fQ prog 220 #[.S g 0 n cp,.I A.length,.I (A.length+X.length),.I (A.length+X.length+Y.length),.func (.func f) #[] cap] w λ_ w'=>∃Z,Z.Perm (X++Y)/\Z.Pairwise (lt c)/\DB zs w' g (A++Z++C)/\Fr (· =g) w w':=by
 have aa:=tc A X (Y++C) L;have ab:=tc (A++X) Y C M;have aq:=sQ A X (Y++C);have ar:=sQ (A++X) Y C;rw[<-kF]at aa aq;simp only[ib]at ab ar;have hlen:(A++X++Y++C).length=n:=by simp;omega
 refine Ao func220 fx fE ?_;obtain⟨mid,aX⟩:∃mid,mid=(2*A.length+X.length+Y.length)/2:=⟨_,rfl⟩
 repeat' (refine nb ?_)
 refine Zn ?_
 repeat' (refine nb ?_)
 refine Zn ?_
 repeat' (refine nb ?_)
 repeat' (first|refine xp fx ?_|refine lB ?_|refine ya fx fx fx fy fy ?_|refine LZ fx fx fE ?_|refine B1 fx fx fx fy fy ?_|refine ZI ?_|fail)
 repeat' (refine nb ?_)
 refine Zn ?_
 repeat' (refine nb ?_)
 refine Zn ?_;refine nb ?_;refine p5 (α:=Nat×Nat) (λx=>[(0,.S g 0 n cp),(1,.I (A.length:Int)),(2,.I ((A.length:Int)+X.length)),(3,.I ((A.length:Int)+X.length+Y.length)),(4,.func (.func f) #[] cap),(18,.I (mid:Int)),(19,.I ((mid:Int)+A.length+X.length)),(20,.I (x.1:Int)),(21,.I (x.2:Int))]) (aev A.length X.length Y.length mid w) ?_ ?_
 .by_cases a2:mid<A.length+X.length
  .refine wk ?_;exact gl ⟨(mid+(A.length+X.length)-(A.length+X.length+Y.length),mid),sub ⟨rfl,rfl,rfl,rfl,rfl,km fy,km fy,km (by dsimp only;omega),km (by dsimp only;omega)⟩,by dsimp only;omega,by dsimp only;omega,by dsimp only;omega,by dsimp only;omega,by dsimp only;omega,rfl⟩
  .refine wk ?_;exact gl ⟨(A.length,A.length+X.length),sub ⟨rfl,rfl,rfl,rfl,rfl,km fy,km fy,km (by dsimp only),km (by dsimp only;omega)⟩,by dsimp only;omega,by dsimp only;omega,by dsimp only;omega,by dsimp only;omega,by dsimp only;omega,rfl⟩
 rintro⟨s0,r0⟩ w0 ⟨ay,az,aA,aB,aC,rfl⟩;dsimp only at ay az aA aB aC;refine wk ?_;refine gC (α:=Nat×Nat) (λx=>[(0,.S g 0 n cp),(1,.I (A.length:Int)),(2,.I ((A.length:Int)+X.length)),(3,.I ((A.length:Int)+X.length+Y.length)),(4,.func (.func f) #[] cap),(18,.I (mid:Int)),(19,.I ((mid:Int)+A.length+X.length)),(20,.I (x.1:Int)),(21,.I (x.2:Int)),(22,.I ((mid:Int)+A.length+X.length-1))]) (Bs (zs:=zs) (λq=>¬c ((A++X++Y++C).getD (mid+(A.length+X.length)-1-q) default)<c ((A++X++Y++C).getD q default)) s0 r0 (A++X++Y++C) g w) (λx=>x.2-x.1) (s0,r0) (sub ⟨rfl,rfl,rfl,rfl,rfl,rfl,rfl,rfl,rfl,rfl⟩) ⟨aJ,Fr.refl _ _,by dsimp only;omega,by dsimp only;omega,by dsimp only;omega,fM,fM⟩ ?_;rintro⟨i,j⟩ au ⟨T,U,aF,aS,aG,R,ao⟩;dsimp only at*
 by_cases aQ:i<j
 .repeat' (first|refine xp fx ?_|refine lB ?_|refine ya fx fx fx fy fy ?_|refine LZ fx fx fE ?_|refine B1 fx fx fx fy fy ?_|refine KS ?_|fail)
  refine gH (mid+(A.length+X.length)-1-(i+j)/2) ((mid+(A.length+X.length)-1-(i+j)/2)*2) fx fx fx fy fy fy ?_;refine FY T fx fx fy ?_;refine wk ?_;refine gH ((i+j)/2) (((i+j)/2)*2) fx fx fx fy fy fy ?_;refine FY T fx fx fy ?_;have aU:=aq ((i+j)/2) fy fy;have aV:=ar (mid+(A.length+X.length)-1-(i+j)/2) fy fy;refine Tu ((am.fr U).fr (Fr.drew _ _)) fx fx (ad _ (ze _ aV)) (ad _ (wB _ aU)) (λz a5 ai aI=>?_)
  by_cases fY:c ((A++X++Y++C).getD (mid+(A.length+X.length)-1-(i+j)/2) default)<c ((A++X++Y++C).getD ((i+j)/2) default)
  .have aY:=aI.2 fY;refine wk ?_;refine gl ⟨(i,(i+j)/2),sub ⟨rfl,rfl,rfl,rfl,rfl,rfl,rfl,rfl,km (by dsimp only;omega),rfl⟩,⟨T.dr.ext ai,U.d.te ai,aF,by dsimp only;omega,by dsimp only;omega,R,λq h1 al=>?_⟩,by dsimp only;omega⟩;dsimp only at*
   by_cases e:q=(i+j)/2
   .rw[e];omega
   .have k1:=aa ((i+j)/2) q fy fy fy;have k2:=ab (mid+(A.length+X.length)-1-q) (mid+(A.length+X.length)-1-(i+j)/2) fy fy fy;unfold lt at k1 k2;omega
  .have aY:¬z<0:=λh=>fY (aI.1 h)
   refine wk ?_;refine gl ⟨((i+j)/2+1,j),sub ⟨rfl,rfl,rfl,rfl,rfl,rfl,rfl,km (by dsimp only;omega),rfl,rfl⟩,⟨T.dr.ext ai,U.d.te ai,by dsimp only;omega,by dsimp only;omega,aG,λq h1 al=>?_,ao⟩,by dsimp only;omega⟩;dsimp only at*
   by_cases e:q=(i+j)/2
   .rw[e];exact fY
   .have k1:=aa q ((i+j)/2) fy fy fy;have k2:=ab (mid+(A.length+X.length)-1-(i+j)/2) (mid+(A.length+X.length)-1-q) fy fy fy;unfold lt at k1 k2;omega
 .obtain rfl:i=j:=fy;obtain⟨B,u,rfl,aK⟩:∃P Q,X=P++Q/\P.length=i-A.length:=⟨X.take (i-A.length),X.drop (i-A.length),(mJ _ _).symm,by rw[kv];omega⟩;obtain⟨E,F,rfl,aL⟩:∃P Q,Y=P++Q/\P.length=mid-i:=⟨Y.take (mid-i),Y.drop (mid-i),(mJ _ _).symm,by rw[kv];omega⟩;simp only[ib]at*;rw[ke]at L M
  have c1:∀x∈B,∀y∈F,lt c x y:=by
   rcases Dq B with rfl|⟨B,x,rfl⟩
   .simp
   rcases F with _|⟨y,F⟩
   .simp
   rw[D3]at*;simp only[ib,iP,kL]at*;have k:=R (i-1) fy fy;have aj:=sD (A++B) x (u++E++(y::F)++C) (i-1) (by simp;omega);have ak:=sD (A++B++[x]++u++E) y (F++C) (mid+(A.length+(B.length+(0+1)+u.length))-1-(i-1)) (by simp;omega);rw[show A++(B++[x]++u)++(E++y::F)++C=(A++B++[x]++u++E)++y::(F++C)by simp,ak,show(A++B++[x]++u++E)++y::(F++C)=(A++B)++x::(u++E++(y::F)++C)by simp,aj]at k;have:=ap x iB y iB;exact Qf L.1 M.2.1 (by unfold yn at this;unfold lt;omega)
  have c2:∀y∈E,∀x∈u,lt c y x:=by
   rcases Dq E with rfl|⟨E,y,rfl⟩
   .simp
   rcases u with _|⟨x,u⟩
   .simp
   rw[D3]at*;simp only[ib,iP,kL]at*;have k:=ao i fy fy;have aj:=sD (A++B) x (u++(E++[y]++F)++C) i (by simp;omega);have ak:=sD (A++B++[x]++u++E) y (F++C) (mid+(A.length+(B.length+(u.length+1)))-1-i) (by simp;omega);rw[show A++(B++x::u)++(E++[y]++F)++C=(A++B++[x]++u++E)++y::(F++C)by simp,ak,show(A++B++[x]++u++E)++y::(F++C)=(A++B)++x::(u++(E++[y]++F)++C)by simp,aj]at k;exact Qf M.1 L.2.1 (.inl fy)
  have hi:i=A.length+B.length:=fy;have aW:mid=A.length+B.length+E.length:=fy;have a1:0<B.length+E.length:=fy;have K:0<u.length+F.length:=fy;clear aa ab aq ar R ao ay az aA aB aC aF aS aG aQ aX hlen;subst hi;subst aW
  repeat' (refine nb ?_)
  refine Zn ?_;refine nb ?_;refine Zn ?_;refine nb ?_;refine p5 (α:=Unit) (λ_=>[(0,.S g 0 n cp),(1,.I (A.length:Int)),(3,.I ((A.length:Int)+(B.length+u.length)+(E.length+F.length))),(4,.func (.func f) #[] cap),(18,.I ((A.length:Int)+B.length+E.length)),(20,.I ((A.length:Int)+B.length)),(24,.I ((A.length:Int)+B.length+E.length+u.length))]) (λ_ w'=>DB zs w' g (A++B++E++u++F++C)/\Fr (· =g) w w') ?_ ?_
  .by_cases H:0<u.length/\0<E.length
   .refine wk ?_;refine fI (S:=λ_ w'=>DB zs w' g ((A++B)++E++u++(F++C))/\Fr (· =g) au w') fx fx (H7 au g n cp _ (A++B) u E (F++C) (by simpa using T) (by simp only[ib];omega) aR _ _ _ iB (by simp only[ib];omega) (by simp only[ib];omega) H.1 H.2) ?_;rintro v av ⟨K,aN⟩;refine wk ?_;exact gl ⟨(),sub ⟨rfl,rfl,km fy,rfl,km fy,km fy,km fy⟩,by simpa using K,U.t aN⟩
   .have K:DB zs au g (A++B++E++u++F++C):=by
     have:u=[]\/E=[]:=by
      rcases u with _|⟨_,_⟩
      .exact .inl fx
      .rcases E with _|⟨_,_⟩
       .exact .inr fx
       .exact absurd ⟨by simp,by simp⟩ H
     rcases this with rfl|rfl<;>simpa using T
    by_cases aH:0<u.length
    .refine wk ?_;exact gl ⟨(),sub ⟨rfl,rfl,km fy,rfl,km fy,km fy,km fy⟩,K,U⟩
    .refine wk ?_;exact gl ⟨(),sub ⟨rfl,rfl,km fy,rfl,km fy,km fy,km fy⟩,K,U⟩
  rintro _ av ⟨K,af⟩;refine nb ?_;refine p5 (α:=ip Tg) (λ_=>[(0,.S g 0 n cp),(3,.I ((A.length:Int)+(B.length+u.length)+(E.length+F.length))),(4,.func (.func f) #[] cap),(18,.I ((A.length:Int)+B.length+E.length)),(24,.I ((A.length:Int)+B.length+E.length+u.length))]) (λZ w'=>Z.Perm (B++E)/\Z.Pairwise (lt c)/\DB zs w' g (A++Z++u++F++C)/\Fr (· =g) w w') ?_ ?_
  .by_cases H:0<B.length/\0<E.length
   .refine wk ?_;refine fI (S:=λ_ w'=>∃Z,Z.Perm (B++E)/\Z.Pairwise (lt c)/\DB zs w' g (A++Z++(u++F++C))/\Fr (· =g) av w') fx fx (ax av A B E (u++F++C) fy (by simpa using K) (by simp;omega) (am.fr af) (λx O=>ad x (by rcases iS.1 O with h|h<;>simp[h])) L.1 M.1 (λx O y R=>ap x (by simp[O]) y (by simp[R])) H.1 H.2 _ _ _ fx fx fx) ?_;rintro v aw ⟨Z,V,an,W,aO⟩;refine wk ?_;exact gl ⟨Z,sub ⟨rfl,rfl,rfl,rfl,rfl⟩,V,an,by simpa using W,af.t aO⟩
   .have ah:(B++E).Pairwise (lt c):=by
     have:B=[]\/E=[]:=by
      rcases B with _|⟨_,_⟩
      .exact .inl fx
      .rcases E with _|⟨_,_⟩
       .exact .inr fx
       .exact absurd ⟨by simp,by simp⟩ H
     rcases this with rfl|rfl
     .simpa using M.1
     .simpa using L.1
    by_cases aH:0<B.length
    .refine wk ?_;exact gl ⟨B++E,sub ⟨rfl,rfl,rfl,rfl,rfl⟩,tE _,ah,by simpa using K,af⟩
    .refine wk ?_;exact gl ⟨B++E,sub ⟨rfl,rfl,rfl,rfl,rfl⟩,tE _,ah,by simpa using K,af⟩
  rintro Z aw ⟨V,an,W,ag⟩;have aT:=V.length_eq;simp only[ib]at aT
  have fin:∀G,G.Perm (u++F)->G.Pairwise (lt c)->(Z++G).Perm (B++u++(E++F))/\(Z++G).Pairwise (lt c):=λG h1 al=>by
   refine⟨(List.Perm.append V h1).trans ?_,ke.2 ⟨an,al,λp N q hq=>?_⟩⟩
   .simp only[kF];refine Wm B ?_;rw[<-kF,<-kF];exact W5 F List.perm_append_comm
   .rcases iS.1 (V.subset N)with N|N<;>rcases iS.1 (h1.subset hq)with hq|hq
    .exact L.2.2 p N q hq
    .exact c1 p N q hq
    .exact c2 p N q hq
    .exact M.2.2 p N q hq
  by_cases H:0<u.length/\0<F.length
  .refine wk ?_;refine fI (S:=λ_ w'=>∃G,G.Perm (u++F)/\G.Pairwise (lt c)/\DB zs w' g ((A++Z)++G++C)/\Fr (· =g) aw w') fx fx (ax aw (A++Z) u F C fy (by simpa using W) (by simp;omega) (am.fr ag) (λx O=>ad x (by rcases iS.1 O with h|h<;>simp[h])) L.2.1 M.2.1 (λx O y R=>ap x (by simp[O]) y (by simp[R])) H.1 H.2 _ _ _ (by simp;omega) (by simp;omega) (by simp;omega)) ?_;rintro v a4 ⟨G,aD,aE,aM,aP⟩;refine wk ?_;exact mr fx ⟨Z++G,(fin G aD aE).1,(fin G aD aE).2,by simpa using aM,ag.t aP⟩
  .have ah:(u++F).Pairwise (lt c):=by
    have:u=[]\/F=[]:=by
     rcases u with _|⟨_,_⟩
     .exact .inl fx
     .rcases F with _|⟨_,_⟩
      .exact .inr fx
      .exact absurd ⟨by simp,by simp⟩ H
    rcases this with rfl|rfl
    .simpa using M.2.1
    .simpa using L.2.1
   have ae:=fin (u++F) (tE _) ah
   by_cases aH:0<u.length
   .refine wk ?_;exact mr fx ⟨Z++(u++F),ae.1,ae.2,by simpa using W,ag⟩
   .refine wk ?_;exact mr fx ⟨Z++(u++F),ae.1,ae.2,by simpa using W,ag⟩
theorem pf (f:FuncId) (cap:Array i6) (D:Tg->Prop) (c:Tg->Int) (g n cp:Nat) (t:n<=100000):∀(N:Nat) (w:i5) (A X Y C:ip Tg),X.length+Y.length<=N->DB zs w g (A++X++Y++C)->n=A.length+X.length+Y.length+C.length->pE g w f cap D c->(∀x∈X++Y,D x)->
  X.Pairwise (lt c)->Y.Pairwise (lt c)->(∀x∈X,∀y∈Y,yn c x y)->0<X.length->0<Y.length->∀a m b:Int,a=A.length->m=A.length+X.length->b=A.length+X.length+Y.length->
  fQ prog 220 #[.S g 0 n cp,.I a,.I m,.I b,.func (.func f) #[] cap] w λ_ w'=>∃Z,Z.Perm (X++Y)/\Z.Pairwise (lt c)/\DB zs w' g (A++Z++C)/\Fr (· =g) w w'
 |0,w,A,X,Y,C,O,_,_,_,_,_,_,_,d,_,_,_,_,_,_,_=>fy
 |N+1,w,A,X,Y,C,O,u,G,v,B,H,I,J,d,F,a,m,b,Q,hm,R=>by
  subst Q;subst hm;subst R
  by_cases E:X.length=1
  .exact smA f cap D c g n cp t w A X Y C u G v B H I J d F E
  by_cases K:Y.length=1
  .exact smB f cap D c g n cp t w A X Y C u G v B H I J d F E K
  exact smC f cap D c g n cp t w A X Y C u G v B H I J d F E K λw A L M C h1=>pf f cap D c g n cp t N w A L M C fy
