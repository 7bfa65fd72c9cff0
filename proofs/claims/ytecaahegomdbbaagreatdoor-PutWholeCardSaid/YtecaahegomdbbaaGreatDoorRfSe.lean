/- Parts of the proof. -/
import Derived.Test.YtecaahegomdbbaaGreatDoorRfB0a
set_option linter.all false
set_option maxRecDepth 100000
set_option maxHeartbeats 64000000
namespace Go.Proofs.YtecaahegomdbbaaGreatDoor.gp
open Go.Proofs.Tryz
open Go.RowKit
variable {af:Array Edge} {full:Array Oper} {env:Env} {K:Env->World->Prop} {hs:List Nat} {rest:List Oper} {g q zs:Nat} {x y:Operand} {dst:Option Tmp} {pos:String} {d:Tmp} {ty:TypeId} {w w':World} {H:World->Prop}
section
abbrev Tg:=Nat×En
def Bt (x:Tg):List Value:=hI x.2
theorem EG (x:Tg):(Bt x).length=2:=rfl
def DB (zs:Nat) (w:World) (g:Nat) (l:List Tg):Prop:=∃rest:List Value,l.length*2+rest.length=zs/\fU w g 49 (l.flatMap Bt++rest).toArray
theorem DB.cell {w:World} {g:Nat} {l:List Tg} (h:DB zs w g l) {i:Nat} {z:Tg} (a:l[i]? =some z) {j:Nat} {u:Value} (hu:(Bt z)[j]? =some u):w.cell? ⟨g,i*2+j,none⟩=some u:=by
 obtain⟨rest,_,h⟩:=h;rw[h.cell,pB];have:=flat_get EG a hu;rw[pR (j0.1 this).1];exact this
theorem DB.lt {w:World} {g:Nat} {l:List Tg} (h:DB zs w g l):g<w.heap.size:=by obtain⟨rest,a,h⟩:=h;exact h.lt
theorem DB.fr {S:Nat->Prop} {w w':World} {g:Nat} {l:List Tg} (h:DB zs w g l) (d:Fr S w w') (a:¬S g):DB zs w' g l:=by obtain⟨rest,f,h⟩:=h;exact⟨rest,f,h.fr d a⟩
theorem DB.dr {l:List Tg} (h:DB zs w g l):DB zs w.drew g l:=h
theorem DB.ext {l:List Tg} (h:DB zs w g l) (a:Ext w w'):DB zs w' g l:=h.fr a λd=>d
theorem Ge {i:Nat} {l:List Tg} (a:DB zs w g l) (f:gh env x=some (.pointer (some ⟨g,q,none⟩))) (hq:q=i*2) (hi:i<l.length)
  (h:xs prog fD fC hs H full K rest ((d,.agg (Bt (l.getD i default)).toArray)::env) w) (hm:nK hs (some d)=false:=by rfl):xs prog fD fC hs H full K (⟨some d,.load 49 x,ty,pos,af,none⟩::rest) env w:=by
 subst hq;have m:l[i]? =some (l.getD i default):=by rw[kv,kp hi];rfl
 exact hL (cs:=Bt (l.getD i default)) f fF (λj u hu=>a.cell m hu) h hm
theorem adg {t f:TypeId} {cs:Array Value} {u v:Value} (a:fU w g f cs) (s:gh env x=some (.pointer (some ⟨g,q,none⟩))) (B:gh env y=some (.agg #[u,v])) (ht:get ks t=some 2) (hu:u.oneCell'=true) (I:v.oneCell'=true) (hi:q+1<cs.size)
  (h:∀w',fU w' g f ((cs.setIfInBounds q u).setIfInBounds (q+1) v)->Fr (· =g) w w'->xs prog fD fC hs H full K rest env w') (hH:∀w',Fr (· =g) w w'->H w':=by intros;trivial):xs prog fD fC hs H full K (⟨none,.store t x y,ty,pos,af,none⟩::rest) env w:=by
 obtain⟨_,i,D,E⟩:=kD ht;refine gR fx (by simp[fX,Op.operands,s,B]) ?_;have c0:w.cell? ⟨g,q,none⟩=some (cs[q]'fy):=by rw[a.cell];simp[show q<cs.size by omega]
 have d:=a.W0 q u;have c1:(w.setCell ⟨g,q,none⟩ u).cell? ⟨g,q+1,none⟩=some ((cs.setIfInBounds q u)[q+1]'(by simpa using hi)):=by rw[d.cell];simp[hi]
 have F:=d.W0 (q+1) v;have m:Fr (· =g) w (w.setCell ⟨g,q,none⟩ u):=Fr.setCell _ w ⟨g,q,none⟩ u λ_=>rfl
 have n:Fr (· =g) (w.setCell ⟨g,q,none⟩ u) ((w.setCell ⟨g,q,none⟩ u).setCell ⟨g,q+1,none⟩ v):=Fr.setCell _ _ ⟨g,q+1,none⟩ v λ_=>rfl
 have f0:w.frozen? ⟨g,q,none⟩=false:=a.frozen q;have f1:(w.setCell ⟨g,q,none⟩ u).frozen? ⟨g,q+1,none⟩=false:=d.frozen (q+1)
 have G:(storeVar t ⟨g,q,none⟩ (.agg #[u,v])).run prog w= .ok () ((w.setCell ⟨g,q,none⟩ u).setCell ⟨g,q+1,none⟩ v):=by
  have C:Addr.add ⟨g,q,none⟩ 1=⟨g,q+1,none⟩:=nf g q 1;simp[storeVar,Value.cells,sizeOf,typeInfo,D,E,storeCells,Addr.add_zero',C,run_store _ _ _ _ _ hu,run_store _ _ _ _ _ I,c0,c1,f0,f1]
 show out prog ((execOp (ev env) ⟨none,.store t x y,ty,pos,af,none⟩).run prog w) _
 have e:(execOp (ev env) ⟨none,.store t x y,ty,pos,af,none⟩).run prog w= .ok .skip ((w.setCell ⟨g,q,none⟩ u).setCell ⟨g,q+1,none⟩ v):=by
  simp[execOp,fM s,fM B,Instr.storeAt,Instr.sureAddr,G]
 rw[e];exact⟨hH _ (m.t n),h _ F (m.t n)⟩
theorem G9:∀(l:List Tg) (i:Nat) (z:Tg) (r:List Value),i<l.length->((l.flatMap Bt++r).set (i*2) (.string (su z.2.path))).set (i*2+1) (.int .i64 z.2.node)=(l.set i z).flatMap Bt++r
 |[],i,_,_,h=>by simp at h
 |x::l,0,z,r,_=>rfl
 | x::l,i+1,z,r,h=>by
  have d:=G9 l i z r (by simpa using h);have e:(x::l).flatMap Bt++r= .string (su x.2.path):: .int .i64 x.2.node::(l.flatMap Bt++r):=rfl
  have a:(((x::l).flatMap Bt++r).set ((i+1)*2) (.string (su z.2.path))).set ((i+1)*2+1) (.int .i64 z.2.node)= .string (su x.2.path):: .int .i64 x.2.node::(((l.flatMap Bt++r).set (i*2) (.string (su z.2.path))).set (i*2+1) (.int .i64 z.2.node)):=by
   rw[e,show(i+1)*2=i*2+2 from by omega];rfl
  rw[a,d];rfl
theorem G4 {i:Nat} {l:List Tg} {z:Tg} (a:DB zs w g l) (n:gh env x=some (.pointer (some ⟨g,q,none⟩))) (s:gh env y=some (.agg (Bt z).toArray)) (hq:q=i*2) (hi:i<l.length)
  (h:∀w',DB zs w' g (l.set i z)->Fr (· =g) w w'->xs prog fD fC hs H full K rest env w') (hH:∀w',Fr (· =g) w w'->H w':=by intros;trivial):xs prog fD fC hs H full K (⟨none,.store 49 x y,ty,pos,af,none⟩::rest) env w:=by
 subst hq;obtain⟨r,t,a⟩:=a;have m:=gl EG l;refine adg (u:= .string (su z.2.path)) (v:= .int .i64 z.2.node) a n s fF fx fx (by simp only[nz,hQ,m];omega) (λw' d f=>h w' ⟨r,by rw[mo];exact t,?_⟩ f) hH;rw[Hl,Hl,G9 l i z r hi]at d;exact d
def swp (l:List Tg) (i j:Nat):List Tg:=(l.set i (l.getD j default)).set j (l.getD i default)
@[simp] theorem Xo (l:List Tg) (i j:Nat):(swp l i j).length=l.length:=by simp[swp]
theorem oV (A:List Tg) (x:Tg) (C:List Tg) (i:Nat) (h:i=A.length):(A++x::C).getD i default=x:=by subst h;simp
theorem K5 (A:List Tg) (x y:Tg) (C:List Tg) (i:Nat) (h:i=A.length):(A++x::C).set i y=A++y::C:=by subst h;simp
theorem EK (A:List Tg) (x:Tg) (M:List Tg) (y:Tg) (C:List Tg) (i j:Nat) (hi:i=A.length) (d:j=A.length+1+M.length):swp (A++x::(M++y::C)) i j=A++y::(M++x::C):=by
 unfold swp;rw[oV A x _ i hi,K5 A x _ _ i hi];have e:∀a:Tg,A++a::(M++y::C)=(A++a::M)++y::C:=λa=>by simp
 rw[e x,oV _ y C j (by simp;omega),e,K5 _ y _ C j (by simp;omega)];simp
theorem E6 (A:List Tg) (x:Tg) (M:List Tg) (y:Tg) (C:List Tg) (i j:Nat) (hi:i=A.length) (a:j=A.length+1+M.length):swp (A++x::(M++y::C)) j i=A++y::(M++x::C):=by
 rw[←EK A x M y C i j hi a];unfold swp;rw[List.set_comm _ _ fy]
def BC (l:List Tg) (a b:Nat):Nat->List Tg
 |0=>l
 |i+1=>swp (BC l a b i) (a+i) (b+i)
@[simp] theorem Hn (l:List Tg) (a b i:Nat):(BC l a b i).length=l.length:=by induction i with
 |zero=>rfl
 |succ i d=>simp[BC,d]
theorem LA (A X M Y C:List Tg) (g:X.length=Y.length):∀i,i<=X.length->BC (A++X++M++Y++C) A.length (A.length+X.length+M.length) i=A++Y.take i++X.drop i++M++X.take i++Y.drop i++C
 |0,_=>by simp[BC]
 |i+1,h=>by
  rw[BC,LA A X M Y C g i fy];obtain⟨x,a⟩:∃x,X[i]? =some x:=⟨_,kp fy⟩;obtain⟨y,d⟩:∃y,Y[i]? =some y:=⟨_,kp fy⟩;have m:X.drop i=x::X.drop (i+1):=by rw[EJ fy];rw[kp fy]at a;injection a with a;rw[a]
  have n:Y.drop i=y::Y.drop (i+1):=by rw[EJ fy];rw[kp fy]at d;injection d with d;rw[d]
  have u:X.take (i+1)=X.take i++[x]:=by rw[kO,a];rfl
  have v:Y.take (i+1)=Y.take i++[y]:=by rw[kO,d];rfl
  have f:(Y.take i).length=i:=by rw[kt];omega
  have t:(X.take i).length=i:=by rw[kt];omega
  have s:(X.drop (i+1)).length=X.length-(i+1):=lH;rw[m,n,u,v];have:=EK (A++Y.take i) x (X.drop (i+1)++M++X.take i) y (Y.drop (i+1)++C) (A.length+i) (A.length+X.length+M.length+i) (by simp[f]) (by simp only[hQ,f,s,t];omega);simpa using this
structure aej (l:List Tg) (a b n g:Nat) (w0:World) (i:Nat) (w:World):Prop where
 le:i<=n
 db:DB zs w g (BC l a b i)
 fr:Fr (· =g) w0 w
theorem AN (w:World) (g n c a b k:Nat) (s:Value) (l:List Tg) (u:DB zs w g l) (C:n=l.length) (F:n<=100000) (D:a+k<=n) (E:b+k<=n):
  fL prog 309 #[.slice (some ⟨g,0,none⟩) n c,.int .i64 a,.int .i64 b,.int .i64 k,s] w λ_ w'=>DB zs w' g (BC l a b k)/\Fr (· =g) w w':=by
 refine z7 func309 fx fF ?_;refine wk ?_;refine gA (α:=Nat) (λi=>[(0,.slice (some ⟨g,0,none⟩) n c),(1,.int .i64 (a:Int)),(2,.int .i64 (b:Int)),(3,.int .i64 (k:Int)),(10,.int .i64 (i:Int))]) (aej (zs:=zs) l a b k g w) (λi=>k-i) 0 (sub ⟨rfl,rfl,rfl,rfl,rfl⟩) ⟨fy,u,Fr.refl _ _⟩ ?_;rintro i G ⟨hi,f,m⟩;have hlen:(BC l a b i).length=n:=by rw[Hn,C]
 by_cases fW:i<k
 ·repeat' (first|refine IW ?_|refine gF (b+i) ((b+i)*2) rfl rfl rfl fy fy fy ?_|refine gF (a+i) ((a+i)*2) rfl rfl rfl fy fy fy ?_|refine Ge (by assumption) rfl rfl fy ?_|fail)
  refine G4 f fx fx fx fy (λH v y=>?_)
  repeat' (first|refine IW ?_|refine gF (b+i) ((b+i)*2) rfl rfl rfl fy fy fy ?_|refine gF (a+i) ((a+i)*2) rfl rfl rfl fy fy fy ?_|fail)
  refine G4 v fx fx fx (by rw[mo];omega) (λI x B=>?_);refine wk ?_;exact gn ⟨i+1,sub ⟨rfl,rfl,rfl,rfl,rfl⟩,⟨fy,by simpa[BC,swp]using x,(m.d.t y).t B⟩,by dsimp only;omega⟩
 ·obtain rfl:i=k:=fy;refine wk ?_;exact lX fx ⟨f,m⟩
theorem n0 (w:World) (g n c:Nat) (f:Value) (A X M Y C:List Tg) (u:DB zs w g (A++X++M++Y++C)) (d:X.length=Y.length) (m:n=(A++X++M++Y++C).length) (y:n<=100000) (a b k:Int) (v:a=A.length) (x:b=A.length+X.length+M.length) (hk:k=X.length):
  fL prog 309 #[.slice (some ⟨g,0,none⟩) n c,.int .i64 a,.int .i64 b,.int .i64 k,f] w λ_ w'=>DB zs w' g (A++Y++M++X++C)/\Fr (· =g) w w':=by
 have B:=m;simp only[hQ]at B;have:=AN w g n c A.length (A.length+X.length+M.length) X.length f _ u m y fy fy;rw[LA A X M Y C d X.length (gJ _)]at this;have e:(List.drop X.length X)=[]:=by simp
 have s:Y.drop X.length=[]:=by rw[d];simp
 have t:Y.take X.length=Y:=by rw[d];simp
 rw[e,s,t,km]at this;subst v;subst x;subst hk;simpa using this
structure ad0 (T:List Tg) (m g:Nat) (w0:World) (x:List Tg×List Tg×List Tg×List Tg) (w:World):Prop where
 db:DB zs w g (x.1++x.2.1++x.2.2.1++x.2.2.2)
 tgt:x.1++x.2.2.1++x.2.1++x.2.2.2=T
 mid:x.1.length+x.2.1.length=m
 p1:0<x.2.1.length
 p2:0<x.2.2.1.length
 fr:Fr (· =g) w0 w
theorem HE (w:World) (g n c:Nat) (B:Value) (A X Y C:List Tg) (M:DB zs w g (A++X++Y++C)) (U:n=A.length+X.length+Y.length+C.length) (J:n<=100000) (a m b:Int) (N:a=A.length) (hm:m=A.length+X.length) (O:b=A.length+X.length+Y.length) (h1:0<X.length) (L:0<Y.length):
  fL prog 269 #[.slice (some ⟨g,0,none⟩) n c,.int .i64 a,.int .i64 m,.int .i64 b,B] w λ_ w'=>DB zs w' g (A++Y++X++C)/\Fr (· =g) w w':=by
 subst N;subst hm;subst O;refine z7 func269 fx fF ?_;refine wk ?_;refine gA (α:=List Tg×List Tg×List Tg×List Tg) (λx=>[(0,.slice (some ⟨g,0,none⟩) n c),(2,.int .i64 ((A.length:Int)+X.length)),(4,B),(10,.int .i64 (x.2.1.length:Int)),(11,.int .i64 (x.2.2.1.length:Int))]) (ad0 (zs:=zs) (A++Y++X++C) (A.length+X.length) g w) (λx=>x.2.1.length+x.2.2.1.length) (A,X,Y,C) (sub ⟨rfl,rfl,rfl,jX (by dsimp only;omega),jX (by dsimp only;omega)⟩) ⟨M,rfl,rfl,h1,L,Fr.refl _ _⟩ ?_;rintro⟨s,f,d,u⟩ y ⟨H,F,T,V,W,I⟩;dsimp only at*;have fW:=congrArg List.length F;simp only[hQ]at fW
 by_cases he:f.length=d.length
 ·refine wk ?_;refine fI (S:=λ_ w'=>DB zs w' g (s++d++[]++f++u)/\Fr (· =g) y w') fx fx (n0 y g n c B s f [] d u (by simpa using H) he (by simp;omega) J _ _ _ fy (by simp;omega) fy) ?_;rintro v K ⟨D,E⟩;refine wk ?_;refine lX fx ⟨?_,I.t E⟩;rw[←F];simpa using D
 ·by_cases R:d.length<f.length
  ·obtain⟨P,Q,rfl,G⟩:∃P Q,f=P++Q/\P.length=d.length:=⟨f.take d.length,f.drop d.length,(lv _ _).symm,by rw[kt];omega⟩;simp only[hQ]at*;refine wk ?_;refine fI (S:=λ_ w'=>DB zs w' g (s++d++Q++P++u)/\Fr (· =g) y w') fx fx (n0 y g n c B s P Q d u (by simpa using H) G (by simp;omega) J _ _ _ fy fy fy) ?_;rintro v K ⟨D,E⟩;refine wk ?_;exact gn ⟨(s++d,Q,P,u),sub ⟨rfl,rfl,rfl,jX (by dsimp only;omega),jX (by dsimp only;omega)⟩,⟨by simpa using D,by rw[←F];simp,by simp;omega,by dsimp only;omega,by dsimp only;omega,I.t E⟩,by dsimp only;(try simp only[hQ]);omega⟩
  ·obtain⟨P,Q,rfl,G⟩:∃P Q,d=P++Q/\Q.length=f.length:=⟨d.take (d.length-f.length),d.drop (d.length-f.length),(lv _ _).symm,by rw[lH];omega⟩;simp only[hQ]at*;refine wk ?_;refine fI (S:=λ_ w'=>DB zs w' g (s++Q++P++f++u)/\Fr (· =g) y w') fx fx (n0 y g n c B s f P Q u (by simpa using H) G.symm (by simp;omega) J _ _ _ fy fy fy) ?_;rintro v K ⟨D,E⟩;refine wk ?_;exact gn ⟨(s,Q,P,f++u),sub ⟨rfl,rfl,rfl,jX (by dsimp only;omega),jX (by dsimp only;omega)⟩,⟨by simpa using D,by rw[←F];simp,by dsimp only;omega,by dsimp only;omega,by dsimp only;omega,I.t E⟩,by dsimp only;(try simp only[hQ]);omega⟩
end
section
def pw (g:Nat) (w:World) (f:FuncId) (cap:Array Value) (D:Tg->Prop) (c:Tg->Int):Prop:=
 bit qs f=true/\∀w',Fr (· =g) w w'->∀x y,D x->D y->fL prog f (#[.agg (Bt x).toArray,.agg (Bt y).toArray]++cap) w' λr a=>Ext w' a/\∃z,r= .int .i64 z/\(z<0↔c x<c y)
theorem pw.fr {f:FuncId} {cap:Array Value} {D:Tg->Prop} {c:Tg->Int} (h:pw g w f cap D c) (d:Fr (· =g) w w'):pw g w' f cap D c:=⟨h.1,λm a=>h.2 m (d.t a)⟩
theorem Tm {f:FuncId} {t:Tmp} {cap:Array Value} {D:Tg->Prop} {c:Tg->Int} {a b:Operand} {m:Array TypeId} {x y:Tg} (d:pw g w f cap D c) (C:gh env (.tmp t)=some (.func (.func f) #[] cap)) (B:Ol env [a,b]=some [.agg (Bt x).toArray,.agg (Bt y).toArray]) (n:D x) (s:D y)
  (h:∀z w',Ext w w'->(z<0↔c x<c y)->xs prog fD fC hs gL full K rest (put env dst (.int .i64 z)) w'):xs prog fD fC hs gL full K (⟨dst,.call {callee:= .value (.tmp t),args:= #[a,b],argTypes:=m},ty,pos,af,none⟩::rest) env w:=
 vQ (S:=λr F=>Ext w F/\∃z,r= .int .i64 z/\(z<0↔c x<c y)) C B d.1 (d.2 w (Fr.refl _ _) x y n s) (by rintro v w' ⟨u,z,rfl,E⟩;exact h z w' u E)
def lt (c:Tg->Int) (x y:Tg):Prop:=c x<c y∨c x=c y/\x.1<y.1
def xW (c:Tg->Int) (x y:Tg):Prop:=c x=c y->x.1<y.1
theorem XI {c:Tg->Int} {x y:Tg} (h:lt c x y):xW c x y:=λe=>by unfold lt at h;omega
theorem lt_trans {c:Tg->Int} {x y z:Tg} (h:lt c x y) (a:lt c y z):lt c x z:=by unfold lt at*;omega
theorem wW {c:Tg->Int} {P:List Tg} {y x:Tg} (hs:(P++[y]).Pairwise (lt c)) (h:lt c y x):∀p∈P++[y],lt c p x:=by
 intro p a;rw[j6]at hs;rcases iK.1 a with a|a
 ·exact lt_trans (hs.2.2 p a y ir) h
 ·rw[kl.1 a];exact h
structure Fg (c:Tg->Int) (A S C:List Tg) (g:Nat) (w0:World) (x:List Tg×List Tg) (w:World):Prop where
 db:DB zs w g (A++x.1++x.2++C)
 perm:(x.1++x.2).Perm S
 zz:x.1.Pairwise (lt c)
 st:∀y∈x.1,∀z∈x.2,xW c y z
 st2:x.2.Pairwise (xW c)
 fr:Fr (· =g) w0 w
theorem Fg.dr {c:Tg->Int} {A S C:List Tg} {w0:World} {x:List Tg×List Tg} (h:Fg (zs:=zs) c A S C g w0 x w):Fg (zs:=zs) c A S C g w0 x w.drew:=⟨h.db,h.perm,h.zz,h.st,h.st2,h.fr.d⟩
theorem Fg.ex {c:Tg->Int} {A S C:List Tg} {w0:World} {x:List Tg×List Tg} (h:Fg (zs:=zs) c A S C g w0 x w) (he:Ext w w'):Fg (zs:=zs) c A S C g w0 x w':=⟨h.db.ext he,h.perm,h.zz,h.st,h.st2,h.fr.te he⟩
structure aeD (c:Tg->Int) (A S1:List Tg) (v:Tg) (C:List Tg) (g:Nat) (w0:World) (x:List Tg×List Tg) (w:World):Prop where
 db:DB zs w g (A++x.1++v::x.2++C)
 eq:x.1++x.2=S1
 gt:∀q∈x.2,c v<c q
 fr:Fr (· =g) w0 w
theorem rE (w:World) (g n cp:Nat) (f:FuncId) (cap:Array Value) (D:Tg->Prop) (c:Tg->Int) (A S C:List Tg) (N:DB zs w g (A++S++C)) (an:n=A.length+S.length+C.length) (ar:n<=100000) (ad:pw g w f cap D c) (R:∀x∈S,D x) (H:S.Pairwise (xW c)) (a b:Int) (ak:a=A.length) (al:b=A.length+S.length):
  fL prog 219 #[.slice (some ⟨g,0,none⟩) n cp,.int .i64 a,.int .i64 b,.func (.func f) #[] cap] w λ_ w'=>∃G,G.Perm S/\G.Pairwise (lt c)/\DB zs w' g (A++G++C)/\Fr (· =g) w w':=by
 subst ak;subst al;refine wS func219 fx fF ?_;refine wk ?_;rcases S with _|⟨s0,S⟩
 ·refine gA (α:=Unit) (λ_=>[(2,.int .i64 ((A.length:Int)+([]:List Tg).length)),(8,.int .i64 ((A.length:Int)+1))]) (λ_ w'=>w=w') (λ_=>0) () (sub ⟨rfl,rfl⟩) fx ?_;rintro _ Y rfl;simp only[kh];refine wk ?_;exact lX fx ⟨[],sS _,List.Pairwise.nil,N,Fr.refl _ _⟩
 rw[jr]at H;refine gA (α:=List Tg×List Tg) (λx=>[(0,.slice (some ⟨g,0,none⟩) n cp),(1,.int .i64 (A.length:Int)),(2,.int .i64 ((A.length:Int)+(s0::S).length)),(3,.func (.func f) #[] cap),(8,.int .i64 ((A.length:Int)+x.1.length))]) (Fg (zs:=zs) c A (s0::S) C g w) (λx=>x.2.length) ([s0],S) (sub ⟨rfl,rfl,rfl,rfl,jX (by dsimp only;simp)⟩) ⟨by simpa using N,by simp,by simp,λy s z u=>by rw[kl.1 s];exact H.1 z u,H.2,Fr.refl _ _⟩ ?_;rintro⟨E,m⟩ Y ⟨T,F,B,K,L,I⟩;dsimp only at*;have hlen:=F.length_eq;simp only[hQ]at hlen;rcases m with _|⟨v,m⟩
 ·simp only[kh]at hlen;refine wk ?_;refine lX fx ⟨E,by simpa using F,B,by simpa using T,I⟩
 ·simp only[iA]at hlen an;simp only[iA];have ag:D v:=R v (F.subset ir);have ae:∀y∈E,D y:=λy s=>R y (F.subset (by simp[s]))
  refine wk ?_;refine gA (α:=List Tg×List Tg) (λx=>[(0,.slice (some ⟨g,0,none⟩) n cp),(1,.int .i64 (A.length:Int)),(2,.int .i64 ((A.length:Int)+((S.length:Int)+1))),(3,.func (.func f) #[] cap),(8,.int .i64 ((A.length:Int)+E.length)),(9,.int .i64 ((A.length:Int)+x.1.length))]) (aeD (zs:=zs) c A E v (m++C) g Y) (λx=>x.1.length) (E,[]) (sub ⟨rfl,rfl,jX fy,rfl,rfl,rfl⟩) ⟨by simpa using T,by simp,by simp,Fr.refl _ _⟩ ?_;rintro⟨P,Q⟩ Z ⟨U,heq,W,J⟩;dsimp only at*;have am:=congrArg List.length heq;simp only[hQ]at am
  have done:(∀p∈P,lt c p v)->Fg (zs:=zs) c A (s0::S) C g w (P++v::Q,m) Z:=λao=>by
   subst heq;rw[j6]at B;rw[jr]at L;refine⟨by simpa using U,?_,?_,?_,L.2,I.t J⟩
   ·refine List.Perm.trans ?_ F;dsimp only;simp only[j7,qp];refine Q9 P ?_;exact(Dg (a:=v) (l₁:=Q) (l₂:=m)).symm
   ·dsimp only;rw[j6,jr];refine⟨B.1,⟨λq hq=> .inl (W q hq),B.2.1⟩,λp X q hq=>?_⟩;rcases hX.1 hq with rfl|hq
    ·exact ao p X
    ·exact B.2.2 p X q hq
   ·dsimp only;intro y s z u;rcases iK.1 s with s|s
    ·exact K y (by simp[s]) z (by simp[u])
    ·rcases hX.1 s with rfl|s
     ·exact L.1 z u
     ·exact K y (by simp[s]) z (by simp[u])
  rcases Cs P with rfl|⟨P,y,rfl⟩
  ·simp only[kh]at*;refine wk ?_;exact gn ⟨([]++v::Q,m),sub ⟨rfl,rfl,jX fy,rfl,jX (by dsimp only;simp;omega)⟩,(done ir).dr,by dsimp only;omega⟩
  ·rw[Da]at*;simp only[hQ,iA,kh]at*;have Ka:DB zs Z g ((A++P)++y::([]++v::(Q++(m++C)))):=by simpa using U
   have au:((A++P)++y::([]++v::(Q++(m++C)))).length=n:=by simp;omega
   have gv:((A++P)++y::([]++v::(Q++(m++C)))).getD (A.length+P.length+1) default=v:=by
    have:=oV (A++P++[y]) v (Q++(m++C)) (A.length+P.length+1) (by simp;omega);simpa using this
   have aa:((A++P)++y::([]++v::(Q++(m++C)))).getD (A.length+P.length) default=y:=oV (A++P) y _ _ ir;have ah:D y:=ae y (by rw[←heq];simp);refine aaw ?_;rw[gv,aa];refine Tm ((ad.fr (I.t J)).fr (Fr.drew _ _)) fx fx ag ah (λz ax M u=>?_);have V:=Ka.dr.ext M
   by_cases fW:c v<c y
   ·have aq:=u.2 fW
    repeat' (first|refine xp rfl ?_|refine lC ?_|refine gF (A.length+P.length+1) ((A.length+P.length+1)*2) rfl rfl rfl fy fy fy ?_|refine gF (A.length+P.length) ((A.length+P.length)*2) rfl rfl rfl fy fy fy ?_|refine Ge V rfl rfl fy ?_|refine IW ?_|fail)
    refine G4 V.dr fx fx fx fy (λav ab ai=>?_)
    repeat' (first|refine xp rfl ?_|refine lC ?_|refine gF (A.length+P.length) ((A.length+P.length)*2) rfl rfl rfl fy fy fy ?_|refine IW ?_|fail)
    refine G4 ab fx fx fx (by rw[mo];omega) (λaw O aj=>?_);refine wk ?_;have e:=E6 (A++P) y [] v (Q++(m++C)) (A.length+P.length) (A.length+P.length+1) ir ir;refine gn ⟨(P,y::Q),sub ⟨rfl,rfl,rfl,rfl,rfl,jX (by dsimp only;omega)⟩,⟨?_,by rw[←heq];simp,λq hq=>?_,(((J.d.te M).d.t ai).t aj)⟩,by dsimp only;omega⟩
    ·unfold swp at e;rw[gv]at*;rw[e]at O;simpa using O
    ·rcases hX.1 hq with rfl|hq
     ·exact fW
     ·exact W q hq
   ·have aq:¬z<0:=λh=>fW (u.1 h)
    refine wk ?_;refine gn ⟨((P++[y])++v::Q,m),sub ⟨rfl,rfl,jX fy,rfl,jX (by dsimp only;simp;omega)⟩,(done ?_).dr.ex M,by dsimp only;omega⟩
    have ap:lt c y v:=by
     have:=K y (by rw[←heq];simp) v ir
     by_cases he:c y=c v
     ·exact .inr ⟨he,this he⟩
     ·exact .inl fy
    rw[←heq,j6]at B;exact wW B.1 ap
end
section
theorem Lv {t n:TypeId} {k m:IntKind} {a:Int} (f:gh env x=some (.int k a)) (g:gh env y=some (.int m 1)) (hk:decide ((1:Int)<=k.bits)=true)
  (h:xs prog fD fC hs H full K rest ((d,.int k (a/2))::env) w):xs prog fD fC hs H full K (⟨some d,.binOp .shr t x y n,ty,pos,af,none⟩::rest) env w:=
 WH f g fy (of_decide_eq_true hk) h
theorem sq {c:Tg->Int} (A S C:List Tg) (h:S.Pairwise (lt c)) (q a:Nat) (h1:A.length<=q) (f:q<a) (g:a<A.length+S.length):lt c ((A++S++C).getD q default) ((A++S++C).getD a default):=by
 rw[G1]at h;have:=h (q-A.length) (a-A.length) fy fy fy
 have e:∀r,A.length<=r->(d:r-A.length<S.length)->(A++S++C).getD r default=S[r-A.length]:=λr h1 d=>by
  rw[kv,j7,qE h1,pR d,kp d];rfl
 rw[e q h1 fy,e a fy fy];exact this
theorem yf (A S C:List Tg) (q:Nat) (hq:q<S.length) (r:Nat) (a:r=A.length+q):(A++S++C).getD r default=S[q]:=by
 subst a;rw[kv,j7,qE fy,pR fy,HY,kp hq];rfl
theorem sn (A S C:List Tg) (q:Nat) (h1:A.length<=q) (a:q<A.length+S.length):(A++S++C).getD q default∈S:=by
 rw[kv,j7,qE h1,pR fy,kp fy];exact xd _
theorem OV {c:Tg->Int} {Y:List Tg} {y x:Tg} {X:List Tg} (d:(Y++[y]).Pairwise (lt c)) (a:(x::X).Pairwise (lt c)) (h:lt c y x):∀p∈Y++[y],∀q∈x::X,lt c p q:=by
 intro p f q hq;have:=wW d h p f;rcases hX.1 hq with rfl|hq
 ·exact this
 ·exact lt_trans this ((jr.1 a).1 q hq)
structure Bs (p:Nat->Prop) (lo hi:Nat) (l:List Tg) (g:Nat) (w0:World) (x:Nat×Nat) (w:World):Prop where
 db:DB zs w g l
 fr:Fr (· =g) w0 w
 l1:lo<=x.1
 l2:x.1<=x.2
 l3:x.2<=hi
 yes:∀q,lo<=q->q<x.1->p q
 no:∀q,x.2<=q->q<hi->¬p q
structure ShR (A:List Tg) (x:Tg) (Y C:List Tg) (g:Nat) (w0:World) (s:List Tg×List Tg) (w:World):Prop where
 db:DB zs w g (A++s.1++x::s.2++C)
 eq:s.1++s.2=Y
 fr:Fr (· =g) w0 w
theorem smA (f:FuncId) (cap:Array Value) (D:Tg->Prop) (c:Tg->Int) (g n cp:Nat) (av:n<=100000) (w:World) (A X Y C:List Tg) (W:DB zs w g (A++X++Y++C)) (ax:n=A.length+X.length+Y.length+C.length) (ab:pw g w f cap D c) (J:∀x∈X++Y,D x)
  (aj:X.Pairwise (lt c)) (v:Y.Pairwise (lt c)) (ak:∀x∈X,∀y∈Y,xW c x y) (ap:0<X.length) (aq:0<Y.length) (ag:X.length=1):
  fL prog 220 #[.slice (some ⟨g,0,none⟩) n cp,.int .i64 A.length,.int .i64 (A.length+X.length),.int .i64 (A.length+X.length+Y.length),.func (.func f) #[] cap] w λ_ w'=>∃Z,Z.Perm (X++Y)/\Z.Pairwise (lt c)/\DB zs w' g (A++Z++C)/\Fr (· =g) w w':=by
 have U:=sq A X (Y++C) aj;have G:=sq (A++X) Y C v;have am:=sn A X (Y++C);have T:=sn (A++X) Y C;rw[←j7]at U am;simp only[hQ]at G T;have hlen:(A++X++Y++C).length=n:=by simp;omega
 refine z7 func220 fx fF ?_;obtain⟨x,rfl⟩:∃x,X=[x]:=HR.1 ag;simp only[iA,kh]at*;refine wk ?_;refine gA (α:=Nat×Nat) (λx=>[(0,.slice (some ⟨g,0,none⟩) n cp),(1,.int .i64 (A.length:Int)),(2,.int .i64 ((A.length:Int)+1)),(3,.int .i64 ((A.length:Int)+1+Y.length)),(4,.func (.func f) #[] cap),(10,.int .i64 (x.1:Int)),(11,.int .i64 (x.2:Int))]) (Bs (zs:=zs) (λq=>c ((A++[x]++Y++C).getD q default)<c x) (A.length+1) (A.length+1+Y.length) (A++[x]++Y++C) g w) (λx=>x.2-x.1) (A.length+1,A.length+1+Y.length) (sub ⟨rfl,rfl,jX fy,jX fy,rfl,jX (by dsimp only;omega),jX (by dsimp only;omega)⟩) ⟨W,Fr.refl _ _,by dsimp only;omega,by dsimp only;omega,by dsimp only;omega,λq _ _=>by dsimp only at*;omega,λq _ _=>by dsimp only at*;omega⟩ ?_;rintro⟨i,j⟩ an ⟨B,E,ah,aw,M,R,N⟩;dsimp only at*;have V:(A++[x]++Y++C).getD A.length default=x:=by simp
 by_cases au:i<j
 ·repeat' (first|refine xp rfl ?_|refine lC ?_|refine xG rfl rfl rfl fy fy ?_|refine Lv rfl rfl fF ?_|refine Bh rfl rfl rfl fy fy ?_|refine gF ((i+j)/2) (((i+j)/2)*2) rfl rfl rfl fy fy fy ?_|refine gF A.length (A.length*2) rfl rfl rfl fy fy fy ?_|refine Ge B rfl rfl fy ?_|refine IW ?_|fail)
  rw[V];have ai:=T ((i+j)/2) fy fy;refine Tm ((ab.fr E).fr (Fr.drew _ _)) fx fx (J _ (FA _ ai)) (J _ ir) (λz aA F S=>?_)
  by_cases fW:c ((A++[x]++Y++C).getD ((i+j)/2) default)<c x
  ·have al:=S.2 fW;refine wk ?_;refine gn ⟨((i+j)/2+1,j),sub ⟨rfl,rfl,rfl,rfl,rfl,jX (by dsimp only;omega),rfl⟩,⟨B.dr.ext F,E.d.te F,by dsimp only;omega,by dsimp only;omega,M,λq h1 H=>?_,N⟩,by dsimp only;omega⟩;dsimp only at*
   by_cases e:q=(i+j)/2
   ·rw[e];exact fW
   ·have:=G q ((i+j)/2) fy fy fy;unfold lt at this;omega
  ·have al:¬z<0:=λh=>fW (S.1 h)
   refine wk ?_;refine gn ⟨(i,(i+j)/2),sub ⟨rfl,rfl,rfl,rfl,rfl,rfl,jX (by dsimp only;omega)⟩,⟨B.dr.ext F,E.d.te F,ah,by dsimp only;omega,by dsimp only;omega,R,λq h1 H=>?_⟩,by dsimp only;omega⟩;dsimp only at*
   by_cases e:q=(i+j)/2
   ·rw[e];exact fW
   ·have:=G ((i+j)/2) q fy fy fy;unfold lt at this;omega
 ·obtain rfl:i=j:=fy;obtain⟨a,m,rfl,ar⟩:∃P Q,Y=P++Q/\P.length=i-(A.length+1):=⟨Y.take (i-(A.length+1)),Y.drop (i-(A.length+1)),(lv _ _).symm,by rw[kt];omega⟩;simp only[hQ]at*;have hi:(i:Int)=A.length+1+a.length:=fy
  have p1:∀y∈a,c y<c x:=λy u=>by
   obtain⟨q,hq,rfl⟩:=Bc u;have:=R (A.length+1+q) fy fy;have e:=yf (A++[x]) a (m++C) q hq _ (by simp:A.length+1+q=(A++[x]).length+q);rw[show A++[x]++(a++m)++C=(A++[x])++a++(m++C)by simp,e]at this;exact this
  have p2:∀y∈m,¬c y<c x:=λy u=>by
   obtain⟨q,hq,rfl⟩:=Bc u;have:=N (A.length+1+a.length+q) fy fy;have e:=yf (A++[x]++a) m C q hq (A.length+1+a.length+q) (by simp;omega);rw[show A++[x]++(a++m)++C=(A++[x]++a)++m++C by simp,e]at this;exact this
  refine wk ?_;refine gA (α:=List Tg×List Tg) (λs=>[(0,.slice (some ⟨g,0,none⟩) n cp),(10,.int .i64 ((A.length:Int)+1+a.length)),(13,.int .i64 ((A.length:Int)+s.1.length))]) (ShR (zs:=zs) A x a (m++C) g an) (λs=>s.2.length) ([],a) (sub ⟨rfl,jX fy,jX (by dsimp only;simp)⟩) ⟨by simpa using B,rfl,Fr.refl _ _⟩ ?_;rintro⟨P,Q⟩ ao ⟨K,heq,L⟩;dsimp only at*;have hle:=congrArg List.length heq;simp only[hQ]at hle;rcases Q with _|⟨q,Q⟩
  ·simp only[kh]at hle;obtain rfl:P=a:=by simpa using heq
   refine wk ?_;refine F8 fx ⟨P++x::m,?_,?_,by simpa using K,E.t L⟩
   ·exact(Dg).trans ir
   ·rw[j6]at v;rw[j6,jr];refine⟨v.1,⟨λy u=>?_,v.2.1⟩,λp O q hq=>?_⟩
    ·have h1:=p2 y u;have H:=ak x ir y (by simp[u]);unfold xW at H;unfold lt;omega
    ·rcases hX.1 hq with rfl|hq
     ·exact .inl (p1 p O)
     ·exact v.2.2 p O q hq
  ·simp only[iA]at*;have Ka:DB zs ao g ((A++P)++x::([]++q::(Q++(m++C)))):=by simpa using K
   have M:((A++P)++x::([]++q::(Q++(m++C)))).length=n:=by simp;omega
   refine aaw ?_;refine G4 Ka.dr fx fx fx fy (λay aa ad=>?_)
   repeat' (first|refine xp rfl ?_|refine lC ?_|refine gF (A.length+P.length+1) ((A.length+P.length+1)*2) rfl rfl rfl fy fy fy ?_|refine IW ?_|fail)
   refine G4 aa fx fx fx (by rw[mo];omega) (λaz I ae=>?_);refine wk ?_;have e:=EK (A++P) x [] q (Q++(m++C)) (A.length+P.length) (A.length+P.length+1) ir ir;refine gn ⟨(P++[q],Q),sub ⟨rfl,rfl,jX (by dsimp only;simp;omega)⟩,⟨?_,by rw[←heq];simp,((L.d.t ad).t ae)⟩,by dsimp only;omega⟩;unfold swp at e;rw[e]at I;simpa using I
end
section
theorem smB (f:FuncId) (cap:Array Value) (D:Tg->Prop) (c:Tg->Int) (g n cp:Nat) (au:n<=100000) (w:World) (A X Y C:List Tg) (W:DB zs w g (A++X++Y++C)) (aw:n=A.length+X.length+Y.length+C.length) (ab:pw g w f cap D c) (K:∀x∈X++Y,D x)
  (u:X.Pairwise (lt c)) (aj:Y.Pairwise (lt c)) (ak:∀x∈X,∀y∈Y,xW c x y) (ap:0<X.length) (aq:0<Y.length) (af:¬X.length=1) (ag:Y.length=1):
  fL prog 220 #[.slice (some ⟨g,0,none⟩) n cp,.int .i64 A.length,.int .i64 (A.length+X.length),.int .i64 (A.length+X.length+Y.length),.func (.func f) #[] cap] w λ_ w'=>∃Z,Z.Perm (X++Y)/\Z.Pairwise (lt c)/\DB zs w' g (A++Z++C)/\Fr (· =g) w w':=by
 have G:=sq A X (Y++C) u;have U:=sq (A++X) Y C aj;have T:=sn A X (Y++C);have am:=sn (A++X) Y C;rw[←j7]at G T;simp only[hQ]at U am;have hlen:(A++X++Y++C).length=n:=by simp;omega
 refine z7 func220 fx fF ?_;obtain⟨y,rfl⟩:∃x,Y=[x]:=HR.1 ag;simp only[iA,kh]at*;have V:(A++X++[y]++C).getD (A.length+X.length) default=y:=by simp
 refine wk ?_;refine gA (α:=Nat×Nat) (λx=>[(0,.slice (some ⟨g,0,none⟩) n cp),(1,.int .i64 (A.length:Int)),(2,.int .i64 ((A.length:Int)+X.length)),(4,.func (.func f) #[] cap),(14,.int .i64 (x.1:Int)),(15,.int .i64 (x.2:Int))]) (Bs (zs:=zs) (λq=>¬c y<c ((A++X++[y]++C).getD q default)) A.length (A.length+X.length) (A++X++[y]++C) g w) (λx=>x.2-x.1) (A.length,A.length+X.length) (sub ⟨rfl,rfl,rfl,rfl,rfl,jX (by dsimp only;omega)⟩) ⟨W,Fr.refl _ _,by dsimp only;omega,by dsimp only;omega,by dsimp only;omega,λq _ _=>by dsimp only at*;omega,λq _ _=>by dsimp only at*;omega⟩ ?_;rintro⟨i,j⟩ an ⟨B,E,ah,av,N,R,O⟩;dsimp only at*
 by_cases ar:i<j
 ·repeat' (first|refine xp rfl ?_|refine lC ?_|refine xG rfl rfl rfl fy fy ?_|refine Lv rfl rfl fF ?_|refine Bh rfl rfl rfl fy fy ?_|refine gF ((i+j)/2) (((i+j)/2)*2) rfl rfl rfl fy fy fy ?_|refine gF (A.length+X.length) ((A.length+X.length)*2) rfl rfl rfl fy fy fy ?_|refine Ge B rfl rfl fy ?_|refine IW ?_|fail)
  rw[V];have ai:=T ((i+j)/2) fy fy;refine Tm ((ab.fr E).fr (Fr.drew _ _)) fx fx (K _ ir) (K _ (vL _ ai)) (λz az F S=>?_)
  by_cases fW:c y<c ((A++X++[y]++C).getD ((i+j)/2) default)
  ·have al:=S.2 fW;refine wk ?_;refine gn ⟨(i,(i+j)/2),sub ⟨rfl,rfl,rfl,rfl,rfl,jX (by dsimp only;omega)⟩,⟨B.dr.ext F,E.d.te F,ah,by dsimp only;omega,by dsimp only;omega,R,λq h1 H=>?_⟩,by dsimp only;omega⟩;dsimp only at*
   by_cases e:q=(i+j)/2
   ·rw[e];omega
   ·have:=G ((i+j)/2) q fy fy fy;unfold lt at this;omega
  ·have al:¬z<0:=λh=>fW (S.1 h)
   refine wk ?_;refine gn ⟨((i+j)/2+1,j),sub ⟨rfl,rfl,rfl,rfl,jX (by dsimp only;omega),rfl⟩,⟨B.dr.ext F,E.d.te F,by dsimp only;omega,by dsimp only;omega,N,λq h1 H=>?_,O⟩,by dsimp only;omega⟩;dsimp only at*
   by_cases e:q=(i+j)/2
   ·rw[e];exact fW
   ·have:=G q ((i+j)/2) fy fy fy;unfold lt at this;omega
 ·obtain rfl:i=j:=fy;obtain⟨a,m,rfl,af⟩:∃P Q,X=P++Q/\P.length=i-A.length:=⟨X.take (i-A.length),X.drop (i-A.length),(lv _ _).symm,by rw[kt];omega⟩;simp only[hQ]at*;have hi:(i:Int)=A.length+a.length:=fy
  have p1:∀x∈a,¬c y<c x:=λx v=>by
   obtain⟨q,hq,rfl⟩:=Bc v;have:=R (A.length+q) fy fy;have e:=yf A a (m++[y]++C) q hq _ rfl;rw[show A++(a++m)++[y]++C=A++a++(m++[y]++C)by simp,e]at this;exact this
  have p2:∀x∈m,c y<c x:=λx v=>by
   obtain⟨q,hq,rfl⟩:=Bc v;have:=O (A.length+a.length+q) fy fy;have e:=yf (A++a) m ([y]++C) q hq (A.length+a.length+q) ir;rw[show A++(a++m)++[y]++C=(A++a)++m++([y]++C)by simp,e]at this;omega
  refine wk ?_;refine gA (α:=List Tg×List Tg) (λs=>[(0,.slice (some ⟨g,0,none⟩) n cp),(14,.int .i64 ((A.length:Int)+a.length)),(17,.int .i64 ((A.length:Int)+a.length+s.1.length))]) (ShR (zs:=zs) (A++a) y m C g an) (λs=>s.1.length) (m,[]) (sub ⟨rfl,jX fy,jX (by dsimp only;omega)⟩) ⟨by simpa using B,by simp,Fr.refl _ _⟩ ?_;rintro⟨P,Q⟩ ao ⟨L,heq,M⟩;dsimp only at*;have hle:=congrArg List.length heq;simp only[hQ]at hle;rcases Cs P with rfl|⟨P,p,rfl⟩
  ·simp only[kh]at*;obtain rfl:Q=m:=by simpa using heq
   refine wk ?_;refine F8 fx ⟨a++y::Q,?_,?_,by simpa using L,E.t M⟩
   ·have:(a++y::Q).Perm (y::(a++Q)):=Dg;exact this.trans (List.perm_append_singleton _ _).symm
   ·rw[j6]at u;rw[j6,jr];refine⟨u.1,⟨λx v=> .inl (p2 x v),u.2.1⟩,λp I q hq=>?_⟩;rcases hX.1 hq with rfl|hq
    ·have h1:=p1 p I;have H:=ak p (by simp[I]) q ir;unfold xW at H;unfold lt;omega
    ·exact u.2.2 p I q hq
  ·rw[Da]at*;simp only[hQ,iA,kh]at*;have Ka:DB zs ao g ((A++a++P)++p::([]++y::(Q++C))):=by simpa using L
   have N:((A++a++P)++p::([]++y::(Q++C))).length=n:=by simp;omega
   repeat' (first|refine xp rfl ?_|refine lC ?_|refine gF (A.length+a.length+P.length+1) ((A.length+a.length+P.length+1)*2) rfl rfl rfl fy fy fy ?_|refine gF (A.length+a.length+P.length) ((A.length+a.length+P.length)*2) rfl rfl rfl fy fy fy ?_|refine Ge Ka rfl rfl fy ?_|refine IW ?_|fail)
   refine G4 Ka.dr fx fx fx fy (λax aa ad=>?_)
   repeat' (first|refine xp rfl ?_|refine lC ?_|refine gF (A.length+a.length+P.length) ((A.length+a.length+P.length)*2) rfl rfl rfl fy fy fy ?_|refine IW ?_|fail)
   refine G4 aa fx fx fx (by rw[mo];omega) (λay J ae=>?_);refine wk ?_;have e:=E6 (A++a++P) p [] y (Q++C) (A.length+a.length+P.length) (A.length+a.length+P.length+1) (by simp;omega) (by simp;omega);refine gn ⟨(P,p::Q),sub ⟨rfl,rfl,jX (by dsimp only;omega)⟩,⟨?_,by rw[←heq];simp,((M.d.t ad).t ae)⟩,by dsimp only;omega⟩;unfold swp at e;rw[e]at J;simpa using J
end
section
structure ado (A X Y mid:Nat) (w0:World) (x:Nat×Nat) (w:World):Prop where
 a:A<=x.1
 b:mid+(A+X)<=x.1+(A+X+Y)
 c:x.1<=x.2
 d:x.2<=mid/\x.2<=A+X/\(x.2=mid∨x.2=A+X)
 e:x.1=A∨x.1+(A+X+Y)=mid+(A+X)
 w:w0=w
theorem smC (f:FuncId) (cap:Array Value) (D:Tg->Prop) (c:Tg->Int) (g n cp:Nat) (aQ:n<=100000) (w:World) (A X Y C:List Tg) (aI:DB zs w g (A++X++Y++C)) (a2:n=A.length+X.length+Y.length+C.length) (al:pw g w f cap D c) (ab:∀x∈X++Y,D x)
  (K:X.Pairwise (lt c)) (L:Y.Pairwise (lt c)) (ao:∀x∈X,∀y∈Y,xW c x y) (aY:0<X.length) (aZ:0<Y.length) (aJ:¬X.length=1) (aK:¬Y.length=1) (aw:∀(w:World) (A H I C:List Tg),H.length+I.length<X.length+Y.length->DB zs w g (A++H++I++C)->n=A.length+H.length+I.length+C.length->pw g w f cap D c->(∀x∈H++I,D x)->
  H.Pairwise (lt c)->I.Pairwise (lt c)->(∀x∈H,∀y∈I,xW c x y)->0<H.length->0<I.length->∀a m b:Int,a=A.length->m=A.length+H.length->b=A.length+H.length+I.length->
  fL prog 220 #[.slice (some ⟨g,0,none⟩) n cp,.int .i64 a,.int .i64 m,.int .i64 b,.func (.func f) #[] cap] w λ_ w'=>∃Z,Z.Perm (H++I)/\Z.Pairwise (lt c)/\DB zs w' g (A++Z++C)/\Fr (· =g) w w'):
  fL prog 220 #[.slice (some ⟨g,0,none⟩) n cp,.int .i64 A.length,.int .i64 (A.length+X.length),.int .i64 (A.length+X.length+Y.length),.func (.func f) #[] cap] w λ_ w'=>∃Z,Z.Perm (X++Y)/\Z.Pairwise (lt c)/\DB zs w' g (A++Z++C)/\Fr (· =g) w w':=by
 have W:=sq A X (Y++C) K;have aa:=sq (A++X) Y C L;have ap:=sn A X (Y++C);have aq:=sn (A++X) Y C;rw[←j7]at W ap;simp only[hQ]at aa aq;have hlen:(A++X++Y++C).length=n:=by simp;omega
 refine z7 func220 fx fF ?_;obtain⟨mid,aW⟩:∃mid,mid=(2*A.length+X.length+Y.length)/2:=⟨_,rfl⟩
 repeat' (refine ng ?_)
 refine Yk ?_
 repeat' (refine ng ?_)
 refine Yk ?_
 repeat' (refine ng ?_)
 repeat' (first|refine xp rfl ?_|refine lC ?_|refine xG rfl rfl rfl fy fy ?_|refine Lv rfl rfl fF ?_|refine Bh rfl rfl rfl fy fy ?_|refine ZW ?_|fail)
 repeat' (refine ng ?_)
 refine Yk ?_
 repeat' (refine ng ?_)
 refine Yk ?_;refine ng ?_;refine qD (α:=Nat×Nat) (λx=>[(0,.slice (some ⟨g,0,none⟩) n cp),(1,.int .i64 (A.length:Int)),(2,.int .i64 ((A.length:Int)+X.length)),(3,.int .i64 ((A.length:Int)+X.length+Y.length)),(4,.func (.func f) #[] cap),(18,.int .i64 (mid:Int)),(19,.int .i64 ((mid:Int)+A.length+X.length)),(20,.int .i64 (x.1:Int)),(21,.int .i64 (x.2:Int))]) (ado A.length X.length Y.length mid w) ?_ ?_
 ·by_cases a1:mid<A.length+X.length
  ·refine wk ?_;exact gn ⟨(mid+(A.length+X.length)-(A.length+X.length+Y.length),mid),sub ⟨rfl,rfl,rfl,rfl,rfl,jX fy,jX fy,jX (by dsimp only;omega),jX (by dsimp only;omega)⟩,by dsimp only;omega,by dsimp only;omega,by dsimp only;omega,by dsimp only;omega,by dsimp only;omega,rfl⟩
  ·refine wk ?_;exact gn ⟨(A.length,A.length+X.length),sub ⟨rfl,rfl,rfl,rfl,rfl,jX fy,jX fy,jX (by dsimp only),jX (by dsimp only;omega)⟩,by dsimp only;omega,by dsimp only;omega,by dsimp only;omega,by dsimp only;omega,by dsimp only;omega,rfl⟩
 rintro⟨s0,r0⟩ w0 ⟨ax,ay,az,aA,aB,rfl⟩;dsimp only at ax ay az aA aB;refine wk ?_;refine gA (α:=Nat×Nat) (λx=>[(0,.slice (some ⟨g,0,none⟩) n cp),(1,.int .i64 (A.length:Int)),(2,.int .i64 ((A.length:Int)+X.length)),(3,.int .i64 ((A.length:Int)+X.length+Y.length)),(4,.func (.func f) #[] cap),(18,.int .i64 (mid:Int)),(19,.int .i64 ((mid:Int)+A.length+X.length)),(20,.int .i64 (x.1:Int)),(21,.int .i64 (x.2:Int)),(22,.int .i64 ((mid:Int)+A.length+X.length-1))]) (Bs (zs:=zs) (λq=>¬c ((A++X++Y++C).getD (mid+(A.length+X.length)-1-q) default)<c ((A++X++Y++C).getD q default)) s0 r0 (A++X++Y++C) g w) (λx=>x.2-x.1) (s0,r0) (sub ⟨rfl,rfl,rfl,rfl,rfl,rfl,rfl,rfl,rfl,rfl⟩) ⟨aI,Fr.refl _ _,by dsimp only;omega,by dsimp only;omega,by dsimp only;omega,λq _ _=>by dsimp only at*;omega,λq _ _=>by dsimp only at*;omega⟩ ?_;rintro⟨i,j⟩ ar ⟨R,T,aE,aR,aF,O,an⟩;dsimp only at*
 by_cases aP:i<j
 ·repeat' (first|refine xp rfl ?_|refine lC ?_|refine xG rfl rfl rfl fy fy ?_|refine Lv rfl rfl fF ?_|refine Bh rfl rfl rfl fy fy ?_|refine IW ?_|fail)
  refine gF (mid+(A.length+X.length)-1-(i+j)/2) ((mid+(A.length+X.length)-1-(i+j)/2)*2) fx fx fx fy fy fy ?_;refine Ge R fx fx fy ?_;refine wk ?_;refine gF ((i+j)/2) (((i+j)/2)*2) fx fx fx fy fy fy ?_;refine Ge R fx fx fy ?_;have aT:=ap ((i+j)/2) fy fy;have aU:=aq (mid+(A.length+X.length)-1-(i+j)/2) fy fy;refine Tm ((al.fr T).fr (Fr.drew _ _)) fx fx (ab _ (FA _ aU)) (ab _ (vL _ aT)) (λz a4 ah aH=>?_)
  by_cases fW:c ((A++X++Y++C).getD (mid+(A.length+X.length)-1-(i+j)/2) default)<c ((A++X++Y++C).getD ((i+j)/2) default)
  ·have aX:=aH.2 fW;refine wk ?_;refine gn ⟨(i,(i+j)/2),sub ⟨rfl,rfl,rfl,rfl,rfl,rfl,rfl,rfl,jX (by dsimp only;omega),rfl⟩,⟨R.dr.ext ah,T.d.te ah,aE,by dsimp only;omega,by dsimp only;omega,O,λq h1 ak=>?_⟩,by dsimp only;omega⟩;dsimp only at*
   by_cases e:q=(i+j)/2
   ·rw[e];omega
   ·have k1:=W ((i+j)/2) q fy fy fy;have k2:=aa (mid+(A.length+X.length)-1-q) (mid+(A.length+X.length)-1-(i+j)/2) fy fy fy;unfold lt at k1 k2;omega
  ·have aX:¬z<0:=λh=>fW (aH.1 h)
   refine wk ?_;refine gn ⟨((i+j)/2+1,j),sub ⟨rfl,rfl,rfl,rfl,rfl,rfl,rfl,jX (by dsimp only;omega),rfl,rfl⟩,⟨R.dr.ext ah,T.d.te ah,by dsimp only;omega,by dsimp only;omega,aF,λq h1 ak=>?_,an⟩,by dsimp only;omega⟩;dsimp only at*
   by_cases e:q=(i+j)/2
   ·rw[e];exact fW
   ·have k1:=W q ((i+j)/2) fy fy fy;have k2:=aa (mid+(A.length+X.length)-1-(i+j)/2) (mid+(A.length+X.length)-1-q) fy fy fy;unfold lt at k1 k2;omega
 ·obtain rfl:i=j:=fy;obtain⟨u,s,rfl,aJ⟩:∃P Q,X=P++Q/\P.length=i-A.length:=⟨X.take (i-A.length),X.drop (i-A.length),(lv _ _).symm,by rw[kt];omega⟩;obtain⟨B,E,rfl,aK⟩:∃P Q,Y=P++Q/\P.length=mid-i:=⟨Y.take (mid-i),Y.drop (mid-i),(lv _ _).symm,by rw[kt];omega⟩;simp only[hQ]at*;rw[j6]at K L
  have c1:∀x∈u,∀y∈E,lt c x y:=by
   rcases Cs u with rfl|⟨u,x,rfl⟩
   ·simp
   rcases E with _|⟨y,E⟩
   ·simp
   rw[Da]at*;simp only[hQ,iA,kh]at*;have k:=O (i-1) fy fy;have ai:=oV (A++u) x (s++B++(y::E)++C) (i-1) (by simp;omega);have aj:=oV (A++u++[x]++s++B) y (E++C) (mid+(A.length+(u.length+(0+1)+s.length))-1-(i-1)) (by simp;omega);rw[show A++(u++[x]++s)++(B++y::E)++C=(A++u++[x]++s++B)++y::(E++C)by simp,aj,show(A++u++[x]++s++B)++y::(E++C)=(A++u)++x::(s++B++(y::E)++C)by simp,ai]at k;have:=ao x ir y ir;exact OV K.1 L.2.1 (by unfold xW at this;unfold lt;omega)
  have c2:∀y∈B,∀x∈s,lt c y x:=by
   rcases Cs B with rfl|⟨B,y,rfl⟩
   ·simp
   rcases s with _|⟨x,s⟩
   ·simp
   rw[Da]at*;simp only[hQ,iA,kh]at*;have k:=an i fy fy;have ai:=oV (A++u) x (s++(B++[y]++E)++C) i (by simp;omega);have aj:=oV (A++u++[x]++s++B) y (E++C) (mid+(A.length+(u.length+(s.length+1)))-1-i) (by simp;omega);rw[show A++(u++x::s)++(B++[y]++E)++C=(A++u++[x]++s++B)++y::(E++C)by simp,aj,show(A++u++[x]++s++B)++y::(E++C)=(A++u)++x::(s++(B++[y]++E)++C)by simp,ai]at k;exact OV L.1 K.2.1 (.inl fy)
  have hi:i=A.length+u.length:=fy;have aV:mid=A.length+u.length+B.length:=fy;have a0:0<u.length+B.length:=fy;have J:0<s.length+E.length:=fy;clear W aa ap aq O an ax ay az aA aB aE aR aF aP aW hlen;subst hi;subst aV
  repeat' (refine ng ?_)
  refine Yk ?_;refine ng ?_;refine Yk ?_;refine ng ?_;refine qD (α:=Unit) (λ_=>[(0,.slice (some ⟨g,0,none⟩) n cp),(1,.int .i64 (A.length:Int)),(3,.int .i64 ((A.length:Int)+(u.length+s.length)+(B.length+E.length))),(4,.func (.func f) #[] cap),(18,.int .i64 ((A.length:Int)+u.length+B.length)),(20,.int .i64 ((A.length:Int)+u.length)),(24,.int .i64 ((A.length:Int)+u.length+B.length+s.length))]) (λ_ w'=>DB zs w' g (A++u++B++s++E++C)/\Fr (· =g) w w') ?_ ?_
  ·by_cases G:0<s.length/\0<B.length
   ·refine wk ?_;refine fI (S:=λ_ w'=>DB zs w' g ((A++u)++B++s++(E++C))/\Fr (· =g) ar w') fx fx (HE ar g n cp _ (A++u) s B (E++C) (by simpa using R) (by simp only[hQ];omega) aQ _ _ _ ir (by simp only[hQ];omega) (by simp only[hQ];omega) G.1 G.2) ?_;rintro v au ⟨J,aM⟩;refine wk ?_;exact gn ⟨(),sub ⟨rfl,rfl,jX fy,rfl,jX fy,jX fy,jX fy⟩,by simpa using J,T.t aM⟩
   ·have J:DB zs ar g (A++u++B++s++E++C):=by
     have:s=[]∨B=[]:=by
      rcases s with _|⟨_,_⟩
      ·exact .inl fx
      ·rcases B with _|⟨_,_⟩
       ·exact .inr fx
       ·exact absurd ⟨by simp,by simp⟩ G
     rcases this with rfl|rfl<;>simpa using R
    by_cases aG:0<s.length
    ·refine wk ?_;exact gn ⟨(),sub ⟨rfl,rfl,jX fy,rfl,jX fy,jX fy,jX fy⟩,J,T⟩
    ·refine wk ?_;exact gn ⟨(),sub ⟨rfl,rfl,jX fy,rfl,jX fy,jX fy,jX fy⟩,J,T⟩
  rintro _ au ⟨J,ae⟩;refine ng ?_;refine qD (α:=List Tg) (λ_=>[(0,.slice (some ⟨g,0,none⟩) n cp),(3,.int .i64 ((A.length:Int)+(u.length+s.length)+(B.length+E.length))),(4,.func (.func f) #[] cap),(18,.int .i64 ((A.length:Int)+u.length+B.length)),(24,.int .i64 ((A.length:Int)+u.length+B.length+s.length))]) (λZ w'=>Z.Perm (u++B)/\Z.Pairwise (lt c)/\DB zs w' g (A++Z++s++E++C)/\Fr (· =g) w w') ?_ ?_
  ·by_cases G:0<u.length/\0<B.length
   ·refine wk ?_;refine fI (S:=λ_ w'=>∃Z,Z.Perm (u++B)/\Z.Pairwise (lt c)/\DB zs w' g (A++Z++(s++E++C))/\Fr (· =g) au w') fx fx (aw au A u B (s++E++C) fy (by simpa using J) (by simp;omega) (al.fr ae) (λx N=>ab x (by rcases iK.1 N with h|h<;>simp[h])) K.1 L.1 (λx N y O=>ao x (by simp[N]) y (by simp[O])) G.1 G.2 _ _ _ fx fx fx) ?_;rintro v av ⟨Z,U,am,V,aN⟩;refine wk ?_;exact gn ⟨Z,sub ⟨rfl,rfl,rfl,rfl,rfl⟩,U,am,by simpa using V,ae.t aN⟩
   ·have ag:(u++B).Pairwise (lt c):=by
     have:u=[]∨B=[]:=by
      rcases u with _|⟨_,_⟩
      ·exact .inl fx
      ·rcases B with _|⟨_,_⟩
       ·exact .inr fx
       ·exact absurd ⟨by simp,by simp⟩ G
     rcases this with rfl|rfl
     ·simpa using L.1
     ·simpa using K.1
    by_cases aG:0<u.length
    ·refine wk ?_;exact gn ⟨u++B,sub ⟨rfl,rfl,rfl,rfl,rfl⟩,sS _,ag,by simpa using J,ae⟩
    ·refine wk ?_;exact gn ⟨u++B,sub ⟨rfl,rfl,rfl,rfl,rfl⟩,sS _,ag,by simpa using J,ae⟩
  rintro Z av ⟨U,am,V,af⟩;have aS:=U.length_eq;simp only[hQ]at aS
  have fin:∀F,F.Perm (s++E)->F.Pairwise (lt c)->(Z++F).Perm (u++s++(B++E))/\(Z++F).Pairwise (lt c):=λF h1 ak=>by
   refine⟨(List.Perm.append U h1).trans ?_,j6.2 ⟨am,ak,λp M q hq=>?_⟩⟩
   ·simp only[j7];refine Q9 u ?_;rw[←j7,←j7];exact Wn E List.perm_append_comm
   ·rcases iK.1 (U.subset M)with M|M<;>rcases iK.1 (h1.subset hq)with hq|hq
    ·exact K.2.2 p M q hq
    ·exact c1 p M q hq
    ·exact c2 p M q hq
    ·exact L.2.2 p M q hq
  by_cases G:0<s.length/\0<E.length
  ·refine wk ?_;refine fI (S:=λ_ w'=>∃F,F.Perm (s++E)/\F.Pairwise (lt c)/\DB zs w' g ((A++Z)++F++C)/\Fr (· =g) av w') fx fx (aw av (A++Z) s E C fy (by simpa using V) (by simp;omega) (al.fr af) (λx N=>ab x (by rcases iK.1 N with h|h<;>simp[h])) K.2.1 L.2.1 (λx N y O=>ao x (by simp[N]) y (by simp[O])) G.1 G.2 _ _ _ (by simp;omega) (by simp;omega) (by simp;omega)) ?_;rintro v a3 ⟨F,aC,aD,aL,aO⟩;refine wk ?_;exact lX fx ⟨Z++F,(fin F aC aD).1,(fin F aC aD).2,by simpa using aL,af.t aO⟩
  ·have ag:(s++E).Pairwise (lt c):=by
    have:s=[]∨E=[]:=by
     rcases s with _|⟨_,_⟩
     ·exact .inl fx
     ·rcases E with _|⟨_,_⟩
      ·exact .inr fx
      ·exact absurd ⟨by simp,by simp⟩ G
    rcases this with rfl|rfl
    ·simpa using L.2.1
    ·simpa using K.2.1
   have ad:=fin (s++E) (sS _) ag
   by_cases aG:0<s.length
   ·refine wk ?_;exact lX fx ⟨Z++(s++E),ad.1,ad.2,by simpa using V,af⟩
   ·refine wk ?_;exact lX fx ⟨Z++(s++E),ad.1,ad.2,by simpa using V,af⟩
theorem pg (f:FuncId) (cap:Array Value) (D:Tg->Prop) (c:Tg->Int) (g n cp:Nat) (s:n<=100000):∀(N:Nat) (w:World) (A X Y C:List Tg),X.length+Y.length<=N->DB zs w g (A++X++Y++C)->n=A.length+X.length+Y.length+C.length->pw g w f cap D c->(∀x∈X++Y,D x)->
  X.Pairwise (lt c)->Y.Pairwise (lt c)->(∀x∈X,∀y∈Y,xW c x y)->0<X.length->0<Y.length->∀a m b:Int,a=A.length->m=A.length+X.length->b=A.length+X.length+Y.length->
  fL prog 220 #[.slice (some ⟨g,0,none⟩) n cp,.int .i64 a,.int .i64 m,.int .i64 b,.func (.func f) #[] cap] w λ_ w'=>∃Z,Z.Perm (X++Y)/\Z.Pairwise (lt c)/\DB zs w' g (A++Z++C)/\Fr (· =g) w w'
 |0,w,A,X,Y,C,M,_,_,_,_,_,_,_,d,_,_,_,_,_,_,_=>fy
 |N+1,w,A,X,Y,C,M,t,F,u,v,G,H,I,d,E,a,m,b,O,hm,Q=>by
  subst O;subst hm;subst Q
  by_cases B:X.length=1
  ·exact smA f cap D c g n cp s w A X Y C t F u v G H I d E B
  by_cases J:Y.length=1
  ·exact smB f cap D c g n cp s w A X Y C t F u v G H I d E B J
  exact smC f cap D c g n cp s w A X Y C t F u v G H I d E B J λw A K L C h1=>pg f cap D c g n cp s N w A K L C fy
end
section
end
end Go.Proofs.YtecaahegomdbbaaGreatDoor.gp
