/- Parts of the proof. -/
import Derived.Lib.Bytealg
import Derived.Test.YtecaahegomdbbaaGreatDoorRfReh
import Derived.Test.YtecaahegomdbbaaGreatDoorRfSe
import Derived.Test.YtecaahegomdbbaaGreatDoorRfWa
set_option linter.all false
set_option maxRecDepth 100000
set_option maxHeartbeats 64000000
namespace Go.Proofs.YtecaahegomdbbaaGreatDoor.gp
open Go.Proofs.Tryz
open Go.RowKit
variable {S a l:List Tg} {B s:Nat} {v:Value} {w:World}
section
variable {zs:Nat}
def Dw (w:World) (B:Nat) (v:Value) (l:List Tg):Prop:=∃A c,v= .slice A l.length c/\l.length<=c/\c<=9223372036854775807/\(l=[]∨∃g,A=some ⟨g,0,none⟩/\B<=g/\DB (c*2) w g l)
theorem ye (l:List Tg):l.flatMap Bt=(l.map Prod.snd).flatMap hI:=by
 induction l with
 |nil=>rfl
 |cons x l a=>rw[wb,a];rfl
theorem Dw.of (h:Ow hI 2 w B 49 v (l.map Prod.snd)):Dw w B v l:=by
 have D:=h;obtain⟨A,c,rfl,h1,m⟩:=h.form;obtain⟨_,n⟩:=D;rw[jF]at*;refine⟨A,c,rfl,h1,m,?_⟩;rcases n with⟨_,a⟩|⟨g,cap,cur,a,C,y,s,_,u,t⟩
 ·exact .inl (zf a)
 ·injection a with a _ d
  refine .inr ⟨g,a,C,cur.toList.drop (l.length*2),?_,?_⟩
  ·have x:c=cap:=d;have F:cur.size=cap*2:=u;have E:l.length<=cap:=by simpa using s
   have f:cur.toList.length=cur.size:=pb;rw[lH,f,x];omega
  rw[ye,←t,lv];exact y
theorem DB.rw {w:World} {g c:Nat} {l:List Tg} (h:DB zs w g l) (h1:l.length<=c) (a:c<=9223372036854775807):Rw hI w (.slice (some ⟨g,0,none⟩) l.length c) (l.map Prod.snd):=by
 unfold Rw;rw[jF];refine⟨_,_,rfl,h1,a,λ_=>⟨g,0,rfl,h.lt,λj u hu=>?_⟩⟩;obtain⟨r,_,h⟩:=h;rw[iC,h.cell,pB,ye,pR (j0.1 hu).1];exact hu
theorem Dw.rw {w:World} {B:Nat} {v:Value} {l:List Tg} (h:Dw w B v l):Rw hI w v (l.map Prod.snd):=by
 obtain⟨A,c,rfl,h1,a,rfl|⟨g,rfl,_,d⟩⟩:=h
 ·exact⟨A,c,rfl,h1,a,λh0=>absurd h0 ir⟩
 ·exact d.rw h1 a
theorem Dw.fr {S:Nat->Prop} {w w':World} {B:Nat} {v:Value} {l:List Tg} (h:Dw w B v l) (m:Fr S w w') (d:∀b,v.ownBlock=some b->¬S b):Dw w' B v l:=by
 obtain⟨A,c,rfl,h1,a,rfl|⟨g,rfl,n,f⟩⟩:=h
 ·exact⟨A,c,rfl,h1,a,.inl fx⟩
 ·exact⟨_,c,rfl,h1,a,.inr ⟨g,rfl,n,f.fr m (d g fx)⟩⟩
theorem Dw.gH (h:Dw w B v l) (h0:l≠[]) {b:Nat} (a:v.ownBlock=some b):B<=b/\b<w.heap.size:=by
 obtain⟨A,c,rfl,h1,m,rfl|⟨g,rfl,f,d⟩⟩:=h
 ·exact absurd fx h0
 ·injection a with a;subst a;exact⟨f,d.lt⟩
theorem Dw.ow (h:Dw w B v l) (h0:l≠[]):Ow hI 2 w B 49 v (l.map Prod.snd):=by
 obtain⟨A,c,rfl,h1,d,rfl|⟨g,rfl,m,r,n,f⟩⟩:=h
 ·exact absurd fx h0
 ·have a:=gl gj (l.map Prod.snd);rw[jF]at a;refine⟨by rw[jF];exact a,.inr ⟨g,c,_,by rw[jF],m,f,by rw[jF];exact h1,d,?_,?_⟩⟩
  ·rw[nz,hQ,ye,a];exact n
  ·rw[jF,ye,←a,vk]
def Bu (c:Tg->Int) (s:Nat) (l:List Tg):Prop:=∀k,((l.drop (k*s)).take s).Pairwise (lt c)
theorem Bu.app {c:Tg->Int} {m:Nat} {P:List Tg} (a:Bu c s P) (f:P.length=m*s) (d:S.Pairwise (lt c)) (hs:S.length<=s):Bu c s (P++S):=by
 intro k
 by_cases hk:k<m
 ·have h1:(k+1)*s<=m*s:=qk s hk;rw[tG,Nat.one_mul]at h1;rw[Rj fy,Mg (by rw[lH];omega)];exact a k
 ·have h1:m*s<=k*s:=qk s fy;rw[EP,yE fy,vD];refine List.Pairwise.sublist ?_ d;exact(List.take_sublist _ _).trans (List.drop_sublist _ _)
theorem Bu.nil (c:Tg->Int) (s:Nat):Bu c s []:=λk=>by simp
theorem Bu.drop {c:Tg->Int} {X:List Tg} (h:Bu c s (X++a)) (m:Nat) (d:X.length=m*s):Bu c s a:=by
 intro k;have:=h (m+k);rw[tG,←d,EP,yE fy,vD,HY]at this;exact this
theorem Bu.one {c:Tg->Int} (h:Bu c s l) (a:l.length<=s):l.Pairwise (lt c):=by
 have:=h 0;rwa[td,vU,pG a]at this
theorem Bu.first {c:Tg->Int} {X:List Tg} (h:Bu c s (X++a)) (d:X.length=s):X.Pairwise (lt c):=by
 have:=h 0;rwa[td,vU,Mg fy,pG fy]at this
theorem vE {c:Tg->Int} {A d C:List Tg} (h:(A++S++C).Pairwise (xW c)) (g:d.Perm S) (hs:d.Pairwise (lt c)):(A++d++C).Pairwise (xW c):=by
 rw[j7,j6,j6]at*;obtain⟨h1,⟨t,m,n⟩,s⟩:=h;refine⟨h1,⟨hs.imp XI,m,λx f y a=>n x (g.subset f) y a⟩,λx f y a=>s x f y ?_⟩;rcases iK.1 a with a|a
 ·exact vL _ (g.subset a)
 ·exact FA _ a
theorem sx {A C O:List Tg} (h:(A++S++C).Perm O) (d:a.Perm S):(A++a++C).Perm O:=
 (Wn C (Q9 A d)).trans h
structure StI (c:Tg->Int) (O:List Tg) (s t g:Nat) (w0:World) (x:List Tg×List Tg) (w:World):Prop where
 db:DB zs w g (x.1++x.2)
 perm:(x.1++x.2).Perm O
 st:(x.1++x.2).Pairwise (xW c)
 m:∃m,x.1.length=m*t
 s1:Bu c t x.1
 s2:Bu c s x.2
 fr:Fr (· =g) w0 w
theorem YW (c:Tg->Int) (l:List Tg):Bu c 1 l:=λk=>by
 generalize(l.drop (k*1))=r;rcases r with _|⟨a,r⟩<;>simp
theorem G8 (w:World) (g n cp:Nat) (f:FuncId) (cap:Array Value) (D:Tg->Prop) (c:Tg->Int) (O:List Tg) (aj:DB zs w g O) (au:n=O.length) (ar:n<=10000) (V:pw g w f cap D c) (W:∀x∈O,D x) (ak:O.Pairwise (xW c)):
  fL prog 150 #[.slice (some ⟨g,0,none⟩) n cp,.int .i64 n,.func (.func f) #[] cap] w λ_ w'=>∃S,S.Perm O/\S.Pairwise (lt c)/\DB zs w' g S/\Fr (· =g) w w':=by
 refine kz func150 fx fF ?_;refine wk ?_;refine gA (α:=List Tg×List Tg) (λx=>[(0,.slice (some ⟨g,0,none⟩) n cp),(1,.int .i64 (n:Int)),(2,.func (.func f) #[] cap),(6,.int .i64 20),(7,.int .i64 (x.1.length:Int)),(8,.int .i64 ((x.1.length:Int)+20))]) (StI (zs:=zs) c O 1 20 g w) (λx=>n-x.1.length) ([],O) (sub ⟨rfl,rfl,rfl,rfl,rfl,rfl⟩) ⟨aj,sS _,ak,⟨0,rfl⟩,Bu.nil c 20,YW c O,Fr.refl _ _⟩ ?_;rintro⟨P,a⟩ aa ⟨G,d,E,⟨m,hm⟩,N,am,B⟩;dsimp only at*;have hlen:=d.length_eq;rw[hQ]at hlen
 by_cases af:P.length+20<=n
 ·obtain⟨S,a,rfl,ap⟩:∃S M,a=S++M/\S.length=20:=⟨a.take 20,a.drop 20,(lv _ _).symm,by rw[kt];omega⟩;rw[hQ]at hlen;rw[←j7]at G d E;refine wk ?_;refine fI (S:=λ_ w'=>∃F,F.Perm S/\F.Pairwise (lt c)/\DB zs w' g (P++F++a)/\Fr (· =g) aa w') fx fx (rE aa g n cp f cap D c P S a G fy fy (V.fr B) (λx H=>W x (d.subset (by simp[H]))) (by rw[j7,j6,j6]at E;exact E.2.1.1) _ _ fx fy) ?_;rintro v an ⟨F,u,hs,J,K⟩;have R:=u.length_eq;refine wk ?_;exact gn ⟨(P++F,a),sub ⟨rfl,rfl,rfl,rfl,jX (by dsimp only;rw[hQ];omega),jX (by dsimp only;rw[hQ];omega)⟩,⟨J,sx d u,vE E u hs,⟨m+1,by dsimp only;rw[hQ];omega⟩,N.app hm hs fy,YW _ _,B.t K⟩,by dsimp only;rw[hQ];omega⟩
 ·refine wk ?_;refine fI (S:=λ_ w'=>∃F,F.Perm a/\F.Pairwise (lt c)/\DB zs w' g (P++F++[])/\Fr (· =g) aa w') fx fx (rE aa g n cp f cap D c P a [] (by simpa using G) (by simp;omega) fy (V.fr B) (λx H=>W x (d.subset (by simp[H]))) (by rw[j6]at E;exact E.2.1) _ _ fx fy) ?_;rintro v an ⟨F,u,hs,J,K⟩;have R:=u.length_eq;have ah:Bu c 20 (P++F):=N.app hm hs fy;have ag:(P++F).Perm O:=by have:=sx (C:=[]) (by simpa using d) u;simpa using this
  have ai:(P++F).Pairwise (xW c):=by have:=vE (C:=[]) (by simpa using E) u hs;simpa using this
  refine wk ?_;refine gA (α:=Nat×List Tg) (λx=>[(0,.slice (some ⟨g,0,none⟩) n cp),(1,.int .i64 (n:Int)),(2,.func (.func f) #[] cap),(6,.int .i64 (x.1:Int))]) (λx w'=>0<x.1/\StI (zs:=zs) c O x.1 x.1 g w ([],x.2) w') (λx=>n+1-x.1) (20,P++F) (sub ⟨rfl,rfl,rfl,rfl⟩) ⟨by show 0<20;decide,by simpa using J,by simpa using ag,by simpa using ai,⟨0,by simp⟩,Bu.nil _ _,ah,B.t K⟩ ?_;clear G d E hm N B hlen af u hs J K R ah ag ai am;rintro⟨s,L⟩ T ⟨hs0,G,d,E,_,_,I,B⟩;dsimp only[List.nil_append]at*;have hlen:=d.length_eq
  by_cases av:s<n
  ·refine wk ?_;refine gA (α:=List Tg×List Tg) (λx=>[(0,.slice (some ⟨g,0,none⟩) n cp),(1,.int .i64 (n:Int)),(2,.func (.func f) #[] cap),(6,.int .i64 (s:Int)),(7,.int .i64 (x.1.length:Int)),(8,.int .i64 ((x.1.length:Int)+2*s))]) (StI (zs:=zs) c O s (2*s) g w) (λx=>n-x.1.length) ([],L) (sub ⟨rfl,rfl,rfl,rfl,rfl,jX ir⟩) ⟨G,d,E,⟨0,by simp⟩,Bu.nil _ _,I,B⟩ ?_;clear G d E I B hlen L T;rintro⟨P,a⟩ T ⟨G,d,E,⟨m,hm⟩,N,I,B⟩;dsimp only at*;have hlen:=d.length_eq;rw[hQ]at hlen
   by_cases af:P.length+2*s<=n
   ·obtain⟨X,a,rfl,ab⟩:∃S M,a=S++M/\S.length=s:=⟨a.take s,a.drop s,(lv _ _).symm,by rw[kt];omega⟩;rw[hQ]at hlen;obtain⟨Y,a,rfl,al⟩:∃S M,a=S++M/\S.length=s:=⟨a.take s,a.drop s,(lv _ _).symm,by rw[kt];omega⟩;rw[hQ]at hlen;have Q:(P++(X++Y)++a).Pairwise (xW c):=by simpa using E
    have U:(P++(X++Y)++a).Perm O:=by simpa using d
    have ad:(X++Y).Pairwise (xW c):=by rw[j7,j6,j6]at Q;exact Q.2.1.1
    refine wk ?_;refine fI (S:=λ_ w'=>∃Z,Z.Perm (X++Y)/\Z.Pairwise (lt c)/\DB zs w' g (P++Z++a)/\Fr (· =g) T w') fx fx (pg f cap D c g n cp fy _ T P X Y a (gJ _) (by simpa using G) fy (V.fr B) (λx H=>W x (U.subset (vL _ (FA _ H)))) (I.first ab) ((I.drop 1 fy).first al) (λx H y ae=>(j6.1 ad).2.2 x H y ae) fy fy _ _ _ fx fy fy) ?_;rintro v ao ⟨Z,u,hs,J,K⟩;have R:=u.length_eq;rw[hQ]at R;refine wk ?_;exact gn ⟨(P++Z,a),sub ⟨rfl,rfl,rfl,rfl,jX (by dsimp only;rw[hQ];omega),jX (by dsimp only;rw[hQ];omega)⟩,⟨J,sx U u,vE Q u hs,⟨m+1,by dsimp only;rw[hQ,hm,tG];omega⟩,N.app hm hs fy,(I.drop 1 fy).drop 1 fy,B.t K⟩,by dsimp only;rw[hQ];omega⟩
   ·by_cases aq:P.length+s<n
    ·obtain⟨X,Y,rfl,ab⟩:∃S M,a=S++M/\S.length=s:=⟨a.take s,a.drop s,(lv _ _).symm,by rw[kt];omega⟩;rw[hQ]at hlen;have Q:(P++(X++Y)++[]).Pairwise (xW c):=by simpa using E
     have U:(P++(X++Y)++[]).Perm O:=by simpa using d
     have ad:(X++Y).Pairwise (xW c):=by rw[j7,j6,j6]at Q;exact Q.2.1.1
     refine wk ?_;refine fI (S:=λ_ w'=>∃Z,Z.Perm (X++Y)/\Z.Pairwise (lt c)/\DB zs w' g (P++Z++[])/\Fr (· =g) T w') fx fx (pg f cap D c g n cp fy _ T P X Y [] (gJ _) (by simpa using G) (by simp;omega) (V.fr B) (λx H=>W x (U.subset (vL _ (FA _ H)))) (I.first ab) ((I.drop 1 fy).one fy) (λx H y ae=>(j6.1 ad).2.2 x H y ae) fy fy _ _ _ fx fy fy) ?_;rintro v ao ⟨Z,u,hs,J,K⟩;have R:=u.length_eq;rw[hQ]at R;refine wk ?_;exact gn ⟨(2*s,P++Z),sub ⟨rfl,rfl,rfl,jX (by dsimp only;omega)⟩,⟨by dsimp only;omega,by simpa using J,by have:=sx U u;simpa using this,by have:=vE Q u hs;simpa using this,⟨0,by simp⟩,Bu.nil _ _,N.app hm hs fy,B.t K⟩,by dsimp only;omega⟩
    ·refine wk ?_;exact gn ⟨(2*s,P++a),sub ⟨rfl,rfl,rfl,jX (by dsimp only;omega)⟩,⟨by dsimp only;omega,by simpa using G,by simpa using d,by simpa using E,⟨0,by simp⟩,Bu.nil _ _,N.app hm (I.one fy) fy,B⟩,by dsimp only;omega⟩
  ·refine wk ?_;exact lX fx ⟨L,d,I.one fy,G,B⟩
theorem Kc (w:World) (d v:Value):fL prog 150 #[v,.int .i64 0,d] w λ_ w'=>w=w':=by
 refine kz func150 fx fF ?_;refine wk ?_;refine gA (α:=Unit) (λ_=>[(0,v),(1,.int .i64 0),(2,d),(6,.int .i64 20),(7,.int .i64 0),(8,.int .i64 20)]) (λ_ w'=>w=w') (λ_=>0) () (sub ⟨rfl,rfl,rfl,rfl,rfl,rfl⟩) fx ?_;rintro _ a rfl;refine wk ?_;refine fI (S:=λ_ w'=>w=w') fx fx ?_ ?_
 ·refine wS func219 fx fF ?_;refine wk ?_;refine gA (α:=Unit) (λ_=>[(2,.int .i64 0),(8,.int .i64 1)]) (λ_ w'=>w=w') (λ_=>0) () (sub ⟨rfl,rfl⟩) fx ?_;rintro _ a rfl;refine wk ?_;exact lX fx fx
 rintro _ a rfl;refine wk ?_;refine gA (α:=Unit) (λ_=>[(1,.int .i64 0),(6,.int .i64 20)]) (λ_ w'=>w=w') (λ_=>0) () (sub ⟨rfl,rfl⟩) fx ?_;rintro _ a rfl;refine wk ?_;exact lX fx fx
theorem xI (w:World) (B:Nat) (v:Value) (f:FuncId) (cap:Array Value) (D:Tg->Prop) (c:Tg->Int) (O:List Tg) (hO:Dw w B v O) (E:O.length<=10000) (s:∀g,v.ownBlock=some g->pw g w f cap D c) (t:∀x∈O,D x) (u:O.Pairwise (xW c)):
  fL prog 84 #[v,.func (.func f) #[] cap] w λ_ w'=>∃S,S.Perm O/\S.Pairwise (lt c)/\Dw w' B v S/\Fr (λb=>O≠[]/\v.ownBlock=some b) w w':=by
 refine gK func84 fx fF ?_;obtain⟨A,cp,rfl,m,n,h⟩:=hO
 by_cases h0:O=[]
 ·subst h0;refine wk ?_;refine fI (S:=λ_ w'=>w=w') fx fx (Kc w _ _) ?_;rintro _ F rfl;refine wk ?_;exact lX fx ⟨[],sS _,List.Pairwise.nil,⟨A,cp,rfl,m,n,.inl fx⟩,Fr.refl _ _⟩
 ·obtain⟨g,rfl,C,a⟩:=h.resolve_left h0;refine wk ?_;refine fI (S:=λ_ w'=>∃S,S.Perm O/\S.Pairwise (lt c)/\DB (cp*2) w' g S/\Fr (· =g) w w') fx fx (G8 w g O.length cp f cap D c O a fx E (s g fx) t u) ?_;rintro _ F ⟨S,d,hs,a,y⟩;refine wk ?_;exact lX fx ⟨S,d,hs,⟨_,cp,by rw[d.length_eq],by rw[d.length_eq];exact m,n,.inr ⟨g,rfl,C,a⟩⟩,y.mono λk _ hk=>by subst hk;exact⟨h0,rfl⟩⟩
end
end Go.Proofs.YtecaahegomdbbaaGreatDoor.gp
namespace Go.Proofs.YtecaahegomdbbaaGreatDoor.gp.Rn
open Go.Proofs.Tryz
open Go.RowKit
section
noncomputable def on2 (al:List AV) (k:AV->AV->Rs):Rs:=List.rec (motive:=λ_=>Rs) .no (λx r _=>List.rec (motive:=λ_=>Rs) .no (λy r _=>List.rec (motive:=λ_=>Rs) (k x y) (λ_ _ _=> .no) r) r) al
theorem Ln {res:Rs} {ρ:Pl} (a:res≠ .no) {al:List AV} {vs:List Value} {k:AV->AV->Rs} (m:A1 ρ al vs) (h:on2 al k=res):∃x y v u,vs=[v,u]/\AR ρ x v/\AR ρ y u/\k x y=res:=by
 cases m with
 |nil=>exact absurd h.symm a
 | cons h1 d=>
  cases d with
  |nil=>exact absurd h.symm a
  |cons f g=>
   cases g with
   |nil=>exact⟨_,_,_,_,rfl,h1,f,h⟩
   |cons _ _=>exact absurd h.symm a
noncomputable def X2 (a:Nat) (l:List Nat):Nat->SV:=List.rec (motive:=λ_=>Nat->SV) (λ_=> .m .i64 0) (λx _ d i=>Bool.rec (motive:=λ_=>SV) (cN (Nat.add i 1) d) (.n .i64 i) (Nat.beq x a)) l
noncomputable def aat (al:List AV) (d:Mem):Rs:=on2 al λx y=>I7 x λl=>tX y λk a=>sI k .u8 (.mk (.val (.v (X2 a l 0))) e0 d)
theorem tf {x a:Nat} (g:x<256) (f:a<256):(UInt8.ofNat x==UInt8.ofNat a)=decide (x=a):=by
 by_cases h:x=a
 ·subst h;simp
 ·rw[decide_eq_false h];simp only[beq_eq_false_iff_ne,ne_eq];intro d;have:=congrArg UInt8.toNat d;simp only[vI]at this;omega
theorem Qi {ρ:Pl} {a:Nat} (f:a<256):∀(l:List Nat) (i:Nat),(∀c∈l,c<256)->i+l.length<=9223372036854775807->SR ρ (X2 a l i) (.int .i64 (match(jD l).findIdx? (· ==UInt8.ofNat a)with
  |some j=>((i+j:Nat):Int)
  |none=> -1))
 |[],i,_,_=>⟨rfl,iy _,rfl⟩
 | x::l,i,g,hi=>by
  have t:=g x jQ;rw[iA]at hi;have d:=Qi (ρ:=ρ) f l (i+1) (λc hc=>g c (qe x hc)) fy;have m:jD (x::l)=UInt8.ofNat x::jD l:=rfl;rw[m,RR,tf t f];have s:X2 a (x::l) i=Bool.rec (motive:=λ_=>SV) (cN (Nat.add i 1) (X2 a l)) (.n .i64 i) (Nat.beq x a):=rfl;rw[s,nP]
  by_cases h:x=a
  ·rw[decide_eq_true h];exact⟨rfl,by show i<=9223372036854775807;omega⟩
  ·rw[decide_eq_false h];show SR ρ (cN (Nat.add i 1) (X2 a l)) _
   rw[iJ];show SR ρ (X2 a l (i+1)) _
   revert d;cases(jD l).findIdx? (· ==UInt8.ofNat a)with
   |none=>exact λd=>d
   |some j=>
    intro d;show SR ρ _ (.int .i64 ((i+(j+1):Nat):Int))
    rw[show i+(j+1)=i+1+j from by omega];exact d
theorem Ta:sN 157 aat:=λw0 al I v e' J ρ vs w h B u=>by
 obtain⟨x,y,G,H,rfl,E,F,h1⟩:=Ln iI B h;obtain⟨l,rfl,m⟩:=ly iI h1;obtain⟨k,a,rfl,n⟩:=im iI m;obtain⟨rfl,s⟩:=iv iI n;injection s with d _ t
 injection d with d
 subst d;subst t;obtain⟨rfl,D,hm⟩:=E;obtain⟨rfl,hk⟩:=F;have hk:a<256:=by have:a<=255:=hk;omega
 have g:(Int.ofNat a)=((UInt8.ofNat a).toNat:Int):=by
  rw[vI,ud fy];rfl
 have f:=yw w (jD l) (UInt8.ofNat a);rw[←g]at f;refine fL.mono f λval w' C=>?_
 obtain⟨rfl,rfl⟩:=C;refine⟨ρ,Up.refl ρ,?_,u⟩;have:=Qi (ρ:=ρ) hk l 0 D (by unfold maxLen at hm;omega);unfold vS;revert this;cases(jD l).findIdx? (· ==UInt8.ofNat a)with
 |none=>exact λh=>h
 |some j=>
  intro h;have h:SR ρ (X2 a l 0) (.int .i64 ((0+j:Nat):Int)):=h;rw[iC]at h;exact h
end
end Go.Proofs.YtecaahegomdbbaaGreatDoor.gp.Rn
namespace Go.Proofs.YtecaahegomdbbaaGreatDoor.gp
open Go.Proofs.Tryz
open Go.RowKit
section
namespace Rn
noncomputable def is1 (s:List Nat) (k:Nat->Rs):Rs:=List.rec (motive:=λ_=>Rs) .no (λx t _=>List.rec (motive:=λ_=>Rs) (k x) (λ_ _ _=> .no) t) s
theorem TT {s:List Nat} {res:Rs} {k:Nat->Rs} (a:res≠ .no) (h:is1 s k=res):∃x,s=[x]/\k x=res:=by
 cases s with
 |nil=>exact absurd h.symm a
 |cons x t=>
  cases t with
  |nil=>exact⟨x,rfl,h⟩
  |cons _ _=>exact absurd h.symm a
noncomputable def j1 (a:Nat) (l:List Nat):Nat:=List.rec (motive:=λ_=>Nat) 0 (λx _ d=>Bool.rec (motive:=λ_=>Nat) d (Nat.add d 1) (Nat.beq x a)) l
theorem Lz {a:Nat} (d:a<256):∀l:List Nat,(∀c∈l,c<256)->j1 a l=(jD l).count (UInt8.ofNat a)
 |[],_=>rfl
 |x::l,h=>by
  have g:=Lz d l λc hc=>h c (qe x hc)
  have m:jD (x::l)=UInt8.ofNat x::jD l:=rfl;have n:j1 a (x::l)=Bool.rec (motive:=λ_=>Nat) (j1 a l) (Nat.add (j1 a l) 1) (Nat.beq x a):=rfl;rw[m,List.count_cons,n,nP,tf (h x jQ) d]
  by_cases f:x=a
  ·rw[decide_eq_true f,g];rfl
  ·rw[decide_eq_false f,g];rfl
end Rn
theorem Ns (w:World) (l:fQ) (c:UInt8):fL prog 320 #[.string (su l),.string (su [c])] w λr w'=>r= .int .i64 (l.count c:Int)/\w=w':=by
 refine gK func320 fx fF ?_
 repeat' (first|refine Sn (z:=c) 0 rfl rfl rfl rfl rfl ?_|refine iu rfl rfl ?_|refine iH rfl rfl ?_|refine fT ?_|fail)
 refine TO (e:=Extern.BytealgCount.count) func358 fF fF fF fF fx (Lib.run_countString (su l) _ w) ?_;refine fA ?_;refine fB fx fx ⟨?_,rfl⟩;simp[Lib.countByte,su]
namespace Rn
noncomputable def ZH (al:List AV) (d:Mem):Rs:=on2 al λx y=>I7 x λl=>I7 y λs=>is1 s λa=> .mk (.val (.v (.n .i64 (j1 a l)))) e0 d
theorem Ut:sN 320 ZH:=λw0 al H v e' I ρ vs w h f u=>by
 obtain⟨x,y,F,G,rfl,D,E,h1⟩:=Ln iI f h;obtain⟨l,rfl,g⟩:=ly iI h1;obtain⟨s,rfl,m⟩:=ly iI g;obtain⟨a,rfl,n⟩:=TT iI m;injection n with d _ t
 injection d with d
 subst d;subst t;obtain⟨rfl,C,hm⟩:=D;obtain⟨rfl,hs,_⟩:=E;have f:=hs a jQ;refine fL.mono (Ns w (jD l) (UInt8.ofNat a)) λval w' B=>?_
 obtain⟨rfl,rfl⟩:=B;have hc:(jD l).count (UInt8.ofNat a)<=(jD l).length:=wY;have hu:(jD l).length=l.length:=jF _;refine⟨ρ,Up.refl ρ,?_,u⟩;rw[Lz f l C];exact⟨rfl,by show(jD l).count (UInt8.ofNat a)<=9223372036854775807;unfold maxLen at hm;omega⟩
end Rn
end
end Go.Proofs.YtecaahegomdbbaaGreatDoor.gp
namespace Go.Proofs.YtecaahegomdbbaaGreatDoor.gp.Rn
open Go.Proofs.Tryz
open Go.RowKit
section
open Tryz
noncomputable section
def lD (a d w x y B C D E F f g m n s t u v:Fe):List (Nat×Fe):=[(192,.pU (yz)),(401,.pU (Y5)),(191,.pU (U7)),(402,.pU (yz)),(425,.pU (OZ)),(371,.code f371 199),(188,.code f188 1011),(427,.code f427 783),(132,y),(396,.code f396 4083),(130,.code f130 199),(398,.pU (mxO true)),(198,.code f198 281474976710719),(290,.code f290 51),(129,x),(248,.code f248 3855),(400,.code f400 1219572003044643453052734656085852056780543),(152,.code f152 13),(340,s),(242,.code f242 29),(397,.pU (mxO false)),(449,.code f449 783),(90,.code f90 125),(190,.code f190 2045),(123,.code f123 63),(403,.code f403 19),(270,.code f270 16371),(197,.code f197 967),(77,B),(184,.code f184 3855),(430,.code f430 5),(221,.code f221 243),(63,.code f63 119),(91,.code f91 15),(241,.code f241 19),(272,.code f272 115),(44,.code f44 15),(394,.code f394 7),(106,.code f106 61),(151,.code f151 115),(155,.code f155 45),(196,.code f196 262131),(372,.code f372 71),(313,.code f313 5),(429,.code f429 39),(369,.code f369 31),(122,.code f122 967),(61,.code f61 63),(368,m),(58,.code f58 13),(245,.code f245 16371),(251,.code f251 463),(43,.code f43 1011),(68,.code f68 251),(247,.code f247 1),(189,.code f189 7),(222,.code f222 7),(157,.pU (aat)),(291,.code f291 26388279070671),(128,.code f128 31),(224,.code f224 29),(131,.code f131 71),(62,.code f62 29),(153,.code f153 5),(32,.code f32 17179870711),(51,.code f51 8007),(57,.code f57 29),(302,.code f302 31),(450,.code f450 33553439),(86,.code f86 883),(170,.code f170 51),(199,.code f199 975),(42,.code f42 125),(127,.code f127 125),(104,.code f104 15),(244,.code f244 115),(29,.code f29 223),(407,.code f407 51),(134,.code f134 975),(373,.code f373 61),(404,.code f404 61),(40,.code f40 4095),(70,.code f70 375),(139,E),(193,.code f193 4047),(53,.code f53 499),(183,.code f183 1),(210,.code f210 13),(55,.code f55 4294967423),(37,.code f37 4095),(286,.code f286 3855),(9,d),(167,.code f167 13),(243,.code f243 51),(154,.code f154 7),(351,.code f351 63),(452,.code f452 1039),(36,.code f36 5),(379,.code f379 66113138641474380890815),(230,.code f230 7),(223,.code f223 31),(73,.code f73 13),(114,.code f114 115),(125,.code f125 23),(271,.code f271 493),(208,.code f208 4095),(83,.code f83 63),(136,.code f136 21778071482940061661655974875633165534207),(28,.code f28 8191),(7,a),(174,.code f174 5),(60,.code f60 243),(108,.code f108 19),(181,.code f181 189),(47,.code f47 71),(24,.code f24 119),(12,.code f12 127),(115,.code f115 5),(304,.code f304 31),(18,.code f18 3943),(232,.code f232 13),(107,.code f107 5),(72,w),(377,.code f377 15),(305,.code f305 7),(148,.code f148 31),(386,.code f386 31),(261,.code f261 243),(71,.code f71 8191),(249,.code f249 8135),(451,.code f451 3103),(67,.code f67 471),(342,.code f342 8135),(320,.pU (ZH)),(349,.code f349 63),(375,.code f375 51),(297,.code f297 13),(200,g),(258,.code f258 4083),(76,.code f76 2045),(263,.code f263 15),(344,.code f344 255),(87,.code f87 7),(260,.code f260 31),(348,.code f348 7),(283,.code f283 5),(374,.code f374 243),(179,.code f179 61),(187,.code f187 127),(31,.code f31 4087),(405,.code f405 5),(30,.code f30 2043),(35,.code f35 31),(135,.code f135 31),(138,.code f138 509),(231,.code f231 31),(218,.code f218 51),(177,.code f177 23),(66,.code f66 7983),(95,.code f95 243),(80,F),(33,D),(144,.code f144 131055),(341,.code f341 499),(143,.code f143 33685501),(219,.code f219 783),(406,.code f406 29),(437,.code f437 12339),(65,.code f65 31),(253,.code f253 1021),(89,.code f89 29),(166,.code f166 7),(303,.code f303 2039),(346,.code f346 29),(442,.code f442 967),(212,.code f212 5),(213,.code f213 5),(217,.code f217 51),(202,.code f202 16327),(408,.code f408 14681183),(81,.code f81 29),(21,.code f21 1971),(255,.code f255 63),(178,.code f178 59),(180,.code f180 59),(206,.code f206 4083),(79,.code f79 895),(419,.code f419 12339),(203,.code f203 253),(211,.code f211 255),(23,.code f23 115),(185,.code f185 5),(236,.code f236 19),(294,.code f294 1991),(376,.code f376 100925565),(330,.code f330 783),(45,.code f45 83),(124,.code f124 79),(214,.code f214 5),(78,C),(209,.code f209 16371),(380,.code f380 5),(287,.code f287 2096159),(289,.code f289 2096159),(10,v),(94,.code f94 967),(11,.code f11 5),(17,.code f17 975),(149,.code f149 51),(186,.code f186 7),(133,.code f133 7),(267,.code f267 7),(146,.code f146 7),(195,.code f195 51),(387,.code f387 12339),(85,.code f85 31),(370,n),(142,.code f142 8143),(298,.code f298 61),(150,.code f150 967),(237,.code f237 19),(240,.code f240 19),(39,.code f39 31),(121,.code f121 31),(52,.code f52 11),(117,.code f117 463),(182,.code f182 11),(228,.code f228 5),(8,.code f8 243),(20,.code f20 103),(118,.code f118 103),(119,.code f119 103),(120,.code f120 103),(137,.code f137 5),(254,.code f254 125),(293,t),(322,.code f322 783),(141,.code f141 19),(252,u),(13,.code f13 13),(34,f),(46,.code f46 5),(420,.code f420 19),(204,.code f204 243),(205,.code f205 1991),(296,.code f296 15),(292,.code f292 125),(201,.code f201 125),(84,.code f84 3),(88,.code f88 943),(266,.code f266 63),(265,.code f265 253),(140,.code f140 7),(250,.code f250 31),(343,.code f343 7),(399,.code f399 5),(25,.code f25 13),(259,.code f259 12339),(300,.code f300 12339),(301,.code f301 12339),(428,.code f428 3),(75,.code f75 29),(307,.code f307 61),(145,.code f145 5),(262,.code f262 4),(74,.code f74 7),(207,.code f207 5)]
theorem hA {a d w x y B C D E F f g m n s t u v:Fe} (G:hU 7 a) (H:hU 9 d) (R:hU 72 w) (S:hU 129 x) (T:hU 132 y) (U:hU 77 B) (V:hU 78 C) (W:hU 33 D) (X:hU 139 E) (Y:hU 80 F) (I:hU 34 f) (J:hU 200 g) (K:hU 368 m) (L:hU 370 n) (M:hU 340 s) (N:hU 293 t) (O:hU 252 u) (Q:hU 10 v):wV (lD a d w x y B C D E F f g m n s t u v):=fz JL<|fz TZ<|fz Pm<|fz Mc<|fz L9<|fz func371<|fz func188<|fz func427<|fz T<|fz func396<|fz func130<|fz Tv<|fz func198<|fz func290<|fz S<|fz func248<|fz func400<|fz func152<|fz M<|fz func242<|fz Uo<|fz func449<|fz func90<|fz func190<|fz func123<|fz func403<|fz func270<|fz func197<|fz U<|fz func184<|fz func430<|fz func221<|fz func63<|fz func91<|fz func241<|fz func272<|fz func44<|fz func394<|fz func106<|fz func151<|fz func155<|fz func196<|fz func372<|fz func313<|fz func429<|fz func369<|fz func122<|fz func61<|fz K<|fz func58<|fz func245<|fz func251<|fz func43<|fz func68<|fz func247<|fz func189<|fz func222<|fz Ta<|fz func291<|fz func128<|fz func224<|fz func131<|fz func62<|fz func153<|fz func32<|fz func51<|fz func57<|fz func302<|fz func450<|fz func86<|fz func170<|fz func199<|fz func42<|fz func127<|fz func104<|fz func244<|fz func29<|fz func407<|fz func134<|fz func373<|fz func404<|fz func40<|fz func70<|fz X<|fz func193<|fz func53<|fz func183<|fz func210<|fz func55<|fz func37<|fz func286<|fz H<|fz func167<|fz func243<|fz func154<|fz func351<|fz func452<|fz func36<|fz func379<|fz func230<|fz func223<|fz func73<|fz func114<|fz func125<|fz func271<|fz func208<|fz func83<|fz func136<|fz func28<|fz G<|fz func174<|fz func60<|fz func108<|fz func181<|fz func47<|fz func24<|fz func12<|fz func115<|fz func304<|fz func18<|fz func232<|fz func107<|fz R<|fz func377<|fz func305<|fz func148<|fz func386<|fz func261<|fz func71<|fz func249<|fz func451<|fz func67<|fz func342<|fz Ut<|fz func349<|fz func375<|fz func297<|fz J<|fz func258<|fz func76<|fz func263<|fz func344<|fz func87<|fz func260<|fz func348<|fz func283<|fz func374<|fz func179<|fz func187<|fz func31<|fz func405<|fz func30<|fz func35<|fz func135<|fz func138<|fz func231<|fz func218<|fz func177<|fz func66<|fz func95<|fz Y<|fz W<|fz func144<|fz func341<|fz func143<|fz func219<|fz func406<|fz func437<|fz func65<|fz func253<|fz func89<|fz func166<|fz func303<|fz func346<|fz func442<|fz func212<|fz func213<|fz func217<|fz func202<|fz func408<|fz func81<|fz func21<|fz func255<|fz func178<|fz func180<|fz func206<|fz func79<|fz func419<|fz func203<|fz func211<|fz func23<|fz func185<|fz func236<|fz func294<|fz func376<|fz func330<|fz func45<|fz func124<|fz func214<|fz V<|fz func209<|fz func380<|fz func287<|fz func289<|fz Q<|fz func94<|fz func11<|fz func17<|fz func149<|fz func186<|fz func133<|fz func267<|fz func146<|fz func195<|fz func387<|fz func85<|fz L<|fz func142<|fz func298<|fz func150<|fz func237<|fz func240<|fz func39<|fz func121<|fz func52<|fz func117<|fz func182<|fz func228<|fz func8<|fz func20<|fz func118<|fz func119<|fz func120<|fz func137<|fz func254<|fz N<|fz func322<|fz func141<|fz O<|fz func13<|fz I<|fz func46<|fz func420<|fz func204<|fz func205<|fz func296<|fz func292<|fz func201<|fz func84<|fz func88<|fz func266<|fz func265<|fz func140<|fz func250<|fz func343<|fz func399<|fz func25<|fz func259<|fz func300<|fz func301<|fz func428<|fz func75<|fz func307<|fz func145<|fz func262<|fz func74<|fz func207<|UH
abbrev c0:Fe:= .code f7 15357
theorem k0:hU 7 c0:=func7
abbrev c1:Fe:= .code f9 507
theorem k1:hU 9 c1:=func9
abbrev c2:Fe:= .code f72 1991
theorem k2:hU 72 c2:=func72
abbrev c3:Fe:= .code f129 8189
theorem k3:hU 129 c3:=func129
abbrev c4:Fe:= .code f132 29
theorem k4:hU 132 c4:=func132
abbrev c5:Fe:= .code f77 521469
theorem k5:hU 77 c5:=func77
abbrev c6:Fe:= .code f78 127
theorem k6:hU 78 c6:=func78
abbrev c7:Fe:= .code f33 14340063007
theorem k7:hU 33 c7:=func33
abbrev c8:Fe:= .code f139 16781271
theorem k8:hU 139 c8:=func139
abbrev c9:Fe:= .code f80 65523
theorem k9:hU 80 c9:=func80
abbrev AZ:Fe:= .code f34 3855
theorem Hg:hU 34 AZ:=func34
abbrev xS:Fe:= .code f200 524063
theorem Fw:hU 200 xS:=func200
abbrev Cf:Fe:= .code f368 125
theorem F1:hU 368 Cf:=func368
abbrev Ed:Fe:= .code f370 125
theorem EN:hU 370 Ed:=func370
abbrev Cc:Fe:= .code f340 985162478245085
theorem Dt:hU 340 Cc:=func340
abbrev AW:Fe:= .code f293 29
theorem BZ:hU 293 AW:=func293
abbrev BA:Fe:= .code f252 1011
theorem BS:hU 252 BA:=func252
abbrev rI:Fe:= .code f10 2015
theorem tV:hU 10 rI:=func10
def s0:List SV:=[.s [117,115,101,114,46,107],.s [118,48]]
def s1:List SV:=nv .i64 [1,7,0,3,0,7]
def s2:List SV:=[.s [],.n .i64 0,.s [97],.n .i64 1,.s [97,47,98],.n .i64 2]
def s3:List SV:=[.n .i64 1,.n .i64 493,.n .i64 0,.n .i64 0,.n .i64 0,.l0,.l0,.n .i64 0,.l0,.s [],.n .i64 0,.n .i64 0]
def s4:List SV:=nv .i64 [8,7,3,3,0,0,2,2,0,1,0,0,0,0,0,0,0,0,0,0,0,0,0,0,0,0,0,0,0,0,0,0,0,0,0,0,0,0,0,0,0,1,0,0,0,0,1,1,1,0,0,0,0,0,0,0,0,0,0,0,0,0,0,0,0,0,0,0,0,0,0,0,0,0,0,0,0,0,0,0,0,0,0,0,0,0,0,0,0,0,0,0,0,0,0,0,0,2,1,0,0,1,0,0,0,0,0,1,0,0,0,0,0,0,1,1,0,1,1,0,0,0,0,0,0,0,0,0,0,0,0,0,0,0,0,0,0,0,0,0,0,0,0,0,0,0,0,0,0,0,0,0,0,0,0,0,0,0,0,0,0,0,0,0,0,0,0,0,0,0,0,0,0,0,0,0,0,0,0,0,0,0,0,0,0,0,0,0,0,0,0,0,0,0,0,0,0,0,0,0,0,0,0,0,0,1,0,0,0,0,0,0,0,0,0,0,0,0,0,0,0,0,0,0,0,0,0,0,0,0,0,0,0,0,0,0,0,0,0,0,0,0,0,1,0,0,0,0,0,0,1,0,0,0,0,0,3,0,0,0,0,0,0,0,0,0,0,0,0,0,0,0,0,0,0,0,0,0,0,0,0,0,0,0,0,0,0,0,0,0,0,0,0,0,0,0,0,0,0,0,0,0,0,0,0,0,0,0,0,0,0,0,0,0,0,0,0,0,0,0]
def s5:List SV:=nv .i64 [3,3,4,4,0,0,5,5,0,5,0,0,0,0,0,0,0,0,0,0,0,0,0,0,0,0,0,0,0,0,0,0,0,0,0,0,0,0,0,0,0,5,0,0,0,0,5,5,5,0,0,0,0,0,0,0,0,0,0,0,0,0,0,0,0,0,0,0,0,0,0,0,0,0,0,0,0,0,0,0,0,0,0,0,0,0,0,0,0,0,0,0,0,0,0,0,0,5,5,0,0,5,0,0,0,0,0,5,0,0,0,0,0,0,5,5,0,5,5,0,0,0,0,0,0,0,0,0,0,0,0,0,0,0,0,0,0,0,0,0,0,0,0,0,0,0,0,0,0,0,0,0,0,0,0,0,0,0,0,0,0,0,0,0,0,0,0,0,0,0,0,0,0,0,0,0,0,0,0,0,0,0,0,0,0,0,0,0,0,0,0,0,0,0,0,0,0,0,0,0,0,0,0,0,0,5,0,0,0,0,0,0,0,0,0,0,0,0,0,0,0,0,0,0,0,0,0,0,0,0,0,0,0,0,0,0,0,0,0,0,0,0,0,5,0,0,0,0,0,0,5,0,0,0,0,0,4,0,0,0,0,0,0,0,0,0,0,0,0,0,0,0,0,0,0,0,0,0,0,0,0,0,0,0,0,0,0,0,0,0,0,0,0,0,0,0,0,0,0,0,0,0,0,0,0,0,0,0,0,0,0,0,0,0,0,0,0,0,0,0]
def s6:List SV:=nv .u8 [0,1,3,0,0,1,250,243,1,0,0,9,0,0,1,97,1,1,0,0,0,0,1,6,117,115,101,114,46,107,2,118,48,2,1,7,0,3,0,7,3,97,47,98,2,6,41,1,1,205,0,0]
def s7:List SV:=nv .u8 [83,84,69,49,115,97,108,116,115,97,108,116,1,134,30,236,254,203,82,66,94,2,0,52,121,137,143,130,215,194,19,104,66,173,240,114,114,228,40,92,92,202,79,22,184,123,173,247,50,98,117,252,205,161,206,62,184,141,63,240,199,45,71,51,21,59,249,107,239,65,96,143,66,73,251,245,207,198,229,187,151,96,193,236,3,1,3,123,135,225,95,69,87,62,111,207,233,214]
def s8:List SV:=nv .u8 [1,3,0,0,1,250,243,1,0,0,9,0,0,1,97,1,1,0,0,0,0,1,6,117,115,101,114,46,107,2,118,48,2,1,7,0,3,0,7,3,97,47,98,2,6,41,1,1,205,0,0]
def s9:List SV:=[.n .i64 1,.n .i64 0,.n .i64 0,.n .i64 3,.n .i64 0,.n .i64 0,.n .i64 0,.n .i64 0,.n .i64 0,.n .i64 0,.n .i64 0,.n .i64 0,.n .i64 1,.n .i64 0,.n .i64 0,.n .i64 250,.n .i64 0,.n .i64 0,.n .i64 243,.n .i64 0,.n .i64 0,.n .i64 1,.n .i64 0,.n .i64 0,.n .i64 0,.n .i64 0,.n .i64 0,.n .i64 0,.n .i64 0,.n .i64 0,.n .i64 9,.n .i64 0,.n .i64 0,.m .i64 0,.n .i64 9,.n .i64 3,.n .i64 97,.n .i64 0,.n .i64 0,.n .i64 1,.n .i64 0,.n .i64 0,.m .i64 0,.n .i64 9,.n .i64 3,.m .i64 0,.n .i64 8,.n .i64 3,.n .i64 6,.n .i64 0,.n .i64 0,.n .i64 117,.n .i64 0,.n .i64 0,.n .i64 115,.n .i64 0,.n .i64 0,.n .i64 101,.n .i64 0,.n .i64 0,.n .i64 114,.n .i64 0,.n .i64 0,.n .i64 46,.n .i64 0,.n .i64 0,.n .i64 107,.n .i64 0,.n .i64 0,.n .i64 2,.n .i64 0,.n .i64 0,.n .i64 118,.n .i64 0,.n .i64 0,.n .i64 48,.n .i64 0,.n .i64 0,.n .i64 2,.n .i64 0,.n .i64 0,.n .i64 1,.n .i64 0,.n .i64 0,.n .i64 7,.n .i64 0,.n .i64 0,.n .i64 0,.n .i64 0,.n .i64 0,.n .i64 3,.n .i64 0,.n .i64 0,.n .i64 0,.n .i64 0,.n .i64 0,.n .i64 7,.n .i64 0,.n .i64 0,.n .i64 3,.n .i64 0,.n .i64 0,.n .i64 97,.n .i64 0,.n .i64 0,.n .i64 47,.n .i64 0,.n .i64 0,.n .i64 98,.n .i64 0,.n .i64 0,.n .i64 2,.n .i64 0,.n .i64 0,.n .i64 6,.n .i64 0,.n .i64 0,.n .i64 41,.n .i64 0,.n .i64 0,.n .i64 1,.n .i64 0,.n .i64 0,.n .i64 1,.n .i64 0,.n .i64 0,.n .i64 205,.n .i64 0,.n .i64 0,.n .i64 0,.n .i64 0,.n .i64 0,.n .i64 0,.n .i64 0,.n .i64 0]
def s10:List SV:=nv .u8 [1,51,51,68,0,85,5,0,0,0,0,0,0,0,0,0,0,0,0,0,0,0,5,0,0,85,80,0,0,0,0,0,0,0,0,0,0,0,0,0,0,0,0,0,0,0,0,0,0,0,5,80,5,0,0,5,0,0,0,85,5,80,0,0,0,0,0,0,0,0,0,0,0,0,0,0,0,0,0,0,0,0,0,0,0,0,0,0,0,0,0,0,0,0,0,0,0,0,0,0,0,0,0,0,5,0,0,0,0,0,0,0,0,0,0,0,0,0,0,0,0,0,0,5,0,0,0,80,0,0,64,0,0,0,0,0,0,0,0,0,0,0,0,0,0,0,0,0,0,0,0,0,0,0,0,0,0,0,0,0,0,0,42,1,255,136,16,96,34,165,128,134,1,221,189,95,50,194,114,136,94,20,61,107,59,35,162,79,64]
def XV:List SV:=nv .u32 [3075941333,2106473833,375924579,3363127365,2663744524,349807867,2433079605,187634764]
def s12:List SV:=nv .u8 [115,97,108,116,115,97,108,116]
def q0:Eb:=⟨11,68,2,s0⟩
def q1:Eb:=⟨12,70,3,s1⟩
def q2:Eb:=⟨93,37,6,[.n .i64 1,.n .i64 493,.n .i64 0,.n .i64 0,.n .i64 9,.l0,.l0,.n .i64 0,.l0,.s [],.n .i64 0,.n .i64 0,.n .i64 1,.n .i64 0,.n .i64 0,.n .i64 0,.n .i64 0,.lx 11 2 0 1 1,.lx 12 3 0 2 2,.n .i64 0,.l0,.s [],.n .i64 0,.n .i64 0,.n .i64 6,.n .i64 41,.n .i64 1,.n .i64 1,.n .i64 205,.l0,.l0,.n .i64 0,.l0,.s [],.n .i64 0,.n .i64 0]⟩
def q3:Eb:=⟨95,49,3,s2⟩
def q4:Eb:=⟨1120,3,9,s4⟩
def q5:Eb:=⟨4710,5,11,nv .u8 [0,0,1,1,0,0,1,1,0,1,0,0,0,1,0,0,0,0,0,0,0,0,0,0,0,1,0,1,0,1,0,1,0,0,0,0,0,1,0,1,0,0,0,0,0,0,0,0,0,0,0,0,0,0,0,0,0,0,0,0,0,0,0,0,0,0,0,0,0,0,0,0,0,0,0,0,0,0,0,0,0,0,0,0,0,0,0,0,0,0,0,0,0,0,0,0,0,0,0,0,0,0,0,0,0,0,0,0,0,0,0,0,0,0,0,0,0,0,0,0,0,0,0,0,0,0,0,0,0,0,0,0,0,0,0,0,0,0,0,0,0,0,0,0,0,0,0,0,0,0,0,0,0,0,0,0,0,0,0,0,0,0,0,0,0,1,0,1,0,0,0,0,0,0,0,0,0,0,0,0,0,0,0,0,0,1,0,1,0,1,0,1,0,1,0,1,0,0,0,0,0,0,0,0,0,0,0,0,0,0,0,0,0,0,0,0,0,0,0,0,0,0,0,0,0,0,0,0,0,0,0,0,0,0,0,0,0,0,0,0,0,0,0,0,0,0,0,0,0,0,0,0,0,0,0,0,0,0,0,0,0,0,0,0,0,0,0,0,0,0,0,0,0,0,0,0,0,0,0,0,0,0,0,0,0,0,0,0,0,0,0,0,0,0,0,0,0,0,0,0,0,0,0,0,0,0,0,0,0,0,0,0,0,0,0,0,0,0,0,0,0,0,0,0,0,0,0,0,0,0,0,0,0,0,0,0,0,0,0,0,0,0,0,0,0,0,0,0,0,0,0,0,0,0,0,0,0,0,0,0,0,0,0,0,0,0,0,0,0,0,0,0,0,0,0,0,0,0,0,0,0,0,0,0,0,0,0,0,0,1,0,1,0,1,0,1,0,0,0,0,0,0,0,0,0,1,0,1,0,0,0,0,0,0,0,0,0,0,0,0,0,0,0,0,0,0,0,0,0,1,0,1,0,0,0,0,0,0,0,0,0,0,0,0,0,0,0,0,0,0,0,0,0,0,0,0,0,1,0,1,0,1,0,1,0,0,0,0,0,1,0,1,0,1,0,1,0,0,0,0,0,0,0,0,0,0,0,0,0,0,0,0,0,0,0,0,0,0,0,0,0,0,0,0,0,0,0,0,0,0,0,0,0,0,0,0,0,0,0,0,0,0,0,0,0,0,0,0,0,0,0,0,0,0,0,0,0,0,0,0,0,0,0,0,0,0,0,0,0,0,0,0,0,0,0,0,0,0,0,0,0,0,0,0,0,0,0,0,0,0,0,0,0,0,0,0,0,0,0,0,0,0,0,0,0,0,0,0,0,0,0,0,0,0,0,0,0,0,0,0,0,0,0,0,0,0,0,0,0,0,0,0,0,0,0,0,0,0,0,0,0,0,0,0,0,0,0,0,0,0,0,0,0,0,0,0,0,0,0,0,0,0,0,0,0,0,0,0,0,0,0,0,0,0,0,0,0,0,0,0,0,0,0,0,0,0,0,0,0,0,0,0,0,0,0,0,0,0,0,0,0,0,0,0,0,0,0,0,0,0,0,0,0,0,0,0,0,0,0,0,0,0,0,0,0,0,0,0,0,0,0,0,0,0,0,0,0,0,0,0,0,0,0,0,0,0,0,0,0,0,0,0,0,0,0,0,0,0,0,0,0,0,0,0,0,0,0,0,0,0,0,0,0,0,0,0,0,0,0,0,0,0,0,0,0,0,0,0,0,0,0,0,0,0,0,0,0,0,0,0,0,0,0,0,0,0,0,0,0,0,0,0,0,0,0,0,0,0,0,0,0,0,0,0,0,0,0,0,0,0,0,0,0,0,0,0,0,0,0,0,0,1,0,1,0,0,0,0,0,0,0,0,0,0,0,0,0,0,0,0,0,0,0,0,0,0,0,0,0,0,0,0,0,0,0,0,0,0,0,0,0,0,0,0,0,0,0,0,0,0,0,0,0,0,0,0,0,0,0,0,0,0,0,0,0,0,0,0,0,0,0,0,0,0,0,0,0,0,0,0,0,0,0,0,0,0,0,0,0,0,0,0,0,0,0,0,0,0,0,0,0,0,0,0,0,0,0,0,0,0,0,0,0,0,0,0,0,0,0,0,0,0,0,0,0,0,0,0,0,0,0,0,0,0,0,0,0,0,0,0,0,0,0,0,0,0,0,0,0,0,0,0,0,1,0,1,0,0,0,0,0,0,0,0,0,0,0,0,0,0,0,0,0,0,0,0,0,0,0,0,0,1,0,1,0,0,0,0,0,0,0,0,0,0,0,0,0,0,0,0,0,0,0,0,0,1,0,0,0,0,0,0,0,0,0,0,0,0,0,0,0,0,0,0,0,0,0,0,0,0,0,0,0,0,0,0,0,0,0,0,0,0,0,0,0,0,0,0,0,0,0,0,0,0,0,0,0,0,0,0,0,0,0,0,0,0,0,0,0,0,0,0,0,0,0,0,0,0,0,0,0,0,0,0,0,0,0,0,0,0,0,0,0,0,0,0,0,0,0,0,0,0,0,0,0,0,0,0,0,0,0,0,0,0,0,0,0,0,0,0,0,0,0,0,0,0,0,0,0,0,0,0,0,0,0,0,0,0,0,0,0,0,0,0,0,0,0,0,0,0,0,0,0,0,0,0,0,0,0,0,0,0,0,0,0,0,0,0,0,0,0,0,0,0,0,0,0,0,0,0,0,0,0,0,0,0,0,0,0,0,0,0,0,0,0,0,0,0,0,0,0,0,0,0,0,0,0,0,0,0,0,0,0,0,0,0,0,0,0,0,0,0,0,0,0,0,0,0,0,0,0,0,0,0,0,0,0,0,0,0,0,0,0,0,0,0,0,0,0,0,0,0,0,0,0,0,0,0,0,0,0,0,1,0,1,0,1,0,0,0,0,0,0,0,0,1,1,1,1,1,1,1,1,1,1,0,0,0,1,0,0,0,0,0,0,1,0,0,0,0,0,1,1,0,0,0,0,0,0,0,1,0,0,0,1,0,1,0,1,0,0,1,0,1,1,0,0,0,0,0,0,0,1,0,0,0,0,1,1,0,0,0,0,0,0,0,0,1,1,1,0,1,1,1,0,1,1,0,1,1,1,1,0,1,0,1,0,1,1,1,1,1,0,0,1,1,0,0,1,0,1,1,0,0,0,0,1,0,0,1,1,1,0,0,1,0,1,0,0,0,1,0,0,0,0,1,0,1,1,1,1,0,0,0,0,1,0,1,0,0,0,0,1,1,1,1,0,1,0,1,1,0,1,0,1,1,0,0,1,1,1,0,1,1,0,0,1,0,0,0,1,1,1,0,1,0,0,0,1,0,0,1,0,0,1,1,1,1,0,1,0,0,0,0,0,0]⟩
def q6:Eb:=⟨4715,5,6,s6⟩
def q7:Eb:=⟨5233,5,7,s7⟩
def q8:Eb:=⟨5219,49,2,[.s [],.n .i64 0]⟩
def q9:Eb:=⟨5222,37,4,s3⟩
def W3:Eb:=⟨5232,88,3,[.n .i64 100000,.l0,.n .i64 0,.b false,.l 5219 2 0 1,.l 5222 12 0 1]⟩
def RL:Eb:=⟨5324,5,7,s7⟩
def q12:Eb:=⟨5461,5,7,nv .u8 [0,1,3,0,0,1,250,243,1,0,0,9,0,0,1,97,1,1,0,0,0,0,1,6,117,115,101,114,46,107,2,118,48,2,1,7,0,3,0,7,3,97,47,98,2,6,41,1,1,205,0,0,45,75,169,111,44,53,211,157,109,171,238,218,0,0,0,0,0,0,0,0,0,0,0,0,0,0,0,0,0,0,0,0]⟩
def XL:Eb:=⟨5645,5,6,s8⟩
def q14:Eb:=⟨5736,3,9,s4⟩
def Yw:Eb:=⟨7155,5,6,s8⟩
def q16:Eb:=⟨7246,3,9,s4⟩
def q17:Eb:=⟨7993,49,3,s2⟩
def q18:Eb:=⟨8002,68,2,s0⟩
def q19:Eb:=⟨8004,70,3,s1⟩
def q20:Eb:=⟨8010,37,6,[.n .i64 1,.n .i64 493,.n .i64 0,.n .i64 0,.n .i64 9,.l0,.l0,.n .i64 0,.l0,.s [],.n .i64 0,.n .i64 0,.n .i64 1,.n .i64 0,.n .i64 0,.n .i64 0,.n .i64 0,.l 8002 2 0 1,.l 8004 3 0 2,.n .i64 0,.l0,.s [],.n .i64 0,.n .i64 0,.n .i64 6,.n .i64 41,.n .i64 1,.n .i64 1,.n .i64 205,.l0,.l0,.n .i64 0,.l0,.s [],.n .i64 0,.n .i64 0]⟩
def q21:Eb:=⟨5232,88,3,[.n .i64 100000,.l0,.n .i64 19,.b false,.l 8186 2 0 3,.l 8184 12 0 3]⟩
def q22:Eb:=⟨8184,37,6,[.n .i64 1,.n .i64 493,.n .i64 0,.n .i64 0,.n .i64 9,.l0,.l0,.n .i64 0,.l0,.s [],.n .i64 0,.n .i64 0,.n .i64 1,.n .i64 0,.n .i64 0,.n .i64 0,.n .i64 0,.l 8265 2 0 1,.l 8279 3 0 2,.n .i64 0,.l0,.s [],.n .i64 0,.n .i64 0,.n .i64 6,.n .i64 41,.n .i64 1,.n .i64 1,.n .i64 205,.l0,.l0,.n .i64 0,.l0,.s [],.n .i64 0,.n .i64 0]⟩
def q23:Eb:=⟨8186,49,3,s2⟩
def q24:Eb:=⟨8265,68,2,s0⟩
def q25:Eb:=⟨8279,70,3,s1⟩
def me0:Me:=⟨1,[.v (.lx 0 1 0 4 4)],[⟨0,3,3,nv .i64 [0,100,205,11]⟩],.g ([.l 95 2 0 3,.l 93 12 0 3]),148,[⟨0,3,3,nv .i64 [0,100,205,11]⟩,q0,q1,q2,q3]⟩
abbrev t0:=lD c0 c1 c2 c3 c4 c5 c6 c7 c8 c9 AZ xS Cf Ed Cc AW BA rI
abbrev r0:Fe:= .pU (iW [me0])
def me1:Me:=⟨177,[.v (.p 176 0),.g ([.l 95 2 0 3,.l 93 12 0 3])],[q0,q1,q2,q3,⟨163,49,2,[.s [],.n .i64 0]⟩,⟨166,37,4,s3⟩,⟨176,88,3,[.n .i64 100000,.l0,.n .i64 0,.b false,.l 163 2 0 1,.l 166 12 0 1]⟩],.v (.n .i64 0),537,[q0,q1,q2,q3,⟨176,88,3,[.n .i64 100000,.l0,.n .i64 19,.b false,.l 352 2 0 3,.l 350 12 0 3]⟩,⟨350,37,6,[.n .i64 1,.n .i64 493,.n .i64 0,.n .i64 0,.n .i64 9,.l0,.l0,.n .i64 0,.l0,.s [],.n .i64 0,.n .i64 0,.n .i64 1,.n .i64 0,.n .i64 0,.n .i64 0,.n .i64 0,.l 431 2 0 1,.l 445 3 0 2,.n .i64 0,.l0,.s [],.n .i64 0,.n .i64 0,.n .i64 6,.n .i64 41,.n .i64 1,.n .i64 1,.n .i64 205,.l0,.l0,.n .i64 0,.l0,.s [],.n .i64 0,.n .i64 0]⟩,⟨352,49,3,s2⟩,⟨431,68,2,s0⟩,⟨445,70,3,s1⟩]⟩
abbrev t1:=lD r0 c1 c2 c3 c4 c5 c6 c7 c8 c9 AZ xS Cf Ed Cc AW BA rI
abbrev r1:Fe:= .pU (iW [me1])
def me2:Me:=⟨623,[.v (.s [112]),.v (.s [115,97,108,116,115,97,108,116]),.v (.n .i64 1)],[],.t [.g XV,.v (.n .i64 0)],707,[]⟩
abbrev t2:=lD r0 r1 c2 c3 c4 c5 c6 c7 c8 c9 AZ xS Cf Ed Cc AW BA rI
abbrev r2:Fe:= .pU (iW [me2])
def me3:Me:=⟨1211,[.v (.lx 1120 1 0 320 320)],[q4],.t [.v (.lx 1213 1 0 320 320),.v (.n .i64 0)],1583,[q4,⟨1213,3,9,s5⟩]⟩
abbrev t3:=lD r0 r1 r2 c3 c4 c5 c6 c7 c8 c9 AZ xS Cf Ed Cc AW BA rI
abbrev r3:Fe:= .pU (iW [me3])
def me4:Me:=⟨4712,[.v (.p 1583 0)],[⟨1583,187,1,[.l 4710 1 0 1496]⟩,q5],.v (.s [51,68,0,85,5,0,0,0,0,0,0,0,0,0,0,0,0,0,0,0,5,0,0,85,80,0,0,0,0,0,0,0,0,0,0,0,0,0,0,0,0,0,0,0,0,0,0,0,5,80,5,0,0,5,0,0,0,85,5,80,0,0,0,0,0,0,0,0,0,0,0,0,0,0,0,0,0,0,0,0,0,0,0,0,0,0,0,0,0,0,0,0,0,0,0,0,0,0,0,0,0,0,5,0,0,0,0,0,0,0,0,0,0,0,0,0,0,0,0,0,0,5,0,0,0,80,0,0,64,0,0,0,0,0,0,0,0,0,0,0,0,0,0,0,0,0,0,0,0,0,0,0,0,0,0,0,0,0,0,0,42,1,255,136,16,96,34,165,128,134,1,221,189,95,50,194,114,136,94,20,61,107,59,35,162,79,64]),4713,[⟨1583,187,1,[.l 4710 1 0 1496]⟩,q5]⟩
abbrev t4:=lD r0 r1 r2 r3 c4 c5 c6 c7 c8 c9 AZ xS Cf Ed Cc AW BA rI
abbrev r4:Fe:= .pU (iW [me4])
def me5:Me:=⟨1030,[.v (.s [1,3,0,0,1,250,243,1,0,0,9,0,0,1,97,1,1,0,0,0,0,1,6,117,115,101,114,46,107,2,118,48,2,1,7,0,3,0,7,3,97,47,98,2,6,41,1,1,205,0,0])],[],.t [.v (.s [0,1,3,0,0,1,250,243,1,0,0,9,0,0,1,97,1,1,0,0,0,0,1,6,117,115,101,114,46,107,2,118,48,2,1,7,0,3,0,7,3,97,47,98,2,6,41,1,1,205,0,0]),.v (.n .i64 0)],4715,[]⟩
abbrev t5:=lD r0 r1 r2 r3 r4 c5 c6 c7 c8 c9 AZ xS Cf Ed Cc AW BA rI
abbrev r5:Fe:= .pU (iW [me5])
def me6:Me:=⟨4716,[.g XV,.g ([.n .i64 2,.n .i64 0,.b false,.l 4715 1 0 52])],[q6],.t [.v (.s [2,0,52,121,137,143,130,215,194,19,104,66,173,240,114,114,228,40,92,92,202,79,22,184,123,173,247,50,98,117,252,205,161,206,62,184,141,63,240,199,45,71,51,21,59,249,107,239,65,96,143,66,73,251,245,207,198,229,187,151,96,193,236]),.v (.n .i64 0)],5008,[q6]⟩
abbrev t6:=lD r0 r1 r2 r3 r4 r5 c6 c7 c8 c9 AZ xS Cf Ed Cc AW BA rI
abbrev r6:Fe:= .pU (iW [me6])
def me7:Me:=⟨5012,[.g XV,.g ([.n .i64 3,.n .i64 1,.b true,.l 5011 1 0 3])],[⟨5011,5,2,nv .u8 [0,1,0]⟩],.t [.v (.s [3,1,3,123,135,225,95,69,87,62,111,207,233,214]),.v (.n .i64 0)],5205,[⟨5011,5,2,nv .u8 [0,1,0]⟩]⟩
abbrev t7:=lD r0 r1 r2 r3 r4 r5 c6 c7 c8 c9 AZ xS Cf Ed Cc AW BA rI
abbrev r7:Fe:= .pU (iW [me7,me6])
def me8:Me:=⟨537,[.g ([.l 95 2 0 3,.l 93 12 0 3]),.v (.s [112]),.v (.s [115,97,108,116,115,97,108,116]),.v (.n .i64 1)],[q0,q1,q2,q3],.t [.v (.s [83,84,69,49,115,97,108,116,115,97,108,116,1,134,30,236,254,203,82,66,94,2,0,52,121,137,143,130,215,194,19,104,66,173,240,114,114,228,40,92,92,202,79,22,184,123,173,247,50,98,117,252,205,161,206,62,184,141,63,240,199,45,71,51,21,59,249,107,239,65,96,143,66,73,251,245,207,198,229,187,151,96,193,236,3,1,3,123,135,225,95,69,87,62,111,207,233,214]),.v (.n .i64 0)],5205,[q0,q1,q2,q3]⟩
abbrev t8:=lD r0 r1 r2 r3 r4 r5 r7 c7 c8 c9 AZ xS Cf Ed Cc AW BA rI
abbrev r8:Fe:= .pU (iW [me8])
def me9:Me:=⟨5237,[.v (.s [113]),.g s12,.v (.n .i64 1)],[],.t [.g (nv .u32 [3826008399,318509268,3050401894,2033992177,862551572,921288468,3499685794,2951425299]),.v (.n .i64 0)],5282,[]⟩
abbrev t9:=lD r0 r1 r2 r3 r4 r5 r7 r8 c8 c9 AZ xS Cf Ed Cc AW BA rI
abbrev r9:Fe:= .pU (iW [me9])
def X0:Me:=⟨5234,[.v (.l 5233 1 0 98),.v (.s [113])],[q7],.t [.v (.p0),.v (.n .i64 4)],5324,[q7]⟩
abbrev t10:=lD r0 r1 r2 r3 r4 r5 r7 r8 r9 c9 AZ xS Cf Ed Cc AW BA rI
abbrev Jb:Fe:= .pU (iW [X0])
def XT:Me:=⟨5234,[.v (.p 5232 0),.v (.l 5233 1 0 98),.v (.s [113]),.v (.l0)],[q8,q9,W3,q7],.v (.n .i64 4),5324,[q8,q9,W3,q7]⟩
abbrev t11:=lD r0 r1 r2 r3 r4 r5 r7 r8 r9 Jb AZ xS Cf Ed Cc AW BA rI
abbrev H7:Fe:= .pU (iW [XT])
def Ya:Me:=⟨5328,[.v (.s [112]),.g s12,.v (.n .i64 1)],[],.t [.g XV,.v (.n .i64 0)],5373,[]⟩
abbrev t12:=lD r0 r1 r2 r3 r4 r5 r7 r8 c8 Jb H7 xS Cf Ed Cc AW BA rI
abbrev VY:Fe:= .pU (iW [Ya,me9])
def XU:Me:=⟨5416,[.g XV,.v (.l 5324 1 0 98),.v (.n .i64 21),.v (.n .i64 0)],[RL],.t [.g ([.n .i64 2,.n .i64 0,.b false,.lx 5461 1 0 52 52]),.v (.n .i64 84),.v (.n .i64 0)],5548,[RL,q12]⟩
abbrev t13:=lD r0 r1 r2 r3 r4 r5 r7 r8 VY Jb H7 xS Cf Ed Cc AW BA rI
abbrev r13:Fe:= .pU (iW [XU])
def ZO:Me:=⟨5551,[.g XV,.v (.l 5324 1 0 98),.v (.n .i64 84),.v (.n .i64 1)],[RL],.t [.g ([.n .i64 3,.n .i64 1,.b true,.lx 5596 1 0 3 3]),.v (.n .i64 98),.v (.n .i64 0)],5640,[RL,⟨5596,5,6,nv .u8 [0,1,0,233,40,167,151,121,35,227,230,109,198,152,117,215,185,246,10,94,79,66,213,164,195,65,3,80,22,47,235,23,0,0,0]⟩]⟩
abbrev t14:=lD r0 r1 r2 r3 r4 r5 r7 r8 VY Jb H7 xS Cf Ed Cc AW BA rI
abbrev Ib:Fe:= .pU (iW [ZO,XU])
def X1:Me:=⟨5646,[.v (.l 5645 1 0 51)],[XL],.v (.l 5735 3 0 45),5736,[XL,⟨5735,412,8,s9⟩]⟩
abbrev t15:=lD r0 r1 r2 r3 r4 r5 r7 r8 VY Jb H7 Ib Cf Ed Cc AW BA rI
abbrev Yl:Fe:= .pU (iW [X1])
def Xm:Me:=⟨5872,[.v (.lx 5736 1 0 320 320)],[q14],.t [.v (.lx 5875 1 0 320 320),.v (.n .i64 0)],6015,[q14,⟨5875,3,9,s5⟩]⟩
abbrev t16:=lD r0 r1 r2 r3 r4 r5 r7 r8 VY Jb H7 Ib Yl Ed Cc AW BA rI
abbrev Yg:Fe:= .pU (iW [Xm])
def XG:Me:=⟨5646,[.v (.l 5645 1 0 51)],[XL],.v (.l 6179 1 0 189),6180,[XL,⟨6179,5,8,s10⟩]⟩
abbrev t17:=lD r0 r1 r2 r3 r4 r5 r7 r8 VY Jb H7 Ib Yl Yg Cc AW BA rI
abbrev Yz:Fe:= .pU (iW [XG])
def Xz:Me:=⟨5646,[.v (.l 5645 1 0 51)],[XL],.t [.v (.l 6181 1 0 52),.v (.n .i64 0)],6182,[XL,⟨6181,5,6,s6⟩]⟩
abbrev t18:=lD r0 r1 r2 r3 r4 r5 r7 r8 VY Jb H7 Ib Yl Yg Yz AW BA rI
abbrev YA:Fe:= .pU (iW [Xz])
def aar:Me:=⟨5645,[.v (.lx 5461 1 0 52 52),.v (.n .i64 12000)],[q12],.t [.v (.l 5645 1 0 51),.v (.n .i64 0)],6182,[q12,XL]⟩
abbrev t19:=lD r0 r1 r2 r3 r4 r5 r7 r8 VY Jb H7 Ib Yl Yg Yz YA BA rI
abbrev Q8:Fe:= .pU (iW [aar])
def Y2:Me:=⟨6817,[.v (.s [112]),.g s12,.v (.n .i64 1)],[],.t [.g XV,.v (.n .i64 0)],6862,[]⟩
abbrev t20:=lD r0 r1 r2 r3 r4 r5 r7 r8 c8 Jb H7 Ib Yl Yg Yz YA Q8 rI
abbrev R3:Fe:= .pU (iW [Y2,Ya,me9])
def ZL:Me:=⟨7156,[.v (.l 7155 1 0 51)],[Yw],.v (.l 7245 3 0 45),7246,[Yw,⟨7245,412,8,s9⟩]⟩
abbrev t21:=lD r0 r1 r2 r3 r4 r5 r7 r8 R3 Jb H7 Ib Cf Yg Yz YA Q8 rI
abbrev Tl:Fe:= .pU (iW [ZL,X1])
def aaW:Me:=⟨7382,[.v (.lx 7246 1 0 320 320)],[q16],.t [.v (.lx 7385 1 0 320 320),.v (.n .i64 0)],7525,[q16,⟨7385,3,9,s5⟩]⟩
abbrev t22:=lD r0 r1 r2 r3 r4 r5 r7 r8 R3 Jb H7 Ib Tl Ed Yz YA Q8 rI
abbrev Vx:Fe:= .pU (iW [aaW,Xm])
def Y7:Me:=⟨7156,[.v (.l 7155 1 0 51)],[Yw],.v (.l 7689 1 0 189),7690,[Yw,⟨7689,5,8,s10⟩]⟩
abbrev t23:=lD r0 r1 r2 r3 r4 r5 r7 r8 R3 Jb H7 Ib Tl Vx Cc YA Q8 rI
abbrev XA:Fe:= .pU (iW [Y7,XG])
def Zw:Me:=⟨7156,[.v (.l 7155 1 0 51)],[Yw],.t [.v (.l 7691 1 0 52),.v (.n .i64 0)],7692,[Yw,⟨7691,5,6,s6⟩]⟩
abbrev t24:=lD r0 r1 r2 r3 r4 r5 r7 r8 R3 Jb H7 Ib Tl Vx XA AW Q8 rI
abbrev Yj:Fe:= .pU (iW [Zw,Xz])
def Z0:Me:=⟨5325,[.v (.l 5324 1 0 98),.v (.s [112])],[RL],.t [.v (.p 7990 0),.v (.n .i64 0)],7991,[RL,⟨6649,68,2,s0⟩,⟨6651,70,3,s1⟩,⟨6675,37,6,[.n .i64 1,.n .i64 493,.n .i64 0,.n .i64 0,.n .i64 9,.l0,.l0,.n .i64 0,.l0,.s [],.n .i64 0,.n .i64 0,.n .i64 1,.n .i64 0,.n .i64 0,.n .i64 0,.n .i64 0,.l 6649 2 0 1,.l 6651 3 0 2,.n .i64 0,.l0,.s [],.n .i64 0,.n .i64 0,.n .i64 6,.n .i64 41,.n .i64 1,.n .i64 1,.n .i64 205,.l0,.l0,.n .i64 0,.l0,.s [],.n .i64 0,.n .i64 0]⟩,⟨6677,49,3,s2⟩,⟨7990,213,2,[.l 6677 2 0 3,.l 6675 12 0 3]⟩]⟩
abbrev t25:=lD r0 r1 r2 r3 r4 r5 r7 r8 R3 c9 H7 Ib Tl Vx XA Yj Q8 rI
abbrev ZA:Fe:= .pU (iW [Z0,X0])
def X5:Me:=⟨8011,[.v (.p 5232 0),.g ([.l 7993 2 0 3,.l 8010 12 0 3])],[q8,q9,W3,q17,q18,q19,q20],.v (.n .i64 0),8371,[q21,q17,q18,q19,q20,q22,q23,q24,q25]⟩
abbrev t26:=lD r0 c1 r2 r3 r4 r5 r7 r8 R3 ZA H7 Ib Tl Vx XA Yj Q8 rI
abbrev r26:Fe:= .pU (iW [X5,me1])
def Z9:Me:=⟨5325,[.v (.p 5232 0),.v (.l 5324 1 0 98),.v (.s [112]),.v (.l0)],[q8,q9,W3,RL],.v (.n .i64 0),8371,[q21,RL,q22,q23,q24,q25]⟩
abbrev t27:=lD r0 r26 r2 r3 r4 r5 r7 r8 R3 ZA AZ Ib Tl Vx XA Yj Q8 rI
abbrev r27:Fe:= .pU (iW [Z9,XT])
def aaP:Me:=⟨8504,[.v (.p0),.g ([.l 95 2 0 3,.l 93 12 0 3])],[q0,q1,q2,q3],.v (.n .i64 1),8505,[q0,q1,q2,q3]⟩
abbrev t28:=lD r0 c1 r2 r3 r4 r5 r7 r8 R3 ZA r27 Ib Tl Vx XA Yj Q8 rI
abbrev r28:Fe:= .pU (iW [aaP,X5,me1])
end
end
end Go.Proofs.YtecaahegomdbbaaGreatDoor.gp.Rn
