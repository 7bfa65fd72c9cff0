/- Parts of the proof. -/
import Derived.Lib.Bytealg
import Derived.Test.YtecaahegomdbbaaGreatDoorRmReh
import Derived.Test.YtecaahegomdbbaaGreatDoorRmSe
import Derived.Test.YtecaahegomdbbaaGreatDoorRmWa
set_option linter.all false
set_option maxRecDepth 99999
set_option maxHeartbeats 0
namespace Go.Proofs.YtecaahegomdbbaaGreatDoor.gr
open Go.Proofs.Tryz
open Go.RowKit
variable {S d l:ip Tg} {B s:Nat} {v:i6} {w:i5}
section
variable {zs:Nat}
def Dw (w:i5) (B:Nat) (v:i6) (l:ip Tg):Prop:=∃A c,v= .slice A l.length c/\l.length<=c/\c<=9223372036854775807/\(l=[]\/∃g,A=some ⟨g,0,none⟩/\B<=g/\DB (c*2) w g l)
def yP (l:ip Tg):l.flatMap BA=(l.map Prod.snd).flatMap hR:=by
 induction l with
 |nil=>rfl
 |cons x l d=>rw[tu,d];rfl
def Dw.of (h:Ow hR 2 w B 49 v (l.map Prod.snd)):Dw w B v l:=by
 have F:=h;obtain⟨A,c,rfl,h1,n⟩:=h.form;obtain⟨_,t⟩:=F;rw[jv]at*;refine⟨A,c,rfl,h1,n,?_⟩;rcases t with⟨_,d⟩|⟨g,cap,cur,d,E,D,u,_,y,x⟩
 .exact .inl (BZ d)
 .injection d with d _ f
  refine .inr ⟨g,d,E,cur.toList.drop (l.length*2),?_,?_⟩
  .have C:c=cap:=f;have H:cur.size=cap*2:=y;have G:l.length<=cap:=by simpa using u
   have m:cur.toList.length=cur.size:=py;rw[lY,m,C];omega
  rw[yP,<-x,mJ];exact D
def DB.rw {w:i5} {g c:Nat} {l:ip Tg} (h:DB zs w g l) (h1:l.length<=c) (d:c<=9223372036854775807):Rw hR w (.S g 0 l.length c) (l.map Prod.snd):=by
 unfold Rw;rw[jv];refine⟨_,_,rfl,h1,d,λ_=>⟨g,0,rfl,h.lt,λj u hu=>?_⟩⟩;obtain⟨r,_,h⟩:=h;rw[iM,h.cell,po,yP,rk (jR.1 hu).1];exact hu
def Dw.rw {w:i5} {B:Nat} {v:i6} {l:ip Tg} (h:Dw w B v l):Rw hR w v (l.map Prod.snd):=by
 obtain⟨A,c,rfl,h1,d,rfl|⟨g,rfl,_,f⟩⟩:=h
 .exact⟨A,c,rfl,h1,d,λh0=>absurd h0 iB⟩
 .exact f.rw h1 d
def Dw.fr {S:Nat->Prop} {w w':i5} {B:Nat} {v:i6} {l:ip Tg} (h:Dw w B v l) (n:Fr S w w') (f:∀b,v.ownBlock=some b->¬S b):Dw w' B v l:=by
 obtain⟨A,c,rfl,h1,d,rfl|⟨g,rfl,t,m⟩⟩:=h
 .exact⟨A,c,rfl,h1,d,.inl fx⟩
 .exact⟨_,c,rfl,h1,d,.inr ⟨g,rfl,t,m.fr n (f g fx)⟩⟩
def Dw.gO (h:Dw w B v l) (h0:l≠[]) {b:Nat} (d:v.ownBlock=some b):B<=b/\b<w.heap.size:=by
 obtain⟨A,c,rfl,h1,n,rfl|⟨g,rfl,m,f⟩⟩:=h
 .exact absurd fx h0
 .injection d with d;subst d;exact⟨m,f.lt⟩
def Dw.ow (h:Dw w B v l) (h0:l≠[]):Ow hR 2 w B 49 v (l.map Prod.snd):=by
 obtain⟨A,c,rfl,h1,f,rfl|⟨g,rfl,n,r,t,m⟩⟩:=h
 .exact absurd fx h0
 .have d:=gn gi (l.map Prod.snd);rw[jv]at d;refine⟨by rw[jv];exact d,.inr ⟨g,c,_,by rw[jv],n,m,by rw[jv];exact h1,f,?_,?_⟩⟩
  .rw[nK,ib,yP,d];exact t
  .rw[jv,yP,<-d,vr]
def BU (c:Tg->Int) (s:Nat) (l:ip Tg):Prop:=∀k,((l.drop (k*s)).take s).Pairwise (lt c)
def BU.app {c:Tg->Int} {m:Nat} {P:ip Tg} (d:BU c s P) (g:P.length=m*s) (f:S.Pairwise (lt c)) (hs:S.length<=s):BU c s (P++S):=by
 intro k
 by_cases hk:k<m
 .have h1:(k+1)*s<=m*s:=qz s hk;rw[oA,Nat.one_mul]at h1;rw[P2 fy,M9 (by rw[lY];omega)];exact d k
 .have h1:m*s<=k*s:=qz s fy;rw[Ho,zi fy,tz];refine List.Pairwise.sublist ?_ f;exact(List.take_sublist _ _).trans (List.drop_sublist _ _)
theorem BU.nil (c:Tg->Int) (s:Nat):BU c s []:=λk=>by simp
def BU.drop {c:Tg->Int} {X:ip Tg} (h:BU c s (X++d)) (m:Nat) (f:X.length=m*s):BU c s d:=by
 intro k;have:=h (m+k);rw[oA,<-f,Ho,zi fy,tz,Ia]at this;exact this
def BU.one {c:Tg->Int} (h:BU c s l) (d:l.length<=s):l.Pairwise (lt c):=by
 have:=h 0;rwa[tN,wK,p8 d]at this
def BU.first {c:Tg->Int} {X:ip Tg} (h:BU c s (X++d)) (f:X.length=s):X.Pairwise (lt c):=by
 have:=h 0;rwa[tN,wK,M9 fy,p8 fy]at this
def vl {c:Tg->Int} {A f C:ip Tg} (h:(A++S++C).Pairwise (yn c)) (m:f.Perm S) (hs:f.Pairwise (lt c)):(A++f++C).Pairwise (yn c):=by
 rw[kF,ke,ke]at*;obtain⟨h1,⟨u,h3,n⟩,t⟩:=h;refine⟨h1,⟨hs.imp YK,h3,λx g y d=>n x (m.subset g) y d⟩,λx g y d=>t x g y ?_⟩;rcases iS.1 d with d|d
 .exact wB _ (m.subset d)
 .exact ze _ d
def sB {A C O:ip Tg} (h:(A++S++C).Perm O) (f:d.Perm S):(A++d++C).Perm O:=
 (W5 C (Wm A f)).trans h
structure StI (c:Tg->Int) (O:List Tg) (s t g:Nat) (w0:World) (x:List Tg×List Tg) (w:World):Prop where
 db:DB zs w g (x.1++x.2)
 perm:(x.1++x.2).Perm O
 st:(x.1++x.2).Pairwise (yn c)
 m:∃m,x.1.length=m*t
 s1:BU c t x.1
 s2:BU c s x.2
 fr:Fr (· =g) w0 w
def ZU (c:Tg->Int) (l:ip Tg):BU c 1 l:=λk=>by
 generalize(l.drop (k*1))=r;rcases r with _|⟨a,r⟩<;>simp
def HO (w:i5) (g n cp:Nat) (f:FuncId) (cap:Array i6) (D:Tg->Prop) (c:Tg->Int) (O:ip Tg) (ak:DB zs w g O) (av:n=O.length) (au:n<=10000) (W:pE g w f cap D c) (aa:∀x∈O,D x) (al:O.Pairwise (yn c)):
  fQ prog 150 #[.S g 0 n cp,.I n,.func (.func f) #[] cap] w λ_ w'=>∃S,S.Perm O/\S.Pairwise (lt c)/\DB zs w' g S/\Fr (· =g) w w':=by
 refine kg func150 fx fE ?_;refine wk ?_;refine gC (α:=ip Tg×ip Tg) (λx=>[(0,.S g 0 n cp),(1,.I (n:Int)),(2,.func (.func f) #[] cap),(6,.I 20),(7,.I (x.1.length:Int)),(8,.I ((x.1.length:Int)+20))]) (StI (zs:=zs) c O 1 20 g w) (λx=>n-x.1.length) ([],O) (sub ⟨rfl,rfl,rfl,rfl,rfl,rfl⟩) ⟨ak,tE _,al,⟨0,rfl⟩,BU.nil c 20,ZU c O,Fr.refl _ _⟩ ?_;rintro⟨P,d⟩ ab ⟨H,u,F,⟨m,hm⟩,Q,an,E⟩;dsimp only at*;have hlen:=u.length_eq;rw[ib]at hlen
 by_cases ag:P.length+20<=n
 .obtain⟨S,d,rfl,aq⟩:∃S N,d=S++N/\S.length=20:=⟨d.take 20,d.drop 20,(mJ _ _).symm,by rw[kv];omega⟩;rw[ib]at hlen;rw[<-kF]at H u F;refine wk ?_;refine fI (S:=λ_ w'=>∃G,G.Perm S/\G.Pairwise (lt c)/\DB zs w' g (P++G++d)/\Fr (· =g) ab w') fx fx (rG ab g n cp f cap D c P S d H fy fy (W.fr E) (λx I=>aa x (u.subset (by simp[I]))) (by rw[kF,ke,ke]at F;exact F.2.1.1) _ _ fx fy) ?_;rintro v ao ⟨G,B,hs,K,M⟩;have T:=B.length_eq;refine wk ?_;exact gl ⟨(P++G,d),sub ⟨rfl,rfl,rfl,rfl,km (by dsimp only;rw[ib];omega),km (by dsimp only;rw[ib];omega)⟩,⟨K,sB u B,vl F B hs,⟨m+1,by dsimp only;rw[ib];omega⟩,Q.app hm hs fy,ZU _ _,E.t M⟩,by dsimp only;rw[ib];omega⟩
 .refine wk ?_;refine fI (S:=λ_ w'=>∃G,G.Perm d/\G.Pairwise (lt c)/\DB zs w' g (P++G++[])/\Fr (· =g) ab w') fx fx (rG ab g n cp f cap D c P d [] (by simpa using H) (by simp;omega) fy (W.fr E) (λx I=>aa x (u.subset (by simp[I]))) (by rw[ke]at F;exact F.2.1) _ _ fx fy) ?_;rintro v ao ⟨G,B,hs,K,M⟩;have T:=B.length_eq;have ai:BU c 20 (P++G):=Q.app hm hs fy;have ah:(P++G).Perm O:=by have:=sB (C:=[]) (by simpa using u) B;simpa using this
  have aj:(P++G).Pairwise (yn c):=by have:=vl (C:=[]) (by simpa using F) B hs;simpa using this
  refine wk ?_;refine gC (α:=Nat×ip Tg) (λx=>[(0,.S g 0 n cp),(1,.I (n:Int)),(2,.func (.func f) #[] cap),(6,.I (x.1:Int))]) (λx w'=>0<x.1/\StI (zs:=zs) c O x.1 x.1 g w ([],x.2) w') (λx=>n+1-x.1) (20,P++G) (sub ⟨rfl,rfl,rfl,rfl⟩) ⟨by show 0<20;decide,by simpa using K,by simpa using ah,by simpa using aj,⟨0,by simp⟩,BU.nil _ _,ai,E.t M⟩ ?_;clear H u F hm Q E hlen ag B hs K M T ai ah aj an;rintro⟨s,L⟩ U ⟨hs0,H,u,F,_,_,J,E⟩;dsimp only[List.nil_append]at*;have hlen:=u.length_eq
  by_cases aw:s<n
  .refine wk ?_;refine gC (α:=ip Tg×ip Tg) (λx=>[(0,.S g 0 n cp),(1,.I (n:Int)),(2,.func (.func f) #[] cap),(6,.I (s:Int)),(7,.I (x.1.length:Int)),(8,.I ((x.1.length:Int)+2*s))]) (StI (zs:=zs) c O s (2*s) g w) (λx=>n-x.1.length) ([],L) (sub ⟨rfl,rfl,rfl,rfl,rfl,km iB⟩) ⟨H,u,F,⟨0,by simp⟩,BU.nil _ _,J,E⟩ ?_;clear H u F J E hlen L U;rintro⟨P,d⟩ U ⟨H,u,F,⟨m,hm⟩,Q,J,E⟩;dsimp only at*;have hlen:=u.length_eq;rw[ib]at hlen
   by_cases ag:P.length+2*s<=n
   .obtain⟨X,d,rfl,ad⟩:∃S N,d=S++N/\S.length=s:=⟨d.take s,d.drop s,(mJ _ _).symm,by rw[kv];omega⟩;rw[ib]at hlen;obtain⟨Y,d,rfl,am⟩:∃S N,d=S++N/\S.length=s:=⟨d.take s,d.drop s,(mJ _ _).symm,by rw[kv];omega⟩;rw[ib]at hlen;have R:(P++(X++Y)++d).Pairwise (yn c):=by simpa using F
    have V:(P++(X++Y)++d).Perm O:=by simpa using u
    have ae:(X++Y).Pairwise (yn c):=by rw[kF,ke,ke]at R;exact R.2.1.1
    refine wk ?_;refine fI (S:=λ_ w'=>∃Z,Z.Perm (X++Y)/\Z.Pairwise (lt c)/\DB zs w' g (P++Z++d)/\Fr (· =g) U w') fx fx (pf f cap D c g n cp fy _ U P X Y d (gJ _) (by simpa using H) fy (W.fr E) (λx I=>aa x (V.subset (wB _ (ze _ I)))) (J.first ad) ((J.drop 1 fy).first am) (λx I y af=>(ke.1 ae).2.2 x I y af) fy fy _ _ _ fx fy fy) ?_;rintro v ap ⟨Z,B,hs,K,M⟩;have T:=B.length_eq;rw[ib]at T;refine wk ?_;exact gl ⟨(P++Z,d),sub ⟨rfl,rfl,rfl,rfl,km (by dsimp only;rw[ib];omega),km (by dsimp only;rw[ib];omega)⟩,⟨K,sB V B,vl R B hs,⟨m+1,by dsimp only;rw[ib,hm,oA];omega⟩,Q.app hm hs fy,(J.drop 1 fy).drop 1 fy,E.t M⟩,by dsimp only;rw[ib];omega⟩
   .by_cases ar:P.length+s<n
    .obtain⟨X,Y,rfl,ad⟩:∃S N,d=S++N/\S.length=s:=⟨d.take s,d.drop s,(mJ _ _).symm,by rw[kv];omega⟩;rw[ib]at hlen;have R:(P++(X++Y)++[]).Pairwise (yn c):=by simpa using F
     have V:(P++(X++Y)++[]).Perm O:=by simpa using u
     have ae:(X++Y).Pairwise (yn c):=by rw[kF,ke,ke]at R;exact R.2.1.1
     refine wk ?_;refine fI (S:=λ_ w'=>∃Z,Z.Perm (X++Y)/\Z.Pairwise (lt c)/\DB zs w' g (P++Z++[])/\Fr (· =g) U w') fx fx (pf f cap D c g n cp fy _ U P X Y [] (gJ _) (by simpa using H) (by simp;omega) (W.fr E) (λx I=>aa x (V.subset (wB _ (ze _ I)))) (J.first ad) ((J.drop 1 fy).one fy) (λx I y af=>(ke.1 ae).2.2 x I y af) fy fy _ _ _ fx fy fy) ?_;rintro v ap ⟨Z,B,hs,K,M⟩;have T:=B.length_eq;rw[ib]at T;refine wk ?_;exact gl ⟨(2*s,P++Z),sub ⟨rfl,rfl,rfl,km (by dsimp only;omega)⟩,⟨by dsimp only;omega,by simpa using K,by have:=sB V B;simpa using this,by have:=vl R B hs;simpa using this,⟨0,by simp⟩,BU.nil _ _,Q.app hm hs fy,E.t M⟩,by dsimp only;omega⟩
    .refine wk ?_;exact gl ⟨(2*s,P++d),sub ⟨rfl,rfl,rfl,km (by dsimp only;omega)⟩,⟨by dsimp only;omega,by simpa using H,by simpa using u,by simpa using F,⟨0,by simp⟩,BU.nil _ _,Q.app hm (J.one fy) fy,E⟩,by dsimp only;omega⟩
  .refine wk ?_;exact mr fx ⟨L,u,J.one fy,H,E⟩
def Ke (w:i5) (f v:i6):fQ prog 150 #[v,.I 0,f] w λ_ w'=>w=w':=by
 refine kg func150 fx fE ?_;refine wk ?_;refine gC (α:=Unit) (λ_=>[(0,v),(1,.I 0),(2,f),(6,.I 20),(7,.I 0),(8,.I 20)]) (λ_ w'=>w=w') (λ_=>0) () (sub ⟨rfl,rfl,rfl,rfl,rfl,rfl⟩) fx ?_;rintro _ d rfl;refine wk ?_;refine fI (S:=λ_ w'=>w=w') fx fx ?_ ?_
 .refine xA func219 fx fE ?_;refine wk ?_;refine gC (α:=Unit) (λ_=>[(2,.I 0),(8,.I 1)]) (λ_ w'=>w=w') (λ_=>0) () (sub ⟨rfl,rfl⟩) fx ?_;rintro _ d rfl;refine wk ?_;exact mr fx fx
 rintro _ d rfl;refine wk ?_;refine gC (α:=Unit) (λ_=>[(1,.I 0),(6,.I 20)]) (λ_ w'=>w=w') (λ_=>0) () (sub ⟨rfl,rfl⟩) fx ?_;rintro _ d rfl;refine wk ?_;exact mr fx fx
def x6 (w:i5) (B:Nat) (v:i6) (f:FuncId) (cap:Array i6) (D:Tg->Prop) (c:Tg->Int) (O:ip Tg) (hO:Dw w B v O) (G:O.length<=10000) (u:∀g,v.ownBlock=some g->pE g w f cap D c) (y:∀x∈O,D x) (C:O.Pairwise (yn c)):
  fQ prog 84 #[v,.func (.func f) #[] cap] w λ_ w'=>∃S,S.Perm O/\S.Pairwise (lt c)/\Dw w' B v S/\Fr (λb=>O≠[]/\v.ownBlock=some b) w w':=by
 refine gP func84 fx fE ?_;obtain⟨A,cp,rfl,n,t,h⟩:=hO
 by_cases h0:O=[]
 .subst h0;refine wk ?_;refine fI (S:=λ_ w'=>w=w') fx fx (Ke w _ _) ?_;rintro _ H rfl;refine wk ?_;exact mr fx ⟨[],tE _,List.Pairwise.nil,⟨A,cp,rfl,n,t,.inl fx⟩,Fr.refl _ _⟩
 .obtain⟨g,rfl,F,d⟩:=h.resolve_left h0;refine wk ?_;refine fI (S:=λ_ w'=>∃S,S.Perm O/\S.Pairwise (lt c)/\DB (cp*2) w' g S/\Fr (· =g) w w') fx fx (HO w g O.length cp f cap D c O d fx G (u g fx) y C) ?_;rintro _ H ⟨S,m,hs,d,E⟩;refine wk ?_;exact mr fx ⟨S,m,hs,⟨_,cp,by rw[m.length_eq],by rw[m.length_eq];exact n,t,.inr ⟨g,rfl,F,d⟩⟩,E.mono λk _ hk=>by subst hk;exact⟨h0,rfl⟩⟩
end
end Go.Proofs.YtecaahegomdbbaaGreatDoor.gr
namespace Go.Proofs.YtecaahegomdbbaaGreatDoor.gr.Rn
open Go.Proofs.Tryz
open Go.RowKit
noncomputable def on2 (al:ip AV) (k:AV->AV->Rs):Rs:=List.rec (motive:=λ_=>Rs) .no (λx r _=>List.rec (motive:=λ_=>Rs) .no (λy r _=>List.rec (motive:=λ_=>Rs) (k x y) (λ_ _ _=> .no) r) r) al
def Ly {res:Rs} {ρ:Pl} (d:res≠ .no) {al:ip AV} {vs:ip i6} {k:AV->AV->Rs} (m:Bz ρ al vs) (h:on2 al k=res):∃x y v u,vs=[v,u]/\AR ρ x v/\AR ρ y u/\k x y=res:=by
 cases m with
 |nil=>exact absurd h.symm d
 | cons h1 f=>
  cases f with
  |nil=>exact absurd h.symm d
  |cons h3 g=>
   cases g with
   |nil=>exact⟨_,_,_,_,rfl,h1,h3,h⟩
   |cons _ _=>exact absurd h.symm d
noncomputable def Yi (a:Nat) (l:ip Nat):Nat->SV:=List.rec (motive:=λ_=>Nat->SV) (λ_=> .m .i64 0) (λx _ d i=>Bool.rec (motive:=λ_=>SV) (cN (Nat.add i 1) d) (.n .i64 i) (Nat.beq x a)) l
noncomputable def aaC (al:ip AV) (d:Mem):Rs:=on2 al λx y=>Kv x λl=>uR y λk a=>tj k .u8 (.mk (.val (.v (Yi a l 0))) e0 d)
def rS {x a:Nat} (g:x<256) (f:a<256):(UInt8.ofNat x==UInt8.ofNat a)=decide (x=a):=by
 by_cases h:x=a
 .subst h;simp
 .rw[decide_eq_false h];simp only[beq_eq_false_iff_ne,ne_eq];intro d;have:=congrArg UInt8.toNat d;simp only[wG]at this;omega
theorem PC {ρ:Pl} {a:Nat} (f:a<256):∀(l:ip Nat) (i:Nat),(∀c∈l,c<256)->i+l.length<=9223372036854775807->SR ρ (Yi a l i) (.I (match(jI l).findIdx? (· ==UInt8.ofNat a)with
  |some j=>((i+j:Nat):Int)
  |none=> -1))
 |[],i,_,_=>⟨rfl,iF _,rfl⟩
 | x::l,i,g,hi=>by
  have u:=g x j0;rw[iP]at hi;have d:=PC (ρ:=ρ) f l (i+1) (λc hc=>g c (qC x hc)) fy;have m:jI (x::l)=UInt8.ofNat x::jI l:=rfl;rw[m,Rr,rS u f];have t:Yi a (x::l) i=Bool.rec (motive:=λ_=>SV) (cN (Nat.add i 1) (Yi a l)) (.n .i64 i) (Nat.beq x a):=rfl;rw[t,nU]
  by_cases h:x=a
  .rw[decide_eq_true h];exact⟨rfl,by show i<=9223372036854775807;omega⟩
  .rw[decide_eq_false h];show SR ρ (cN (Nat.add i 1) (Yi a l)) _
   rw[iT];show SR ρ (Yi a l (i+1)) _
   revert d;cases(jI l).findIdx? (· ==UInt8.ofNat a)with
   |none=>exact λd=>d
   |some j=>
    intro d;show SR ρ _ (.I ((i+(j+1):Nat):Int))
    rw[show i+(j+1)=i+1+j from by omega];exact d
def S4:td 157 aaC:=λw0 al I v e' J ρ vs w h B u=>by
 obtain⟨x,y,G,H,rfl,E,F,h1⟩:=Ly iQ B h;obtain⟨l,rfl,m⟩:=lG iQ h1;obtain⟨k,a,rfl,h3⟩:=iz iQ m;obtain⟨rfl,n⟩:=iD iQ h3;injection n with d _ t
 injection d with d
 subst d;subst t;obtain⟨rfl,D,hm⟩:=E;obtain⟨rfl,hk⟩:=F;have hk:a<256:=by have:a<=255:=hk;omega
 have g:(Int.ofNat a)=((UInt8.ofNat a).toNat:Int):=by
  rw[wG,uJ fy];rfl
 have f:=As w (jI l) (UInt8.ofNat a);rw[<-g]at f;refine fQ.mono f λval w' C=>?_
 obtain⟨rfl,rfl⟩:=C;refine⟨ρ,Up.refl ρ,?_,u⟩;have:=PC (ρ:=ρ) hk l 0 D (by unfold maxLen at hm;omega);unfold wH;revert this;cases(jI l).findIdx? (· ==UInt8.ofNat a)with
 |none=>exact λh=>h
 |some j=>
  intro h;have h:SR ρ (Yi a l 0) (.I ((0+j:Nat):Int)):=h;rw[iM]at h;exact h
end Go.Proofs.YtecaahegomdbbaaGreatDoor.gr.Rn
namespace Go.Proofs.YtecaahegomdbbaaGreatDoor.gr
open Go.Proofs.Tryz
open Go.RowKit
namespace Rn
noncomputable def is1 (s:ip Nat) (k:Nat->Rs):Rs:=List.rec (motive:=λ_=>Rs) .no (λx t _=>List.rec (motive:=λ_=>Rs) (k x) (λ_ _ _=> .no) t) s
def Uv {s:ip Nat} {res:Rs} {k:Nat->Rs} (d:res≠ .no) (h:is1 s k=res):∃x,s=[x]/\k x=res:=by
 cases s with
 |nil=>exact absurd h.symm d
 |cons x t=>
  cases t with
  |nil=>exact⟨x,rfl,h⟩
  |cons _ _=>exact absurd h.symm d
noncomputable def ka (a:Nat) (l:ip Nat):Nat:=List.rec (motive:=λ_=>Nat) 0 (λx _ d=>Bool.rec (motive:=λ_=>Nat) d (Nat.add d 1) (Nat.beq x a)) l
theorem Mm {a:Nat} (d:a<256):∀l:ip Nat,(∀c∈l,c<256)->ka a l=(jI l).count (UInt8.ofNat a)
 |[],_=>rfl
 |x::l,h=>by
  have g:=Mm d l λc hc=>h c (qC x hc)
  have m:jI (x::l)=UInt8.ofNat x::jI l:=rfl;have n:ka a (x::l)=Bool.rec (motive:=λ_=>Nat) (ka a l) (Nat.add (ka a l) 1) (Nat.beq x a):=rfl;rw[m,List.count_cons,n,nU,rS (h x j0) d]
  by_cases f:x=a
  .rw[decide_eq_true f,g];rfl
  .rw[decide_eq_false f,g];rfl
end Rn
def M1 (w:i5) (l:fL) (c:UInt8):fQ prog 320 #[.U l,.U [c]] w λr w'=>r= .I (l.count c:Int)/\w=w':=by
 refine gP func320 fx fE ?_
 repeat' (first|refine QS (z:=c) 0 fx fx fx fx fx ?_|refine ie fx fx ?_|refine iE fx fx ?_|refine fT ?_|fail)
 refine U9 (e:=Extern.BytealgCount.count) func358 fE fE fE fE fx (Lib.run_countString (su l) _ w) ?_;refine fA ?_;refine fB fx fx ⟨?_,rfl⟩;simp[Lib.countByte,su]
namespace Rn
noncomputable def abb (al:ip AV) (d:Mem):Rs:=on2 al λx y=>Kv x λl=>Kv y λs=>is1 s λa=> .mk (.val (.v (.n .i64 (ka a l)))) e0 d
def TB:td 320 abb:=λw0 al G v e' H ρ vs w h f t=>by
 obtain⟨x,y,E,F,rfl,C,D,h1⟩:=Ly iQ f h;obtain⟨l,rfl,g⟩:=lG iQ h1;obtain⟨s,rfl,h3⟩:=lG iQ g;obtain⟨a,rfl,m⟩:=Uv iQ h3;injection m with d _ n
 injection d with d
 subst d;subst n;obtain⟨rfl,B,hm⟩:=C;obtain⟨rfl,hs,_⟩:=D;have f:=hs a j0;refine fQ.mono (M1 w (jI l) (UInt8.ofNat a)) λval w' u=>?_
 obtain⟨rfl,rfl⟩:=u;have hc:(jI l).count (UInt8.ofNat a)<=(jI l).length:=xC;have hu:(jI l).length=l.length:=jv _;refine⟨ρ,Up.refl ρ,?_,t⟩;rw[Mm f l B];exact⟨rfl,by show(jI l).count (UInt8.ofNat a)<=9223372036854775807;unfold maxLen at hm;omega⟩
end Rn
end Go.Proofs.YtecaahegomdbbaaGreatDoor.gr
namespace Go.Proofs.YtecaahegomdbbaaGreatDoor.gr.Rn
open Go.Proofs.Tryz
open Go.RowKit
section
open Tryz
noncomputable section
def lP (d f y B C D E F G H g m n t u v w x:Fe):ip (Nat×Fe):=[(192,.qe (z7)),(401,.qe (Z4)),(191,.qe (Xq)),(402,.qe (z7)),(425,.qe (RB)),(371,.code f371 199),(188,.code f188 1011),(427,.code f427 783),(132,C),(396,.code f396 4083),(130,.code f130 199),(398,.qe (mxO true)),(198,.code f198 281474976710719),(290,.code f290 51),(129,B),(248,.code f248 3855),(400,.code f400 1219572003044643453052734656085852056780543),(152,.code f152 13),(340,u),(242,.code f242 29),(397,.qe (mxO false)),(449,.code f449 783),(90,.code f90 125),(190,.code f190 2045),(123,.code f123 63),(403,.code f403 19),(270,.code f270 16371),(197,.code f197 967),(77,D),(184,.code f184 3855),(430,.code f430 5),(221,.code f221 243),(63,.code f63 119),(91,.code f91 15),(241,.code f241 19),(272,.code f272 115),(44,.code f44 15),(394,.code f394 7),(106,.code f106 61),(151,.code f151 115),(155,.code f155 45),(196,.code f196 262131),(372,.code f372 71),(313,.code f313 5),(429,.code f429 39),(369,.code f369 31),(122,.code f122 967),(61,.code f61 63),(368,n),(58,.code f58 13),(245,.code f245 16371),(251,.code f251 463),(43,.code f43 1011),(68,.code f68 251),(247,.code f247 1),(189,.code f189 7),(222,.code f222 7),(157,.qe (aaC)),(291,.code f291 26388279070671),(128,.code f128 31),(224,.code f224 29),(131,.code f131 71),(62,.code f62 29),(153,.code f153 5),(32,.code f32 17179870711),(51,.code f51 8007),(57,.code f57 29),(302,.code f302 31),(450,.code f450 33553439),(86,.code f86 883),(170,.code f170 51),(199,.code f199 975),(42,.code f42 125),(127,.code f127 125),(104,.code f104 15),(244,.code f244 115),(29,.code f29 223),(407,.code f407 51),(134,.code f134 975),(373,.code f373 61),(404,.code f404 61),(40,.code f40 4095),(70,.code f70 375),(139,G),(193,.code f193 4047),(53,.code f53 499),(183,.code f183 1),(210,.code f210 13),(55,.code f55 4294967423),(37,.code f37 4095),(286,.code f286 3855),(9,f),(167,.code f167 13),(243,.code f243 51),(154,.code f154 7),(351,.code f351 63),(452,.code f452 1039),(36,.code f36 5),(379,.code f379 66113138641474380890815),(230,.code f230 7),(223,.code f223 31),(73,.code f73 13),(114,.code f114 115),(125,.code f125 23),(271,.code f271 493),(208,.code f208 4095),(83,.code f83 63),(136,.code f136 21778071482940061661655974875633165534207),(28,.code f28 8191),(7,d),(174,.code f174 5),(60,.code f60 243),(108,.code f108 19),(181,.code f181 189),(47,.code f47 71),(24,.code f24 119),(12,.code f12 127),(115,.code f115 5),(304,.code f304 31),(18,.code f18 3943),(232,.code f232 13),(107,.code f107 5),(72,y),(377,.code f377 15),(305,.code f305 7),(148,.code f148 31),(386,.code f386 31),(261,.code f261 243),(71,.code f71 8191),(249,.code f249 8135),(451,.code f451 3103),(67,.code f67 471),(342,.code f342 8135),(320,.qe (abb)),(349,.code f349 63),(375,.code f375 51),(297,.code f297 13),(200,m),(258,.code f258 4083),(76,.code f76 2045),(263,.code f263 15),(344,.code f344 255),(87,.code f87 7),(260,.code f260 31),(348,.code f348 7),(283,.code f283 5),(374,.code f374 243),(179,.code f179 61),(187,.code f187 127),(31,.code f31 4087),(405,.code f405 5),(30,.code f30 2043),(35,.code f35 31),(135,.code f135 31),(138,.code f138 509),(231,.code f231 31),(218,.code f218 51),(177,.code f177 23),(66,.code f66 7983),(95,.code f95 243),(80,H),(33,F),(144,.code f144 131055),(341,.code f341 499),(143,.code f143 33685501),(219,.code f219 783),(406,.code f406 29),(437,.code f437 12339),(65,.code f65 31),(253,.code f253 1021),(89,.code f89 29),(166,.code f166 7),(303,.code f303 2039),(346,.code f346 29),(442,.code f442 967),(212,.code f212 5),(213,.code f213 5),(217,.code f217 51),(202,.code f202 16327),(408,.code f408 14681183),(81,.code f81 29),(21,.code f21 1971),(255,.code f255 63),(178,.code f178 59),(180,.code f180 59),(206,.code f206 4083),(79,.code f79 895),(419,.code f419 12339),(203,.code f203 253),(211,.code f211 255),(23,.code f23 115),(185,.code f185 5),(236,.code f236 19),(294,.code f294 1991),(376,.code f376 100925565),(330,.code f330 783),(45,.code f45 83),(124,.code f124 79),(214,.code f214 5),(78,E),(209,.code f209 16371),(380,.code f380 5),(287,.code f287 2096159),(289,.code f289 2096159),(10,x),(94,.code f94 967),(11,.code f11 5),(17,.code f17 975),(149,.code f149 51),(186,.code f186 7),(133,.code f133 7),(267,.code f267 7),(146,.code f146 7),(195,.code f195 51),(387,.code f387 12339),(85,.code f85 31),(370,t),(142,.code f142 8143),(298,.code f298 61),(150,.code f150 967),(237,.code f237 19),(240,.code f240 19),(39,.code f39 31),(121,.code f121 31),(52,.code f52 11),(117,.code f117 463),(182,.code f182 11),(228,.code f228 5),(8,.code f8 243),(20,.code f20 103),(118,.code f118 103),(119,.code f119 103),(120,.code f120 103),(137,.code f137 5),(254,.code f254 125),(293,v),(322,.code f322 783),(141,.code f141 19),(252,w),(13,.code f13 13),(34,g),(46,.code f46 5),(420,.code f420 19),(204,.code f204 243),(205,.code f205 1991),(296,.code f296 15),(292,.code f292 125),(201,.code f201 125),(84,.code f84 3),(88,.code f88 943),(266,.code f266 63),(265,.code f265 253),(140,.code f140 7),(250,.code f250 31),(343,.code f343 7),(399,.code f399 5),(25,.code f25 13),(259,.code f259 12339),(300,.code f300 12339),(301,.code f301 12339),(428,.code f428 3),(75,.code f75 29),(307,.code f307 61),(145,.code f145 5),(262,.code f262 4),(74,.code f74 7),(207,.code f207 5)]
def hN {d f y B C D E F G H g m n t u v w x:Fe} (I:h9 7 d) (J:h9 9 f) (T:h9 72 y) (U:h9 129 B) (V:h9 132 C) (W:h9 77 D) (X:h9 78 E) (Y:h9 33 F) (Z:h9 139 G) (aa:h9 80 H) (K:h9 34 g) (L:h9 200 m) (M:h9 368 n) (N:h9 370 t) (O:h9 340 u) (Q:h9 293 v) (R:h9 252 w) (S:h9 10 x):xv (lP d f y B C D E F G H g m n t u v w x):=fz Ki<|fz TL<|fz O4<|fz Nk<|fz Nn<|fz func371<|fz func188<|fz func427<|fz V<|fz func396<|fz func130<|fz Ve<|fz func198<|fz func290<|fz U<|fz func248<|fz func400<|fz func152<|fz O<|fz func242<|fz U3<|fz func449<|fz func90<|fz func190<|fz func123<|fz func403<|fz func270<|fz func197<|fz W<|fz func184<|fz func430<|fz func221<|fz func63<|fz func91<|fz func241<|fz func272<|fz func44<|fz func394<|fz func106<|fz func151<|fz func155<|fz func196<|fz func372<|fz func313<|fz func429<|fz func369<|fz func122<|fz func61<|fz M<|fz func58<|fz func245<|fz func251<|fz func43<|fz func68<|fz func247<|fz func189<|fz func222<|fz S4<|fz func291<|fz func128<|fz func224<|fz func131<|fz func62<|fz func153<|fz func32<|fz func51<|fz func57<|fz func302<|fz func450<|fz func86<|fz func170<|fz func199<|fz func42<|fz func127<|fz func104<|fz func244<|fz func29<|fz func407<|fz func134<|fz func373<|fz func404<|fz func40<|fz func70<|fz Z<|fz func193<|fz func53<|fz func183<|fz func210<|fz func55<|fz func37<|fz func286<|fz J<|fz func167<|fz func243<|fz func154<|fz func351<|fz func452<|fz func36<|fz func379<|fz func230<|fz func223<|fz func73<|fz func114<|fz func125<|fz func271<|fz func208<|fz func83<|fz func136<|fz func28<|fz I<|fz func174<|fz func60<|fz func108<|fz func181<|fz func47<|fz func24<|fz func12<|fz func115<|fz func304<|fz func18<|fz func232<|fz func107<|fz T<|fz func377<|fz func305<|fz func148<|fz func386<|fz func261<|fz func71<|fz func249<|fz func451<|fz func67<|fz func342<|fz TB<|fz func349<|fz func375<|fz func297<|fz L<|fz func258<|fz func76<|fz func263<|fz func344<|fz func87<|fz func260<|fz func348<|fz func283<|fz func374<|fz func179<|fz func187<|fz func31<|fz func405<|fz func30<|fz func35<|fz func135<|fz func138<|fz func231<|fz func218<|fz func177<|fz func66<|fz func95<|fz aa<|fz Y<|fz func144<|fz func341<|fz func143<|fz func219<|fz func406<|fz func437<|fz func65<|fz func253<|fz func89<|fz func166<|fz func303<|fz func346<|fz func442<|fz func212<|fz func213<|fz func217<|fz func202<|fz func408<|fz func81<|fz func21<|fz func255<|fz func178<|fz func180<|fz func206<|fz func79<|fz func419<|fz func203<|fz func211<|fz func23<|fz func185<|fz func236<|fz func294<|fz func376<|fz func330<|fz func45<|fz func124<|fz func214<|fz X<|fz func209<|fz func380<|fz func287<|fz func289<|fz S<|fz func94<|fz func11<|fz func17<|fz func149<|fz func186<|fz func133<|fz func267<|fz func146<|fz func195<|fz func387<|fz func85<|fz N<|fz func142<|fz func298<|fz func150<|fz func237<|fz func240<|fz func39<|fz func121<|fz func52<|fz func117<|fz func182<|fz func228<|fz func8<|fz func20<|fz func118<|fz func119<|fz func120<|fz func137<|fz func254<|fz Q<|fz func322<|fz func141<|fz R<|fz func13<|fz K<|fz func46<|fz func420<|fz func204<|fz func205<|fz func296<|fz func292<|fz func201<|fz func84<|fz func88<|fz func266<|fz func265<|fz func140<|fz func250<|fz func343<|fz func399<|fz func25<|fz func259<|fz func300<|fz func301<|fz func428<|fz func75<|fz func307<|fz func145<|fz func262<|fz func74<|fz func207<|TS
abbrev c0:Fe:= .code f7 15357
def k0:h9 7 c0:=func7
abbrev c1:Fe:= .code f9 507
def k1:h9 9 c1:=func9
abbrev c2:Fe:= .code f72 1991
def k2:h9 72 c2:=func72
abbrev c3:Fe:= .code f129 8189
def k3:h9 129 c3:=func129
abbrev c4:Fe:= .code f132 29
def k4:h9 132 c4:=func132
abbrev c5:Fe:= .code f77 521469
def k5:h9 77 c5:=func77
abbrev c6:Fe:= .code f78 127
def k6:h9 78 c6:=func78
abbrev c7:Fe:= .code f33 14340063007
def k7:h9 33 c7:=func33
abbrev c8:Fe:= .code f139 16781271
def k8:h9 139 c8:=func139
abbrev c9:Fe:= .code f80 65523
def k9:h9 80 c9:=func80
abbrev tU:Fe:= .code f34 3855
def GS:h9 34 tU:=func34
abbrev yE:Fe:= .code f200 524063
def IJ:h9 200 yE:=func200
abbrev Cd:Fe:= .code f368 125
def Gj:h9 368 Cd:=func368
abbrev EK:Fe:= .code f370 125
def FH:h9 370 EK:=func370
abbrev Co:Fe:= .code f340 985162478245085
def EL:h9 340 Co:=func340
abbrev A0:Fe:= .code f293 29
def CV:h9 293 A0:=func293
abbrev BQ:Fe:= .code f252 1011
def CX:h9 252 BQ:=func252
abbrev qK:Fe:= .code f10 2015
def uz:h9 10 qK:=func10
def s0:ip SV:=[.s [117,115,101,114,46,107],.s [118,48]]
def s1:ip SV:=nv .i64 [1,7,0,3,0,7]
def s2:ip SV:=[.s [],.n .i64 0,.s [97],.n .i64 1,.s [97,47,98],.n .i64 2]
def s3:ip SV:=[.n .i64 1,.n .i64 493,.n .i64 0,.n .i64 0,.n .i64 0,.l0,.l0,.n .i64 0,.l0,.s [],.n .i64 0,.n .i64 0]
def ge:Nat->Nat->Nat->ip Nat
 |0,_,_=>[]
 |k+1,b,n=>n%b:: ge k b (n/b)
def s4:ip SV:=nv .i64 (ge 320 9 0x21f5c15bbe009696be015b2ed1a6fdc49479f19f6cc8c355f356b53c80edcd7dabe9515faf807b360329dc00e8866f57840cc4c56be7b4739cd4367fd19c73b9d243a78a73fcf551e5a9cf512967b2b5be47834b3d580ab2e0a3a9193cebff9ad4f80eabe6d5)
def s5:ip SV:=nv .i64 (ge 320 6 0xd755c0c391cddd9053e76d04bd5c5d51a7a31c9f1b76fcfd83ff63d76093d7ae367dd751bc3a6b356af0dfa85d91cf93c8c24d14ad70fcd5646b932cc32544084a13c2516c8899d7c3ba43fe3b9e000319ccc5)
def s6:ip SV:=nv .u8 (ge 52 256 0xcd0101290602622f6103070003000701023076026b2e7265737506010000000001016101000009000001f3fa010000030100)
def s7:ip SV:=nv .u8 (ge 98 256 0xd6e9cf6f3e57455fe1877b030103ecc16097bbe5c6cff5fb49428f6041ef6bf93b1533472dc7f03f8db83ecea1cdfc756232f7ad7bb8164fca5c5c28e47272f0ad426813c2d7828f89793400025e4252cbfeec1e8601746c6173746c617331455453)
def s8:ip SV:=nv .u8 (ge 51 256 0xcd0101290602622f6103070003000701023076026b2e7265737506010000000001016101000009000001f3fa0100000301)
def s9:ip SV:=[.n .i64 1,.n .i64 0,.n .i64 0,.n .i64 3,.n .i64 0,.n .i64 0,.n .i64 0,.n .i64 0,.n .i64 0,.n .i64 0,.n .i64 0,.n .i64 0,.n .i64 1,.n .i64 0,.n .i64 0,.n .i64 250,.n .i64 0,.n .i64 0,.n .i64 243,.n .i64 0,.n .i64 0,.n .i64 1,.n .i64 0,.n .i64 0,.n .i64 0,.n .i64 0,.n .i64 0,.n .i64 0,.n .i64 0,.n .i64 0,.n .i64 9,.n .i64 0,.n .i64 0,.m .i64 0,.n .i64 9,.n .i64 3,.n .i64 97,.n .i64 0,.n .i64 0,.n .i64 1,.n .i64 0,.n .i64 0,.m .i64 0,.n .i64 9,.n .i64 3,.m .i64 0,.n .i64 8,.n .i64 3,.n .i64 6,.n .i64 0,.n .i64 0,.n .i64 117,.n .i64 0,.n .i64 0,.n .i64 115,.n .i64 0,.n .i64 0,.n .i64 101,.n .i64 0,.n .i64 0,.n .i64 114,.n .i64 0,.n .i64 0,.n .i64 46,.n .i64 0,.n .i64 0,.n .i64 107,.n .i64 0,.n .i64 0,.n .i64 2,.n .i64 0,.n .i64 0,.n .i64 118,.n .i64 0,.n .i64 0,.n .i64 48,.n .i64 0,.n .i64 0,.n .i64 2,.n .i64 0,.n .i64 0,.n .i64 1,.n .i64 0,.n .i64 0,.n .i64 7,.n .i64 0,.n .i64 0,.n .i64 0,.n .i64 0,.n .i64 0,.n .i64 3,.n .i64 0,.n .i64 0,.n .i64 0,.n .i64 0,.n .i64 0,.n .i64 7,.n .i64 0,.n .i64 0,.n .i64 3,.n .i64 0,.n .i64 0,.n .i64 97,.n .i64 0,.n .i64 0,.n .i64 47,.n .i64 0,.n .i64 0,.n .i64 98,.n .i64 0,.n .i64 0,.n .i64 2,.n .i64 0,.n .i64 0,.n .i64 6,.n .i64 0,.n .i64 0,.n .i64 41,.n .i64 0,.n .i64 0,.n .i64 1,.n .i64 0,.n .i64 0,.n .i64 1,.n .i64 0,.n .i64 0,.n .i64 205,.n .i64 0,.n .i64 0,.n .i64 0,.n .i64 0,.n .i64 0,.n .i64 0,.n .i64 0,.n .i64 0]
def s10:ip SV:=nv .u8 (ge 189 256 0x404fa2233b6b3d145e8872c2325fbddd018680a522601088ff012a000000000000000000000000000000000000000000000000000000000000004000005000000005000000000000000000000000000000000000050000000000000000000000000000000000000000000000000000000000000000000000000000000000005005550000000500000550050000000000000000000000000000000000000000000000505500000500000000000000000000000000000005550044333301)
def YT:ip SV:=nv .u32 [3075941333,2106473833,375924579,3363127365,2663744524,349807867,2433079605,187634764]
def s12:ip SV:=nv .u8 [115,97,108,116,115,97,108,116]
def q0:Eb:=⟨11,68,2,s0⟩
def q1:Eb:=⟨12,70,3,s1⟩
def q2:Eb:=⟨93,37,6,[.n .i64 1,.n .i64 493,.n .i64 0,.n .i64 0,.n .i64 9,.l0,.l0,.n .i64 0,.l0,.s [],.n .i64 0,.n .i64 0,.n .i64 1,.n .i64 0,.n .i64 0,.n .i64 0,.n .i64 0,.lx 11 2 0 1 1,.lx 12 3 0 2 2,.n .i64 0,.l0,.s [],.n .i64 0,.n .i64 0,.n .i64 6,.n .i64 41,.n .i64 1,.n .i64 1,.n .i64 205,.l0,.l0,.n .i64 0,.l0,.s [],.n .i64 0,.n .i64 0]⟩
def q3:Eb:=⟨95,49,3,s2⟩
def q4:Eb:=⟨1120,3,9,s4⟩
def q5:Eb:=⟨4710,5,11,nv .u8 (ge 1496 2 0x2f245c4dcd6bc287a114e434cfabdbb806101a544060811ff8054000000000000000000000000000000000000000000000000000000000000000200000a000000a0000000000000000000000000000000000000a00000000000000000000000000000000000000000000000000000000000000000000000000000000000000aa0aa000000a00000a00aa000000000000000000000000000000000000000000000000aaa0000a0000000000000000000000000000000a0aa0022cc)⟩
def q6:Eb:=⟨4715,5,6,s6⟩
def q7:Eb:=⟨5233,5,7,s7⟩
def q8:Eb:=⟨5219,49,2,[.s [],.n .i64 0]⟩
def q9:Eb:=⟨5222,37,4,s3⟩
def Yg:Eb:=⟨5232,88,3,[.n .i64 100000,.l0,.n .i64 0,.b false,.l 5219 2 0 1,.l 5222 12 0 1]⟩
def PG:Eb:=⟨5324,5,7,s7⟩
def q12:Eb:=⟨5461,5,7,nv .u8 (ge 84 256 0xdaeeab6d9dd3352c6fa94b2d0000cd0101290602622f6103070003000701023076026b2e7265737506010000000001016101000009000001f3fa010000030100)⟩
def YI:Eb:=⟨5645,5,6,s8⟩
def q14:Eb:=⟨5736,3,9,s4⟩
def Zp:Eb:=⟨7155,5,6,s8⟩
def q16:Eb:=⟨7246,3,9,s4⟩
def q17:Eb:=⟨7993,49,3,s2⟩
def q18:Eb:=⟨8002,68,2,s0⟩
def q19:Eb:=⟨8004,70,3,s1⟩
def q20:Eb:=⟨8010,37,6,[.n .i64 1,.n .i64 493,.n .i64 0,.n .i64 0,.n .i64 9,.l0,.l0,.n .i64 0,.l0,.s [],.n .i64 0,.n .i64 0,.n .i64 1,.n .i64 0,.n .i64 0,.n .i64 0,.n .i64 0,.l 8002 2 0 1,.l 8004 3 0 2,.n .i64 0,.l0,.s [],.n .i64 0,.n .i64 0,.n .i64 6,.n .i64 41,.n .i64 1,.n .i64 1,.n .i64 205,.l0,.l0,.n .i64 0,.l0,.s [],.n .i64 0,.n .i64 0]⟩
def q21:Eb:=⟨5232,88,3,[.n .i64 100000,.l0,.n .i64 19,.b false,.l 8186 2 0 3,.l 8184 12 0 3]⟩
def q22:Eb:=⟨8184,37,6,[.n .i64 1,.n .i64 493,.n .i64 0,.n .i64 0,.n .i64 9,.l0,.l0,.n .i64 0,.l0,.s [],.n .i64 0,.n .i64 0,.n .i64 1,.n .i64 0,.n .i64 0,.n .i64 0,.n .i64 0,.l 8265 2 0 1,.l 8279 3 0 2,.n .i64 0,.l0,.s [],.n .i64 0,.n .i64 0,.n .i64 6,.n .i64 41,.n .i64 1,.n .i64 1,.n .i64 205,.l0,.l0,.n .i64 0,.l0,.s [],.n .i64 0,.n .i64 0]⟩
def q23:Eb:=⟨8186,49,3,s2⟩
def q24:Eb:=⟨8265,68,2,s0⟩
def q25:Eb:=⟨8279,70,3,s1⟩
def me0:Me:=⟨1,[.v (.lx 0 1 0 4 4)],[⟨0,3,3,nv .i64 [0,100,205,11]⟩],.g ([.l 95 2 0 3,.l 93 12 0 3]),148,[⟨0,3,3,nv .i64 [0,100,205,11]⟩,q0,q1,q2,q3]⟩
abbrev t0:=lP c0 c1 c2 c3 c4 c5 c6 c7 c8 c9 tU yE Cd EK Co A0 BQ qK
abbrev r0:Fe:= .qe (jd [me0])
def me1:Me:=⟨177,[.v (.p 176 0),.g ([.l 95 2 0 3,.l 93 12 0 3])],[q0,q1,q2,q3,⟨163,49,2,[.s [],.n .i64 0]⟩,⟨166,37,4,s3⟩,⟨176,88,3,[.n .i64 100000,.l0,.n .i64 0,.b false,.l 163 2 0 1,.l 166 12 0 1]⟩],.v (.n .i64 0),537,[q0,q1,q2,q3,⟨176,88,3,[.n .i64 100000,.l0,.n .i64 19,.b false,.l 352 2 0 3,.l 350 12 0 3]⟩,⟨350,37,6,[.n .i64 1,.n .i64 493,.n .i64 0,.n .i64 0,.n .i64 9,.l0,.l0,.n .i64 0,.l0,.s [],.n .i64 0,.n .i64 0,.n .i64 1,.n .i64 0,.n .i64 0,.n .i64 0,.n .i64 0,.l 431 2 0 1,.l 445 3 0 2,.n .i64 0,.l0,.s [],.n .i64 0,.n .i64 0,.n .i64 6,.n .i64 41,.n .i64 1,.n .i64 1,.n .i64 205,.l0,.l0,.n .i64 0,.l0,.s [],.n .i64 0,.n .i64 0]⟩,⟨352,49,3,s2⟩,⟨431,68,2,s0⟩,⟨445,70,3,s1⟩]⟩
abbrev t1:=lP r0 c1 c2 c3 c4 c5 c6 c7 c8 c9 tU yE Cd EK Co A0 BQ qK
abbrev r1:Fe:= .qe (jd [me1])
def me2:Me:=⟨623,[.v (.s [112]),.v (.s [115,97,108,116,115,97,108,116]),.v (.n .i64 1)],[],.t [.g YT,.v (.n .i64 0)],707,[]⟩
abbrev t2:=lP r0 r1 c2 c3 c4 c5 c6 c7 c8 c9 tU yE Cd EK Co A0 BQ qK
abbrev r2:Fe:= .qe (jd [me2])
def me3:Me:=⟨1211,[.v (.lx 1120 1 0 320 320)],[q4],.t [.v (.lx 1213 1 0 320 320),.v (.n .i64 0)],1583,[q4,⟨1213,3,9,s5⟩]⟩
abbrev t3:=lP r0 r1 r2 c3 c4 c5 c6 c7 c8 c9 tU yE Cd EK Co A0 BQ qK
abbrev r3:Fe:= .qe (jd [me3])
def me4:Me:=⟨4712,[.v (.p 1583 0)],[⟨1583,187,1,[.l 4710 1 0 1496]⟩,q5],.v (.s [51,68,0,85,5,0,0,0,0,0,0,0,0,0,0,0,0,0,0,0,5,0,0,85,80,0,0,0,0,0,0,0,0,0,0,0,0,0,0,0,0,0,0,0,0,0,0,0,5,80,5,0,0,5,0,0,0,85,5,80,0,0,0,0,0,0,0,0,0,0,0,0,0,0,0,0,0,0,0,0,0,0,0,0,0,0,0,0,0,0,0,0,0,0,0,0,0,0,0,0,0,0,5,0,0,0,0,0,0,0,0,0,0,0,0,0,0,0,0,0,0,5,0,0,0,80,0,0,64,0,0,0,0,0,0,0,0,0,0,0,0,0,0,0,0,0,0,0,0,0,0,0,0,0,0,0,0,0,0,0,42,1,255,136,16,96,34,165,128,134,1,221,189,95,50,194,114,136,94,20,61,107,59,35,162,79,64]),4713,[⟨1583,187,1,[.l 4710 1 0 1496]⟩,q5]⟩
abbrev t4:=lP r0 r1 r2 r3 c4 c5 c6 c7 c8 c9 tU yE Cd EK Co A0 BQ qK
abbrev r4:Fe:= .qe (jd [me4])
def me5:Me:=⟨1030,[.v (.s [1,3,0,0,1,250,243,1,0,0,9,0,0,1,97,1,1,0,0,0,0,1,6,117,115,101,114,46,107,2,118,48,2,1,7,0,3,0,7,3,97,47,98,2,6,41,1,1,205,0,0])],[],.t [.v (.s [0,1,3,0,0,1,250,243,1,0,0,9,0,0,1,97,1,1,0,0,0,0,1,6,117,115,101,114,46,107,2,118,48,2,1,7,0,3,0,7,3,97,47,98,2,6,41,1,1,205,0,0]),.v (.n .i64 0)],4715,[]⟩
abbrev t5:=lP r0 r1 r2 r3 r4 c5 c6 c7 c8 c9 tU yE Cd EK Co A0 BQ qK
abbrev r5:Fe:= .qe (jd [me5])
def me6:Me:=⟨4716,[.g YT,.g ([.n .i64 2,.n .i64 0,.b false,.l 4715 1 0 52])],[q6],.t [.v (.s [2,0,52,121,137,143,130,215,194,19,104,66,173,240,114,114,228,40,92,92,202,79,22,184,123,173,247,50,98,117,252,205,161,206,62,184,141,63,240,199,45,71,51,21,59,249,107,239,65,96,143,66,73,251,245,207,198,229,187,151,96,193,236]),.v (.n .i64 0)],5008,[q6]⟩
abbrev t6:=lP r0 r1 r2 r3 r4 r5 c6 c7 c8 c9 tU yE Cd EK Co A0 BQ qK
abbrev r6:Fe:= .qe (jd [me6])
def me7:Me:=⟨5012,[.g YT,.g ([.n .i64 3,.n .i64 1,.b true,.l 5011 1 0 3])],[⟨5011,5,2,nv .u8 [0,1,0]⟩],.t [.v (.s [3,1,3,123,135,225,95,69,87,62,111,207,233,214]),.v (.n .i64 0)],5205,[⟨5011,5,2,nv .u8 [0,1,0]⟩]⟩
abbrev t7:=lP r0 r1 r2 r3 r4 r5 c6 c7 c8 c9 tU yE Cd EK Co A0 BQ qK
abbrev r7:Fe:= .qe (jd [me7,me6])
def me8:Me:=⟨537,[.g ([.l 95 2 0 3,.l 93 12 0 3]),.v (.s [112]),.v (.s [115,97,108,116,115,97,108,116]),.v (.n .i64 1)],[q0,q1,q2,q3],.t [.v (.s [83,84,69,49,115,97,108,116,115,97,108,116,1,134,30,236,254,203,82,66,94,2,0,52,121,137,143,130,215,194,19,104,66,173,240,114,114,228,40,92,92,202,79,22,184,123,173,247,50,98,117,252,205,161,206,62,184,141,63,240,199,45,71,51,21,59,249,107,239,65,96,143,66,73,251,245,207,198,229,187,151,96,193,236,3,1,3,123,135,225,95,69,87,62,111,207,233,214]),.v (.n .i64 0)],5205,[q0,q1,q2,q3]⟩
abbrev t8:=lP r0 r1 r2 r3 r4 r5 r7 c7 c8 c9 tU yE Cd EK Co A0 BQ qK
abbrev r8:Fe:= .qe (jd [me8])
def me9:Me:=⟨5237,[.v (.s [113]),.g s12,.v (.n .i64 1)],[],.t [.g (nv .u32 [3826008399,318509268,3050401894,2033992177,862551572,921288468,3499685794,2951425299]),.v (.n .i64 0)],5282,[]⟩
abbrev t9:=lP r0 r1 r2 r3 r4 r5 r7 r8 c8 c9 tU yE Cd EK Co A0 BQ qK
abbrev r9:Fe:= .qe (jd [me9])
def XB:Me:=⟨5234,[.v (.l 5233 1 0 98),.v (.s [113])],[q7],.t [.v (.p0),.v (.n .i64 4)],5324,[q7]⟩
abbrev t10:=lP r0 r1 r2 r3 r4 r5 r7 r8 r9 c9 tU yE Cd EK Co A0 BQ qK
abbrev Ju:Fe:= .qe (jd [XB])
def YU:Me:=⟨5234,[.v (.p 5232 0),.v (.l 5233 1 0 98),.v (.s [113]),.v (.l0)],[q8,q9,Yg,q7],.v (.n .i64 4),5324,[q8,q9,Yg,q7]⟩
abbrev t11:=lP r0 r1 r2 r3 r4 r5 r7 r8 r9 Ju tU yE Cd EK Co A0 BQ qK
abbrev I0:Fe:= .qe (jd [YU])
def XQ:Me:=⟨5328,[.v (.s [112]),.g s12,.v (.n .i64 1)],[],.t [.g YT,.v (.n .i64 0)],5373,[]⟩
abbrev t12:=lP r0 r1 r2 r3 r4 r5 r7 r8 c8 Ju I0 yE Cd EK Co A0 BQ qK
abbrev Xn:Fe:= .qe (jd [XQ,me9])
def XC:Me:=⟨5416,[.g YT,.v (.l 5324 1 0 98),.v (.n .i64 21),.v (.n .i64 0)],[PG],.t [.g ([.n .i64 2,.n .i64 0,.b false,.lx 5461 1 0 52 52]),.v (.n .i64 84),.v (.n .i64 0)],5548,[PG,q12]⟩
abbrev t13:=lP r0 r1 r2 r3 r4 r5 r7 r8 Xn Ju I0 yE Cd EK Co A0 BQ qK
abbrev r13:Fe:= .qe (jd [XC])
def aag:Me:=⟨5551,[.g YT,.v (.l 5324 1 0 98),.v (.n .i64 84),.v (.n .i64 1)],[PG],.t [.g ([.n .i64 3,.n .i64 1,.b true,.lx 5596 1 0 3 3]),.v (.n .i64 98),.v (.n .i64 0)],5640,[PG,⟨5596,5,6,nv .u8 [0,1,0,233,40,167,151,121,35,227,230,109,198,152,117,215,185,246,10,94,79,66,213,164,195,65,3,80,22,47,235,23,0,0,0]⟩]⟩
abbrev t14:=lP r0 r1 r2 r3 r4 r5 r7 r8 Xn Ju I0 yE Cd EK Co A0 BQ qK
abbrev I1:Fe:= .qe (jd [aag,XC])
def Yk:Me:=⟨5646,[.v (.l 5645 1 0 51)],[YI],.v (.l 5735 3 0 45),5736,[YI,⟨5735,412,8,s9⟩]⟩
abbrev t15:=lP r0 r1 r2 r3 r4 r5 r7 r8 Xn Ju I0 I1 Cd EK Co A0 BQ qK
abbrev Zw:Fe:= .qe (jd [Yk])
def Xu:Me:=⟨5872,[.v (.lx 5736 1 0 320 320)],[q14],.t [.v (.lx 5875 1 0 320 320),.v (.n .i64 0)],6015,[q14,⟨5875,3,9,s5⟩]⟩
abbrev t16:=lP r0 r1 r2 r3 r4 r5 r7 r8 Xn Ju I0 I1 Zw EK Co A0 BQ qK
abbrev Y5:Fe:= .qe (jd [Xu])
def XI:Me:=⟨5646,[.v (.l 5645 1 0 51)],[YI],.v (.l 6179 1 0 189),6180,[YI,⟨6179,5,8,s10⟩]⟩
abbrev t17:=lP r0 r1 r2 r3 r4 r5 r7 r8 Xn Ju I0 I1 Zw Y5 Co A0 BQ qK
abbrev Y2:Fe:= .qe (jd [XI])
def Yb:Me:=⟨5646,[.v (.l 5645 1 0 51)],[YI],.t [.v (.l 6181 1 0 52),.v (.n .i64 0)],6182,[YI,⟨6181,5,6,s6⟩]⟩
abbrev t18:=lP r0 r1 r2 r3 r4 r5 r7 r8 Xn Ju I0 I1 Zw Y5 Y2 A0 BQ qK
abbrev Zf:Fe:= .qe (jd [Yb])
def aaR:Me:=⟨5645,[.v (.lx 5461 1 0 52 52),.v (.n .i64 12000)],[q12],.t [.v (.l 5645 1 0 51),.v (.n .i64 0)],6182,[q12,YI]⟩
abbrev t19:=lP r0 r1 r2 r3 r4 r5 r7 r8 Xn Ju I0 I1 Zw Y5 Y2 Zf BQ qK
abbrev Qi:Fe:= .qe (jd [aaR])
def aaq:Me:=⟨6817,[.v (.s [112]),.g s12,.v (.n .i64 1)],[],.t [.g YT,.v (.n .i64 0)],6862,[]⟩
abbrev t20:=lP r0 r1 r2 r3 r4 r5 r7 r8 c8 Ju I0 I1 Zw Y5 Y2 Zf Qi qK
abbrev SX:Fe:= .qe (jd [aaq,XQ,me9])
def abn:Me:=⟨7156,[.v (.l 7155 1 0 51)],[Zp],.v (.l 7245 3 0 45),7246,[Zp,⟨7245,412,8,s9⟩]⟩
abbrev t21:=lP r0 r1 r2 r3 r4 r5 r7 r8 SX Ju I0 I1 Cd Y5 Y2 Zf Qi qK
abbrev VA:Fe:= .qe (jd [abn,Yk])
def abO:Me:=⟨7382,[.v (.lx 7246 1 0 320 320)],[q16],.t [.v (.lx 7385 1 0 320 320),.v (.n .i64 0)],7525,[q16,⟨7385,3,9,s5⟩]⟩
abbrev t22:=lP r0 r1 r2 r3 r4 r5 r7 r8 SX Ju I0 I1 VA EK Y2 Zf Qi qK
abbrev V8:Fe:= .qe (jd [abO,Xu])
def Z2:Me:=⟨7156,[.v (.l 7155 1 0 51)],[Zp],.v (.l 7689 1 0 189),7690,[Zp,⟨7689,5,8,s10⟩]⟩
abbrev t23:=lP r0 r1 r2 r3 r4 r5 r7 r8 SX Ju I0 I1 VA V8 Co Zf Qi qK
abbrev YQ:Fe:= .qe (jd [Z2,XI])
def aa6:Me:=⟨7156,[.v (.l 7155 1 0 51)],[Zp],.t [.v (.l 7691 1 0 52),.v (.n .i64 0)],7692,[Zp,⟨7691,5,6,s6⟩]⟩
abbrev t24:=lP r0 r1 r2 r3 r4 r5 r7 r8 SX Ju I0 I1 VA V8 YQ A0 Qi qK
abbrev Zm:Fe:= .qe (jd [aa6,Yb])
def Z3:Me:=⟨5325,[.v (.l 5324 1 0 98),.v (.s [112])],[PG],.t [.v (.p 7990 0),.v (.n .i64 0)],7991,[PG,⟨6649,68,2,s0⟩,⟨6651,70,3,s1⟩,⟨6675,37,6,[.n .i64 1,.n .i64 493,.n .i64 0,.n .i64 0,.n .i64 9,.l0,.l0,.n .i64 0,.l0,.s [],.n .i64 0,.n .i64 0,.n .i64 1,.n .i64 0,.n .i64 0,.n .i64 0,.n .i64 0,.l 6649 2 0 1,.l 6651 3 0 2,.n .i64 0,.l0,.s [],.n .i64 0,.n .i64 0,.n .i64 6,.n .i64 41,.n .i64 1,.n .i64 1,.n .i64 205,.l0,.l0,.n .i64 0,.l0,.s [],.n .i64 0,.n .i64 0]⟩,⟨6677,49,3,s2⟩,⟨7990,213,2,[.l 6677 2 0 3,.l 6675 12 0 3]⟩]⟩
abbrev t25:=lP r0 r1 r2 r3 r4 r5 r7 r8 SX c9 I0 I1 VA V8 YQ Zm Qi qK
abbrev Z5:Fe:= .qe (jd [Z3,XB])
def Yn:Me:=⟨8011,[.v (.p 5232 0),.g ([.l 7993 2 0 3,.l 8010 12 0 3])],[q8,q9,Yg,q17,q18,q19,q20],.v (.n .i64 0),8371,[q21,q17,q18,q19,q20,q22,q23,q24,q25]⟩
abbrev t26:=lP r0 c1 r2 r3 r4 r5 r7 r8 SX Z5 I0 I1 VA V8 YQ Zm Qi qK
abbrev r26:Fe:= .qe (jd [Yn,me1])
def aah:Me:=⟨5325,[.v (.p 5232 0),.v (.l 5324 1 0 98),.v (.s [112]),.v (.l0)],[q8,q9,Yg,PG],.v (.n .i64 0),8371,[q21,PG,q22,q23,q24,q25]⟩
abbrev t27:=lP r0 r26 r2 r3 r4 r5 r7 r8 SX Z5 tU I1 VA V8 YQ Zm Qi qK
abbrev r27:Fe:= .qe (jd [aah,YU])
def abq:Me:=⟨8504,[.v (.p0),.g ([.l 95 2 0 3,.l 93 12 0 3])],[q0,q1,q2,q3],.v (.n .i64 1),8505,[q0,q1,q2,q3]⟩
abbrev t28:=lP r0 c1 r2 r3 r4 r5 r7 r8 SX Z5 r27 I1 VA V8 YQ Zm Qi qK
abbrev r28:Fe:= .qe (jd [abq,Yn,me1])
