/- Parts of the proof. -/
import Derived.Test.YtecaahegomdbbaaGreatDoorRmWo
set_option linter.all false
set_option maxRecDepth 99999
set_option maxHeartbeats 0
namespace Go.Proofs.YtecaahegomdbbaaGreatDoor.gr
open Go.Proofs.Tryz
open Go.RowKit
def FE (p:En->Bool):ip En->Nat->Int
 |[],_=> -1
 |x::r,k=>if p x then(k:Int)else FE p r (k+1)
def zE (w:i5) (v:i6) (l:ip En) (f:FuncId) (cap:Array i6) (p:En->Bool) (F:Rw hR w v l) (D:bit qR f=true) (E:∀w',Ext w w'->∀x∈l,fQ prog f (#[.agg (hR x).toArray]++cap) w' λr H=>r= .bool (p x)/\Ext w' H):fQ prog 172 #[v,.func (.func f) #[] cap] w λr w'=>r= .I (FE p l 0)/\Ext w w':=by
 refine gP func172 fx fE ?_;obtain⟨A,c,rfl,J,K,y⟩:=F.op gi;refine fA ?_;refine gC (α:=Nat) (λi=>[(0,.slice A l.length c),(1,.func (.func f) #[] cap),(7,.I (l.length:Int)),(8,.I (i:Int))]) (λi w'=>Ext w w'/\i<=l.length/\FE p (l.drop i) i=FE p l 0) (λi=>l.length-i) 0 (sub ⟨rfl,rfl,rfl,rfl⟩) ⟨Fr.refl _ _,iF _,rfl⟩ ?_;rintro i I ⟨g,hi,d⟩
 by_cases fY:i<l.length
 .obtain⟨b,o,x,rfl,_,G,C,B⟩:=y.at_ fY;rw[C,FE]at d;refine zD ?_;refine hV (cs:=hR x) fx fE (λj u hu=>g.cell (B j u hu)) ?_;refine xa (vs:=[.agg (hR x).toArray]) fx fx D (E I g x (jT G)) (λr L n=>?_);obtain⟨rfl,m⟩:=n;cases h:p x with
  |true=>
   rw[h,if_pos rfl]at d;refine fA ?_;exact fB fx fx ⟨by rw[<-d],g.t m⟩
  |false=>
   rw[h,if_neg fU]at d;refine fA ?_;exact gl ⟨i+1,sub ⟨rfl,rfl,rfl,rfl⟩,⟨g.t m,fy,d⟩,(by show l.length-(i+1)<l.length-i;omega)⟩
 .obtain rfl:i=l.length:=fy;rw[jP,FE]at d;refine fA ?_;exact fB fx fx ⟨by rw[<-d],g⟩
section
section
variable {hs:ip Nat} {H:i5->Prop} {full:Array li} {K:Env->i5->Prop} {ii:ip li} {Y:Env} {w:i5} {d:Tmp} {R:i9} {pos:String} {af:Array Edge}
def abg {t:i9} {x hi:i7} {f:kw} {b o n c z:Nat} {u:Int} (h:Nat) (B:es t=some z) (m:gh Y x=some (.S b o n c)) (g:gh Y hi=some (.int f u)) (v:u=h) (C:h<=n) (D:n<=c)
  (hc:xs prog fD fC hs H full K ii ((d,.S b o h c)::Y) w):
  xs prog fD fC hs H full K (⟨some d,.slice t x none (some hi) none,R,pos,af,none⟩::ii) Y w:=by
 obtain⟨e,i,hu,y,E⟩:=mY B;subst v;refine gW fx (by simp[gd,Op.operands,m,g]) ⟨_,λw'=>?_,hc⟩;have:=zz (A:=some ⟨b,o,none⟩) (n:=n) (c:=c) (lo:=none) (hi:=some (.int f h)) (l:=0) (h:=h) hu y (.inl ⟨rfl,rfl⟩) (.inr ⟨f,rfl⟩) fy fy w';simp[execOp,fR m,fR g,this,nE]
end
def Ow.pre {α:Type} {d:α->ip i6} {z B:Nat} {w:i5} {e:i9} {b o n c k:Nat} {l:ip α} (u:∀x,(d x).length=z) (h:Ow d z w B e (.S b o n c) l) (hk:k<=l.length):Ow d z w B e (.S b o k c) (l.take k):=by
 obtain⟨h1,t⟩:=h;rcases t with⟨t,_⟩|⟨g,cap,cur,h3,D,E,K,F,G,H⟩
 .cases t
 injection h3 with m J v
 injection m with m
 injection m with e4 y
 subst e4;subst y;subst v;have f:(l.take k).length=k:=by rw[kv];omega
 refine⟨gn u _,.inr ⟨_,_,cur,by rw[f],D,E,by rw[f];omega,F,G,?_⟩⟩;rw[f]
 have C:(l.take k).flatMap d=(l.flatMap d).take (k*z):=by
  have I:l.flatMap d=(l.take k).flatMap d++(l.drop k).flatMap d:=by rw[<-ue,mJ]
  conv=>rhs;rw[I]
  rw[M9 (by rw[gn u,f];exact gJ _)];exact(p8 (by rw[gn u,f];exact gJ _)).symm
 rw[C,<-H,IP]
 congr 1
 have:k*z<=l.length*z:=qz z hk;omega
attribute [local irreducible] xs T
