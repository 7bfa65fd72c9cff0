/- Parts of the proof. -/
import Derived.Test.YtecaahegomdbbaaGreatDoorRfWo
set_option linter.all false
set_option maxRecDepth 100000
set_option maxHeartbeats 64000000
namespace Go.Proofs.YtecaahegomdbbaaGreatDoor.gp
open Go.Proofs.Tryz
open Go.RowKit
section
def EL (p:En->Bool):List En->Nat->Int
 |[],_=> -1
 |x::r,k=>if p x then(k:Int)else EL p r (k+1)
theorem zG (w:World) (v:Value) (l:List En) (f:FuncId) (cap:Array Value) (p:En->Bool) (D:Rw hI w v l) (B:bit qs f=true) (C:∀w',Ext w w'->∀x∈l,fL prog f (#[.agg (hI x).toArray]++cap) w' λr F=>r= .bool (p x)/\Ext w' F):fL prog 172 #[v,.func (.func f) #[] cap] w λr w'=>r= .int .i64 (EL p l 0)/\Ext w w':=by
 refine gK func172 fx fF ?_;obtain⟨A,c,rfl,H,I,n⟩:=D.op gj;refine fA ?_;refine gA (α:=Nat) (λi=>[(0,.slice A l.length c),(1,.func (.func f) #[] cap),(7,.int .i64 (l.length:Int)),(8,.int .i64 (i:Int))]) (λi w'=>Ext w w'/\i<=l.length/\EL p (l.drop i) i=EL p l 0) (λi=>l.length-i) 0 (sub ⟨rfl,rfl,rfl,rfl⟩) ⟨Fr.refl _ _,iy _,rfl⟩ ?_;rintro i G ⟨d,hi,a⟩
 by_cases fW:i<l.length
 ·obtain⟨b,o,x,rfl,_,E,y,s⟩:=n.at_ fW;rw[y,EL]at a;refine zF ?_;refine hL (cs:=hI x) fx fF (λj u hu=>d.cell (s j u hu)) ?_;refine vQ (vs:=[.agg (hI x).toArray]) fx fx B (C G d x (jS E)) (λr J m=>?_);obtain⟨rfl,g⟩:=m;cases h:p x with
  |true=>
   rw[h,if_pos rfl]at a;refine fA ?_;exact fB fx fx ⟨by rw[←a],d.t g⟩
  |false=>
   rw[h,if_neg fV]at a;refine fA ?_;exact gn ⟨i+1,sub ⟨rfl,rfl,rfl,rfl⟩,⟨d.t g,fy,a⟩,(by show l.length-(i+1)<l.length-i;omega)⟩
 ·obtain rfl:i=l.length:=fy;rw[jJ,EL]at a;refine fA ?_;exact fB fx fx ⟨by rw[←a],d⟩
end
section
end
section
attribute [local irreducible] xs T
theorem Hf (w:World) (ve vn:Value) (fK:List gG) (t:fY) (d:nj w ve vn fK t) (v:tu t.ns) (M:t.ns.length<=1000000):fL prog 14 #[.agg #[ve,vn]] w λr w'=>r= .int .i64 (gd t.ns:Int)/\Ext w w':=by
 refine gr func14 fx fF ?_;obtain⟨A,c,rfl,J,K,B⟩:=d.n.op gI;have hlen:=d.len;refine fA ?_;refine hD fx (λm D f N=>?_);have C:fU m w.heap.size 26 #[ve,.slice A fK.length c]:=D;have k1:m.cell? ⟨w.heap.size,1,none⟩=some (.slice A fK.length c):=C.cell 1;refine fA ?_;refine gA (α:=Nat) (λi=>[(1,.pointer (some ⟨w.heap.size,0,none⟩)),(3,.int .i64 (gd (t.ns.take i):Int)),(4,.int .i64 (i:Int))]) (λi w'=>Ext m w'/\i<=fK.length) (λi=>fK.length-i) 0 (sub ⟨rfl,rfl,rfl⟩) ⟨Fr.refl _ _,iy _⟩ ?_
 ·rintro i s ⟨a,hi⟩;have m1:s.cell? ⟨w.heap.size,1,none⟩=some (.slice A fK.length c):=a.cell k1
  by_cases fW:i<fK.length
  ·obtain⟨b,o,x,rfl,_,g,L,G⟩:=B.at_ fW;have I:∀j u,(gz x)[j]? =some u->s.cell? ⟨b,o+i*12+j,none⟩=some u:=λj u hu=>a.cell (f.cell (G j u hu))
   have H:=d.i x (jS g);have F:=v x.n (jS (d.get g));have O:=mW (d.get g)
   have hle:gd (t.ns.take (i+1))<=1000000*(i+1):=by
    have:=wv (l:=t.ns.take (i+1)) λn hm=>v n (BU hm)
    rw[kt]at this;omega
   refine Xr ?_;refine hL (cs:=gz x) fx fx I ?_;refine fG fx fx (rL s x (H.ext (f.t a)) F) (λr Q y=>?_);obtain⟨rfl,E⟩:=y;refine fA ?_;exact gn ⟨i+1,sub ⟨rfl,jX fy,rfl⟩,⟨a.t E,fy⟩,(by show fK.length-(i+1)<fK.length-i;omega)⟩
  ·obtain rfl:i=fK.length:=fy;refine fA ?_;exact fB fx fx ⟨by rw[hlen,km],f.t a⟩
end
section
section
variable {hs:List Nat} {H:World->Prop} {full:Array Oper} {K:Env->World->Prop} {rest:List Oper} {env:Env} {w:World} {d:Tmp} {ty:TypeId} {pos:String} {af:Array Edge}
theorem ZD {t:TypeId} {x hi:Operand} {a:IntKind} {b o n c z:Nat} {m:Int} (h:Nat) (v:es t=some z) (g:gh env x=some (.slice (some ⟨b,o,none⟩) n c)) (f:gh env hi=some (.int a m)) (s:m=h) (y:h<=n) (B:n<=c)
  (hc:xs prog fD fC hs H full K rest ((d,.slice (some ⟨b,o,none⟩) h c)::env) w):
  xs prog fD fC hs H full K (⟨some d,.slice t x none (some hi) none,ty,pos,af,none⟩::rest) env w:=by
 obtain⟨e,i,hu,u,C⟩:=mL v;subst s;refine gR fx (by simp[fX,Op.operands,g,f]) ⟨_,λw'=>?_,hc⟩;have:=Am (A:=some ⟨b,o,none⟩) (n:=n) (c:=c) (lo:=none) (hi:=some (.int a h)) (l:=0) (h:=h) hu u (.inl ⟨rfl,rfl⟩) (.inr ⟨a,rfl⟩) fy fy w';simp[execOp,fM g,fM f,this,nf]
end
theorem Ow.pre {α:Type} {a:α->List Value} {z B:Nat} {w:World} {e:TypeId} {b o n c k:Nat} {l:List α} (s:∀x,(a x).length=z) (h:Ow a z w B e (.slice (some ⟨b,o,none⟩) n c) l) (hk:k<=l.length):Ow a z w B e (.slice (some ⟨b,o,none⟩) k c) (l.take k):=by
 obtain⟨h1,m⟩:=h;rcases m with⟨m,_⟩|⟨g,cap,cur,y,C,D,J,E,F,G⟩
 ·cases m
 injection y with f I t
 injection f with f
 injection f with e4 u
 subst e4;subst u;subst t;have d:(l.take k).length=k:=by rw[kt];omega
 refine⟨gl s _,.inr ⟨_,_,cur,by rw[d],C,D,by rw[d];omega,E,F,?_⟩⟩;rw[d]
 have v:(l.take k).flatMap a=(l.flatMap a).take (k*z):=by
  have H:l.flatMap a=(l.take k).flatMap a++(l.drop k).flatMap a:=by rw[←tO,lv]
  conv=>rhs;rw[H]
  rw[Mg (by rw[gl s,d];exact gJ _)];exact(pG (by rw[gl s,d];exact gJ _)).symm
 rw[v,←G,Hm]
 congr 1
 have:k*z<=l.length*z:=qk z hk;omega
attribute [local irreducible] xs T
end
end Go.Proofs.YtecaahegomdbbaaGreatDoor.gp
