/- Parts of the proof. -/
import Derived.ArgAppend
import Derived.ChangeKeysEq
import Derived.Laws.Cover2
import Derived.Laws.Cover3
import Derived.Laws.FloatArith
import Derived.Laws.IdiomStrings
import Derived.Laws.StructEq
import Derived.Lib.AppendStr
import Derived.Lib.Mul64
import Derived.Test.YtecaahegomdbbaaGreatDoorRfB0b
set_option linter.all false
set_option maxRecDepth 100000
set_option maxHeartbeats 64000000
namespace Go.Proofs.YtecaahegomdbbaaGreatDoor.gp.Rn
open Go.Proofs.Tryz
open Go.RowKit
variable {af:Array Edge} {cs:Array Value} {p:At} {q r:Bool} {env:Env} {w0:Fm} {k:IntKind} {c:Kr} {hs:List Nat} {full rest:List Oper} {l:List SV} {vs:List Value} {a b f j m n z:Nat} {o:Oper} {x y:Operand} {d:Option Tmp} {ρ:Pl} {res:Rs} {pos:String} {C F el g s t ty u:TypeId} {v:Value} {W:Wh} {w w':World}
section
theorem rZ (h:n<=jt k):k.wrap (n:Int)=n:=by
 cases k<;>simp[jt]at h<;>simp[IntKind.wrap,IntKind.signed,IntKind.bits]<;>omega
theorem KF (k:IntKind):∃q,jt k+1=2^q/\q<=k.bits:=by
 cases k
 ·exact⟨7,by decide,by decide⟩
 ·exact⟨15,by decide,by decide⟩
 ·exact⟨31,by decide,by decide⟩
 ·exact⟨63,by decide,by decide⟩
 ·exact⟨8,by decide,by decide⟩
 ·exact⟨16,by decide,by decide⟩
 ·exact⟨32,by decide,by decide⟩
 ·exact⟨64,by decide,by decide⟩
theorem Qr (k:IntKind):kb k=k.bits:=by cases k<;>rfl
theorem wK (s:a<=jt k) (t:b<=jt k):bits .and k a b=((a&&&b:Nat):Int)/\bits .or k a b=((a|||b:Nat):Int)/\bits .xor k a b=((a^^^b:Nat):Int)/\(a&&&b)<=jt k/\(a|||b)<=jt k/\(a^^^b)<=jt k:=by
 obtain⟨q,hq,hk⟩:=KF k;have d:a<2^q:=fy;have f:b<2^q:=fy;have hle:(2:Nat)^q<=2^k.bits:=Ae fV hk;have e:∀n:Nat,n<2^k.bits->(BitVec.ofInt k.bits (n:Int)).toNat=n:=fS;have h1:(a&&&b)<=jt k:=by have:= @Nat.and_le_left a b;omega
 have g:(a|||b)<=jt k:=by have:=Nat.or_lt_two_pow d f;omega
 have m:(a^^^b)<=jt k:=by have:=UQ d f;omega
 grind [bits,BitVec.toNat_and,rZ,BitVec.toNat_or,BitVec.toNat_xor]
theorem aad (m:a<=jt k) (s:b<=jt k):bits .andNot k a b=((anN a b:Nat):Int)/\anN a b<=jt k:=by
 obtain⟨q,hq,hk⟩:=KF k;have f:a<2^q:=fy;have hle:(2:Nat)^q<=2^k.bits:=Ae fV hk;have e:∀n:Nat,n<2^k.bits->(BitVec.ofInt k.bits (n:Int)).toNat=n:=fS;have h1:a^^^(a&&&b)<=jt k:=by have g:= @Nat.and_le_left a b;have:=UQ (y:=a&&&b) f fy;omega
 have d:∀x y:BitVec k.bits,x&&& ~~~y=x^^^(x&&&y):=fS;refine⟨?_,h1⟩;simp only[bits,d,BitVec.toNat_xor,BitVec.toNat_and];rw[e a fy,e b fy];exact rZ h1
theorem adV {H:World->Prop} {full:Array Oper} {K:Env->World->Prop} {d:Tmp} {m:TypeId} {a b:Int} (f:gh env x=some (.int k a)) (g:gh env y=some (.int k b)) (h:xs prog fD fC hs H full K rest ((d,.int k (bits .andNot k a b))::env) w):xs prog fD fC hs H full K (⟨some d,.binOp .andNot t x y m,ty,pos,af,none⟩::rest) env w:=by
 refine jA f g (eqGuard_at_int ..) (λw'=>?_) h;rw[binOp_andNot,intBits_andNot];rfl
theorem JX:∀a b:List UInt8,Op.bytesLess b a=!(Op.bytesLess a b||decide (a=b))
 |[],[]=>rfl
 |[],_::_=>rfl
 |_::_,[]=>rfl
 |x::a,y::b=>by
  have d:=JX a b
  grind [Op.bytesLess,UInt8.toNat,UInt8.toNat_inj,List.cons.injEq,decide_false,UInt8.lt_iff_toNat_lt,beq_eq_false_iff_ne,Nat.not_lt,Nat.le_of_lt]
theorem nJ (a b:Nat):Nat.ble a b=decide (a<=b):=by
 grind [Nat.ble,decide_eq_true,Nat.le_of_ble_eq_true,decide_eq_false,Nat.ble_eq_true_of_le]
theorem x9 (a b:Nat):Nat.beq a b=decide (a=b):=by
 grind [ke,decide_eq_true,decide_eq_false]
theorem tZ (a b:Int):bI a b=decide (a<b):=by
 cases a with
 | ofNat m=>
  cases b with
  |ofNat n=>
   show Nat.ble (m+1) n=_
   grind [nJ]
  |negSucc n=>exact(decide_eq_false fS).symm
 | negSucc m=>
  cases b with
  |ofNat n=>exact(decide_eq_true fS).symm
  |negSucc n=>
   show Nat.ble (n+1) m=_
   grind [nJ]
theorem US (a b:Int):eI a b=decide (a=b):=by
 cases a with
 | ofNat m=>
  cases b with
  |ofNat n=>
   show Nat.beq m n=_
   grind [x9]
  |negSucc n=>exact(decide_eq_false fS).symm
 | negSucc m=>
  cases b with
  |ofNat n=>exact(decide_eq_false fS).symm
  |negSucc n=>
   show Nat.beq m n=_
   grind [x9]
theorem Qd (d:a<256) (f:b<256):UInt8.ofNat a=UInt8.ofNat b↔a=b:=by
 grind [UInt8.toNat,UInt8.toNat_ofNat']
theorem OO:∀{a b:List Nat},(∀c∈a,c<256)->(∀c∈b,c<256)->eU a b=decide (jD a=jD b)
 |[],[],_,_=>rfl
 |[],_::_,_,_=>rfl
 |_::_,[],_,_=>rfl
 | x::a,y::b,f,g=>by
  have m:eU (x::a) (y::b)=Bool.rec (motive:=λ_=>Bool) false (eU a b) (Nat.beq x y):=rfl;have s:=OO (λc hc=>f c (qe _ hc)) (λc hc=>g c (qe _ hc));have n:=Qd (f x ir) (g y ir);rw[m];rcases ke x y with⟨h1,d⟩|⟨h1,d⟩
  ·rw[d]
   grind [eU,jD,List.cons.injEq]
  simp_all [UInt8.ofNat,decide_eq_false,jD]
theorem yO:∀{a b:List Nat},(∀c∈a,c<256)->(∀c∈b,c<256)->ltU a b=Op.bytesLess (jD a) (jD b)
 |[],[],_,_=>rfl
 |[],_::_,_,_=>rfl
 |_::_,[],_,_=>rfl
 | x::a,y::b,f,g=>by
  have s:ltU (x::a) (y::b)=Bool.rec (motive:=λ_=>Bool) (Nat.ble (x+1) y) (ltU a b) (Nat.beq x y):=rfl;have u:=yO (λc hc=>f c (qe _ hc)) (λc hc=>g c (qe _ hc));have m:=f x ir;have n:=g y ir;have v:=Qd m n
  have t:(UInt8.ofNat x<UInt8.ofNat y)=(x<y):=by
   rw[Wt];simp only[vI];rw[ud m,ud n]
  rw[s];show _=(decide (UInt8.ofNat x<UInt8.ofNat y)||(UInt8.ofNat x==UInt8.ofNat y&&Op.bytesLess (jD a) (jD b)))
  simp only[t];rcases ke x y with⟨h1,d⟩|⟨h1,d⟩
  ·rw[d];subst h1;show ltU a b=_
   rw[u];simp
  ·rw[d]
   grind [Nat.ble,UInt8.ofNat,nJ,beq_eq_false_iff_ne]
theorem qR (a:Mem) (c:Kt) (b:Bool):bK a c b=c (.v (.b b)) a:=by cases b<;>rfl
theorem xa (a b:Bool):eB a b=(a==b):=by cases a<;>cases b<;>rfl
section
variable {m:Nat} {ih:Cl} {e:En} {σ:Mem} {c:Kt} {res:Rs} {ρ:Pl} {env:Env} {w0:Fm} {w:World} {full:Array Oper} {d:Tmp} {ty:TypeId} {pos:String} {af:Array Edge} (hr:res≠ .no)
include hr
theorem Ep {f:IntKind->Nat->Nat->Rs} {x y:AV} {u:Value} (d:AR ρ x u) (g:AR ρ y v) (h:nkK f x y=res):∃k,∃a b:Nat,u= .int k a/\v= .int k b/\a<=jt k/\b<=jt k/\f k a b=res:=by
 obtain⟨k,a,m,h1⟩:=im hr h;obtain⟨B,b,n,t⟩:=im hr h1;obtain⟨s,w⟩:=iv hr t;subst m;subst n;subst s;exact⟨k,a,b,d.1,g.1,d.2,g.2,w⟩
theorem Lg {f:IntKind->Nat->Nat->Rs} {x y:AV} {u:Value} (g:AR ρ x u) (t:AR ρ y v) (h:nnK f x y=res):∃k d,∃a b:Nat,u= .int k a/\v= .int d b/\a<=jt k/\f k a b=res:=by
 obtain⟨k,a,m,h1⟩:=im hr h;obtain⟨d,b,n,s⟩:=im hr h1;subst m;subst n;exact⟨k,d,a,b,g.1,t.1,g.2,s⟩
theorem Kj {B:Int->Int->Bool} {D:List Nat->List Nat->Bool} {x y:AV} {u:Value} (C:AR ρ x u) (g:AR ρ y v) (h:cmK B D q σ c x y=res):
  (∃k a b,u= .int k a/\v= .int k b/\c (.v (.b (q==B a b))) σ=res)∨(∃a b,u= .string (su (jD a))/\v= .string (su (jD b))/\(∀c∈a,c<256)/\(∀c∈b,c<256)/\c (.v (.b (q==D a b))) σ=res)∨∃a b:Nat,u= .float .f64 (fw a)/\v= .float .f64 (fw b)/\a<=1099511627776/\b<=1099511627776/\c (.v (.b (q==B a b))) σ=res:=by
 cases x with
 | v x=>
  cases x with
  |n k a=>
   obtain⟨rfl,E⟩:=C;rcases oQ hr (show M9 y (λw b=>sI k w (bK σ c (eB q (B (.ofNat a) b))))=res from h)with⟨w,b,d,h1⟩|⟨w,b,d,h1⟩
   ·exact y10
   ·exact y10
  |m k a=>
   obtain⟨rfl,_⟩:=C;rcases oQ hr (show M9 y (λw b=>sI k w (bK σ c (eB q (B (.negSucc a) b))))=res from h)with⟨w,b,d,h1⟩|⟨w,b,d,h1⟩
   ·exact y10
   ·exact y10
  |s a=>
   obtain⟨b,d,h1⟩:=ly hr (show I7 y (λb=>bK σ c (eB q (D a b)))=res from h);rw[qR,xa]at h1;subst d;exact .inr (.inl ⟨a,b,C.1,g.1,C.2.1,g.2.1,h1⟩)
  |fl a=>
   obtain⟨b,d,h1⟩:=yc hr (show Yo y (λb=>bK σ c (eB q (B (.ofNat a) (.ofNat b))))=res from h);rw[qR,xa]at h1;subst d;exact .inr (.inr ⟨a,b,C.1,g.1,C.2,g.2,h1⟩)
  |_=>exact absurd h.symm hr
 |_=>exact absurd h.symm hr
theorem KZ {x:AV} {f0:Rs} {f:Nat->Nat->Rs} (h:onQ x f0 f=res):(x= .v .p0/\f0=res)∨∃id o,x= .v (.p id o)/\f id o=res:=by
 cases x with
 |v x=>cases x<;>first|exact .inl ⟨rfl,h⟩|exact .inr ⟨_,_,rfl,h⟩|exact absurd h.symm hr
 |_=>exact absurd h.symm hr
theorem kL {x:AV} {f0:Rs} {fl:Nat->Nat->Nat->Nat->Rs} {g:Nat->Nat->Nat->Nat->Nat->Rs} {d:Rs} {fs:List Nat->Rs} {f:Nat->Nat->Rs} (h:LI x f0 fl g d fs f=res):
  (x= .v .l0/\f0=res)∨(∃id z j n,x= .v (.l id z j n)/\fl id z j n=res)∨(∃id z j n k,x= .v (.lx id z j n k)/\g id z j n k=res)∨(∃id z j a,x= .v (.le id z j a)/\d=res)∨(∃l,x= .v (.s l)/\fs l=res)∨∃id o,x= .v (.p id o)/\f id o=res:=by
 cases x with
 |v x=>
  cases x with
  |l0=>exact .inl ⟨rfl,h⟩
  |l id z j n=>exact .inr (.inl ⟨_,_,_,_,rfl,h⟩)
  |lx id z j n k=>exact .inr (.inr (.inl ⟨_,_,_,_,_,rfl,h⟩))
  |le id z j a=>exact .inr (.inr (.inr (.inl ⟨_,_,_,_,rfl,h⟩)))
  |s l=>exact .inr (.inr (.inr (.inr (.inl ⟨_,rfl,h⟩))))
  |p id o=>exact .inr (.inr (.inr (.inr (.inr ⟨_,_,rfl,h⟩))))
  |_=>exact absurd h.symm hr
 |_=>exact absurd h.symm hr
variable (hE:ER m ρ e env) (hM:MR w0 ρ σ w)
include hE
theorem two {f:AV->AV->Rs} (h:((iz m x).f e λx=>(iz m y).f e λy=>f x y)=res):∃a b va d,gh env x=some va/\gh env y=some d/\AR ρ a va/\AR ρ b d/\f a b=res:=by
 obtain⟨a,va,h1,g,h⟩:=gk hr hE h;obtain⟨b,d,n,s,h⟩:=gk hr hE h
 grind
include hM
theorem acM {op:BinOp} {E:TypeId} {f:Nat->Nat->Nat} {g:Int->Int->Int} (u:∀k a b w',(binOp op t (.int k a) (.int k b)).run prog w'= .ok (.int k (k.wrap (g a b))) w') (D:∀a b:Nat,g a b=f a b)
  (h:(arW f g m x y).f ih e σ c=res):xs prog fD fC [] gp.gL full (Good w0 ρ c res env (some d)) [⟨some d,.binOp op t x y E,ty,pos,af,none⟩] env w:=by
 obtain⟨a,b,va,F,h1,s,B,C,h⟩:=two hr hE h;obtain⟨k,⟨a,b,rfl,rfl,_,_,h⟩|⟨a,b,rfl,rfl,h⟩⟩:=LS hr B C h
 ·rw[gP]at h;obtain⟨v,h,n⟩:=xY (ρ:=ρ) hr h;exact jA h1 s (eqGuard_at_int ..) (λw'=>u k _ _ w') ⟨_,σ,ρ,_,h,Up.refl ρ,by rw[D];exact n,hM,rfl⟩
 ·obtain⟨v,h,n⟩:=vx (ρ:=ρ) hr h;exact jA h1 s (eqGuard_at_int ..) (λw'=>u k _ _ w') ⟨_,σ,ρ,_,h,Up.refl ρ,n,hM,rfl⟩
theorem Zt {E:TypeId} (h:(suW m x y).f ih e σ c=res):xs prog fD fC [] gp.gL full (Good w0 ρ c res env (some d)) [⟨some d,.binOp .sub t x y E,ty,pos,af,none⟩] env w:=by
 obtain⟨a,b,va,G,h1,n,C,D,h⟩:=two hr hE h;have s:∀k a b w',(binOp .sub t (.int k a) (.int k b)).run prog w'= .ok (.int k (k.wrap (a-b))) w':=by simp_all [binOp,Op.intArith]
 obtain⟨k,⟨a,b,rfl,rfl,F,_,h⟩|⟨a,b,rfl,rfl,h⟩⟩:=LS hr C D h
 ·unfold suK at h;rw[me]at h;split at h
  ·rename_i g;have g:=iY g;rw[gP]at h;refine jA h1 n (eqGuard_at_int ..) (λw'=>s k _ _ w') ⟨_,σ,ρ,_,h,Up.refl ρ,⟨?_,?_⟩,hM,rfl⟩
   ·grind [rZ]
   grind
  ·rename_i g
   have g:a<b:=by
    rw[nJ]at g;simpa using g
   rw[gP]at h;obtain⟨v,h,u⟩:=Kk (ρ:=ρ) hr h;refine jA h1 n (eqGuard_at_int ..) (λw'=>s k _ _ w') ⟨_,σ,ρ,_,h,Up.refl ρ,?_,hM,rfl⟩
   have B:((a:Int)-(b:Int))=Int.negSucc (Nat.sub (Nat.sub b a) 1):=by
    show _= -(((b-a-1:Nat):Int)+1)
    omega
   rw[B];exact u
 ·obtain⟨v,h,u⟩:=vx (ρ:=ρ) hr h;exact jA h1 n (eqGuard_at_int ..) (λw'=>s k _ _ w') ⟨_,σ,ρ,_,h,Up.refl ρ,u,hM,rfl⟩
theorem Y8 {B:TypeId} (h:(dvW Nat.div m x y).f ih e σ c=res):xs prog fD fC [] gp.gL full (Good w0 ρ c res env (some d)) [⟨some d,.binOp .quo t x y B,ty,pos,af,none⟩] env w:=by
 obtain⟨a,b,va,D,h1,s,u,v,h⟩:=two hr hE h;obtain⟨k,a,b,rfl,rfl,g,C,h⟩:=Ep hr u v h;obtain⟨n,h⟩:=fO h hr;have n:=iY n;rw[gP]at h;have hle:a/b<=jt k:=mn (QC _ _) g;refine YV (r:=((a/b:Nat):Int)) h1 s ?_ fy fy (rZ g) ⟨_,σ,ρ,_,h,Up.refl ρ,⟨rfl,hle⟩,hM,rfl⟩;simp[Xw]
theorem aaZ {B:TypeId} (h:(dvW Nat.mod m x y).f ih e σ c=res):xs prog fD fC [] gp.gL full (Good w0 ρ c res env (some d)) [⟨some d,.binOp .rem t x y B,ty,pos,af,none⟩] env w:=by
 obtain⟨a,b,va,D,h1,s,u,v,h⟩:=two hr hE h;obtain⟨k,a,b,rfl,rfl,g,C,h⟩:=Ep hr u v h;obtain⟨n,h⟩:=fO h hr;have n:=iY n;rw[gP]at h;have hle:a% b<=jt k:=mn (Nat.mod_le _ _) g;refine YV (r:=((a% b:Nat):Int)) h1 s ?_ fy fy (rZ g) ⟨_,σ,ρ,_,h,Up.refl ρ,⟨rfl,hle⟩,hM,rfl⟩;simp[Xw]
theorem LY {op:BinOp} {G:TypeId} {f:Nat->Nat->Nat} (g:op= .and∨op= .or∨op= .xor∨op= .andNot) (F:∀{k:IntKind} {a b:Nat},a<=jt k->b<=jt k->bits op k a b=(f a b:Int)/\f a b<=jt k)
  (h:(Zr f m x y).f ih e σ c=res):xs prog fD fC [] gp.gL full (Good w0 ρ c res env (some d)) [⟨some d,.binOp op t x y G,ty,pos,af,none⟩] env w:=by
 obtain⟨a,b,va,H,h1,s,B,C,h⟩:=two hr hE h;obtain⟨k,a,b,rfl,rfl,D,E,h⟩:=Ep hr B C h;rw[gP]at h;obtain⟨n,v⟩:=F D E;have u:Good w0 ρ c res env (some d) ((d,.int k (f a b:Int))::env) w:=⟨_,σ,ρ,_,h,Up.refl ρ,⟨rfl,v⟩,hM,rfl⟩;rcases g with g|g|g|rfl
 ·exact KS h1 s (.inl g) n u
 ·exact KS h1 s (.inr (.inl g)) n u
 ·exact KS h1 s (.inr (.inr g)) n u
 ·exact adV h1 s (by rw[n];exact u)
theorem aaX {D:TypeId} (h:(shW m x y).f ih e σ c=res):xs prog fD fC [] gp.gL full (Good w0 ρ c res env (some d)) [⟨some d,.binOp .shl t x y D,ty,pos,af,none⟩] env w:=by
 obtain⟨a,b,va,G,h1,s,u,B,h⟩:=two hr hE h;obtain⟨k,F,a,b,rfl,rfl,E,h⟩:=Lg hr u B h;obtain⟨g,h⟩:=fO h hr;have g:=iY g;rw[Qr]at g;rw[gP]at h;obtain⟨v,h,C⟩:=xY (ρ:=ρ) hr h;refine Jt h1 s fy fy fx ⟨_,σ,ρ,_,h,Up.refl ρ,?_,hM,rfl⟩
 have n:((a:Int)*2^(b:Int).toNat)=Int.ofNat (Nat.shiftLeft a b):=by
  show _=((a<<<b:Nat):Int)
  rw[BH];simp
 rw[n];exact C
theorem aaF (h:(srW m x y).f ih e σ c=res):xs prog fD fC [] gp.gL full (Good w0 ρ c res env (some d)) [⟨some d,.binOp .shr t x y C,ty,pos,af,none⟩] env w:=by
 obtain⟨a,b,va,E,h1,s,u,v,h⟩:=two hr hE h;obtain⟨k,D,a,b,rfl,rfl,B,h⟩:=Lg hr u v h;obtain⟨g,h⟩:=fO h hr;have g:=iY g;rw[Qr]at g;rw[gP]at h;have n:Nat.shiftRight a b=a/2^b:=LB a b;refine WH h1 s fy fy ⟨_,σ,ρ,_,h,Up.refl ρ,⟨?_,?_⟩,hM,rfl⟩
 ·rw[n];simp
 ·rw[n];exact mn (QC _ _) B
theorem aau {K:TypeId} (h:(adW m x y).f ih e σ c=res):xs prog fD fC [] gp.gL full (Good w0 ρ c res env (some d)) [⟨some d,.binOp .add t x y K,ty,pos,af,none⟩] env w:=by
 obtain⟨a,b,va,N,h1,D,H,E,h⟩:=two hr hE h;have G:∀k a b w',(binOp .add t (.int k a) (.int k b)).run prog w'= .ok (.int k (k.wrap (a+b))) w':=by simp_all [binOp,Op.intArith]
 cases a with
 | v a=>
  cases a with
  | n k a=>
   obtain⟨rfl,I⟩:=H;cases b with
   | v b=>
    cases b with
    |n C b=>
     obtain⟨g,u⟩:=iv hr (show sI k C (fN (Nat.add a b) λs=>Yb σ c k s)=res from h);clear h;subst g;have h:=u;obtain⟨rfl,F⟩:=E;rw[gP]at h;obtain⟨v,h,B⟩:=xY (ρ:=ρ) hr h;exact jA h1 D (eqGuard_at_int ..) (λw'=>G k _ _ w') ⟨_,σ,ρ,_,h,Up.refl ρ,B,hM,rfl⟩
    |m C b=>
     obtain⟨g,u⟩:=iv hr (show sI k C (RX σ c k (Int.add (.ofNat a) (.negSucc b)))=res from h);clear h;subst g;have h:=u;obtain⟨rfl,F⟩:=E;exact y12
    |_=>exact absurd h.symm hr
   |_=>exact absurd h.symm hr
  |m k a=>
   obtain⟨rfl,I⟩:=H;rcases oQ hr (show M9 b (λC b=>sI k C (RX σ c k (Int.add (.negSucc a) b)))=res from h)with⟨C,b,rfl,h⟩|⟨C,b,rfl,h⟩
   ·obtain⟨g,u⟩:=iv hr h;clear h;subst g;have h:=u;obtain⟨rfl,F⟩:=E;exact y12
   ·obtain⟨g,u⟩:=iv hr h;clear h;subst g;have h:=u;obtain⟨rfl,F,_⟩:=E;exact y12
  | s a=>
   obtain⟨rfl,I,L⟩:=H;obtain⟨b,rfl,h⟩:=ly hr (show I7 b (λb=>jb (Nat.ble (a++b).length maxLen) (fP (a++b) λs=>c (.v (.s s)) σ))=res from h);obtain⟨rfl,F,M⟩:=E;obtain⟨hq,h⟩:=fO h hr;have hq:=iY hq;rw[nF]at h
   have J:(jD a).length+(jD b).length<=maxLen:=by
    have:(a++b).length<=maxLen:=hq;simpa[jD]using this
   refine rm h1 D J ⟨_,σ,ρ,_,h,Up.refl ρ,⟨by simp[jD],λq hq=>?_,hq⟩,hM,rfl⟩
   grind
  |_=>exact absurd h.symm hr
 |_=>exact absurd h.symm hr
theorem WK {op:BinOp} {g:Int->Int->Bool} {s:List Nat->List Nat->Bool} (D:∀k a b w',(binOp op t (.int k a) (.int k b)).run prog w'= .ok (.bool (q==g a b)) w') (E:∀a b:List Nat,(∀c∈a,c<256)->(∀c∈b,c<256)->hZ op (jD a) (jD b)=some (q==s a b)) (G:∀a b:Nat,a<=1099511627776->b<=1099511627776->∀w',(binOp op t (.float .f64 (fw a)) (.float .f64 (fw b))).run prog w'= .ok (.bool (q==g a b)) w')
  (h:(Zn g s q m x y).f ih e σ c=res):xs prog fD fC [] gp.gL full (Good w0 ρ c res env (some d)) [⟨some d,.binOp op t x y F,ty,pos,af,none⟩] env w:=by
 obtain⟨a,b,va,H,h1,n,B,C,h⟩:=two hr hE h;rcases Kj hr B C h with⟨k,a,b,rfl,rfl,h⟩|⟨a,b,rfl,rfl,u,v,h⟩|⟨a,b,rfl,rfl,u,v,h⟩
 ·exact jA h1 n (eqGuard_at_int ..) (λw'=>D k _ _ w') ⟨_,σ,ρ,_,h,Up.refl ρ,rfl,hM,rfl⟩
 ·exact gq h1 n (E a b u v) ⟨_,σ,ρ,_,h,Up.refl ρ,rfl,hM,rfl⟩
 ·exact jA h1 n (by cases op<;>rfl) fS ⟨_,σ,ρ,_,h,Up.refl ρ,rfl,hM,rfl⟩
theorem Zv {op:BinOp} {g:Int->Int->Bool} {s:List Nat->List Nat->Bool} (D:∀k a b w',(binOp op t (.int k a) (.int k b)).run prog w'= .ok (.bool (q==g b a)) w') (E:∀a b:List Nat,(∀c∈a,c<256)->(∀c∈b,c<256)->hZ op (jD a) (jD b)=some (q==s b a)) (G:∀a b:Nat,a<=1099511627776->b<=1099511627776->∀w',(binOp op t (.float .f64 (fw a)) (.float .f64 (fw b))).run prog w'= .ok (.bool (q==g b a)) w')
  (h:(Zn g s q m y x).f ih e σ c=res):xs prog fD fC [] gp.gL full (Good w0 ρ c res env (some d)) [⟨some d,.binOp op t x y F,ty,pos,af,none⟩] env w:=by
 obtain⟨b,a,H,va,n,h1,C,B,h⟩:=two hr hE h;rcases Kj hr C B h with⟨k,b,a,rfl,rfl,h⟩|⟨b,a,rfl,rfl,v,u,h⟩|⟨b,a,rfl,rfl,v,u,h⟩
 ·exact jA h1 n (eqGuard_at_int ..) (λw'=>D k _ _ w') ⟨_,σ,ρ,_,h,Up.refl ρ,rfl,hM,rfl⟩
 ·exact gq h1 n (E a b u v) ⟨_,σ,ρ,_,h,Up.refl ρ,rfl,hM,rfl⟩
 ·exact jA h1 n (by cases op<;>rfl) fS ⟨_,σ,ρ,_,h,Up.refl ρ,rfl,hM,rfl⟩
theorem aaQ (h:(unW m .not x).f ih e σ c=res):xs prog fD fC [] gp.gL full (Good w0 ρ c res env (some d)) [⟨some d,.unOp .not t x,ty,pos,af,none⟩] env w:=by
 obtain⟨q,v,h1,g,h⟩:=gk hr hE (show(iz m x).f e _=res from h);rcases uy hr h with⟨rfl,h⟩|⟨rfl,h⟩
 ·have a:v= .bool true:=g;subst a;exact sJ h1 ⟨_,σ,ρ,_,h,Up.refl ρ,rfl,hM,rfl⟩
 ·have a:v= .bool false:=g;subst a;exact sJ h1 ⟨_,σ,ρ,_,h,Up.refl ρ,rfl,hM,rfl⟩
theorem Za (h:(unW m .neg x).f ih e σ c=res):xs prog fD fC [] gp.gL full (Good w0 ρ c res env (some d)) [⟨some d,.unOp .neg t x,ty,pos,af,none⟩] env w:=by
 obtain⟨q,v,h1,s,h⟩:=gk hr hE (show(iz m x).f e _=res from h)
 have key:∀k (n:Int),v= .int k n->RX σ c k (Int.neg n)=res->xs prog fD fC [] gp.gL full (Good w0 ρ c res env (some d)) [⟨some d,.unOp .neg t x,ty,pos,af,none⟩] env w:=λk n g h=>by
  subst g;obtain⟨v,h,g⟩:=vx (ρ:=ρ) hr h;refine gR fx (by grind [fX,Op.operands]) ⟨.int k (k.wrap (-n)),λw'=>?_,_,σ,ρ,_,h,Up.refl ρ,g,hM,rfl⟩;simp[execOp,fM h1,Op.unary,Op.intArith]
 rcases oQ hr h with⟨k,a,rfl,h⟩|⟨k,a,rfl,h⟩
 ·exact key k _ s.1 h
 ·exact key k _ s.1 h
end
end
section
theorem K3 (h:uns k=true):k.signed=false:=by cases k<;>first|rfl|cases h
theorem AJ (h:k.signed=false) (z:Int):∃n:Nat,k.wrap z=n/\n<=jt k:=by
 cases k<;>first|cases h|skip
 ·exact⟨(z% 256).toNat,by grind [IntKind.wrap,IntKind.signed,IntKind.bits],by simp[jt];omega⟩
 ·exact⟨(z% 65536).toNat,by grind [IntKind.wrap,IntKind.signed,IntKind.bits],by simp[jt];omega⟩
 ·exact⟨(z% 4294967296).toNat,by grind [IntKind.wrap,IntKind.signed,IntKind.bits],by simp[jt];omega⟩
 ·exact⟨(z% 18446744073709551616).toNat,by grind [IntKind.wrap,IntKind.signed,IntKind.bits],by simp[jt];omega⟩
theorem MR.unk {a d:Mem} (h:MR w0 ρ a w) (b:Nat) (y:d.n=a.n+1/\d.mp=a.mp) (S:jy d a.n=some ⟨0,0,0,.nil⟩) (hk:∀k,k≠a.n->jy d k=jy a k):MR w0 (ρ++[⟨b,0,0⟩]) d w:=by
 have hu:=Up.snoc ρ ⟨b,0,0⟩
 have hold:∀id o p,(hY d id o).isSome=true->(ρ++[(⟨b,0,0⟩:At)])[id]? =some p->id≠a.n/\(hY a id o).isSome=true/\ρ[id]? =some p:=λid o p hs g=>by
  have f:id≠a.n:=by grind [hY,hV,kA]
  have F:hY d id o=hY a id o:=by unfold hY;rw[hk id f]
  rw[F]at hs;obtain⟨x,u⟩:=qQ.1 hs;obtain⟨q,m,cs,v,h1,_⟩:=h.at_ u
  grind
 refine⟨by simp[h.len,y.1],λid m h1 G=>?_,h.old,λid o p hs g=>?_,λid m h1 o O=>?_,λid B o o' p C N hs R g Q=>?_,by rw[y.2];exact h.yI.to hu (λ_ _ t=>t) λ_ _ _ t=>t⟩
 ·have f:id≠a.n:=by grind [kA]
  rw[hk id f]at h1;obtain⟨p,cs,H,I,K,J⟩:=h.gH id m h1 G;refine⟨p,cs,hu _ _ H,I,K,λo x u=>?_⟩;obtain⟨v,L,M⟩:=J o x u;exact⟨v,L,M.up hu⟩
 ·obtain⟨_,s,a2⟩:=hold id o p hs g;exact h.xj id o p s a2
 ·by_cases f:id=a.n
  ·grind [kA]
  ·rw[hk id f]at h1;exact h.pre id m h1 o O
 ·obtain⟨_,s,a2⟩:=hold id o p hs g;obtain⟨_,D,E⟩:=hold B o' C R Q;exact h.apart id B o o' p C N s D a2 E
section
variable {m:Nat} {ih:Cl} {e:En} {σ:Mem} {c:Kt} {res:Rs} {ρ:Pl} {env:Env} {w0:Fm} {w:World} {full:Array Oper} {d:Tmp} {ty:TypeId} {pos:String} {af:Array Edge} (hr:res≠ .no)
include hr
omit hr in
theorem qS {a:AV} (h:XR a=some k) (d:AR ρ a v):∃n:Nat,v= .int k (n:Int)/\n<=jt k/\k.signed=false:=by
 unfold XR at h;split at h
 ·injection h with h;subst h
  obtain⟨p,_,f,g,m⟩:=d
  grind
 ·cases h
omit hr in
theorem GC {a:AV} (h:nkO a=some k) (d:AR ρ a v):∃n:Nat,v= .int k (n:Int)/\n<=jt k:=by
 unfold nkO at h;split at h
 ·injection h with h;subst h
  obtain⟨p,_,f,g,m⟩:=d
  grind
 ·injection h with h;subst h
  exact⟨_,d.1,d.2⟩
 ·cases h
theorem Vo {x:AV} {f:IntKind->Nat->Rs} (h:tX x f=res) (a:AR ρ x v):∃k,∃n:Nat,v= .int k (n:Int)/\f k n=res:=by
 obtain⟨k,n,rfl,h⟩:=im hr h;exact⟨k,n,a.1,h⟩
variable (hM:MR w0 ρ σ w)
include hM
theorem nW (h:Ea σ c k=res) (n:Nat) (s:n<=jt k):Good w0 ρ c res env (some d) ((d,.int k (n:Int))::env) w:=by
 obtain⟨hk,h⟩:=fO h hr;obtain⟨t,a,f,g,h⟩:=yK hr h;have m:(ρ++[(⟨n,0,0⟩:At)])[σ.n]? =some ⟨n,0,0⟩:=by rw[←hM.len];simp
 exact⟨_,t,_,_,h,by grind [Up.snoc],⟨_,m,rfl,s,K3 hk⟩,hM.unk n a f g,rfl⟩
omit hM in
theorem yv (h:Ea σ c k=res):k.signed=false:=K3 (fO h hr).1
variable (hE:ER m ρ e env)
include hE
omit hM in
theorem Ld (h:(X3 m x y W).f ih e σ c=res):
  (∃(k:IntKind) (a b:Nat),gh env x=some (.int k (a:Int))/\gh env y=some (.int k (b:Int))/\a<=jt k/\b<=jt k/\Ea σ c k=res)∨W.f ih e σ c=res:=by
 obtain⟨a,b,va,C,h1,B,g,s,h⟩:=two hr hE h;unfold xuK at h;split at h
 ·rename_i k hk;obtain⟨n,rfl,v,_⟩:=qS hk g;split at h
  ·rename_i w d;obtain⟨q,rfl,hq⟩:=GC d s;obtain⟨t,u⟩:=iv hr h;grind
  grind
 ·split at h
  ·rename_i k hk;obtain⟨n,rfl,v,_⟩:=qS hk s;split at h
   ·rename_i w d;obtain⟨q,rfl,hq⟩:=GC d g;obtain⟨t,u⟩:=iv hr h;grind
   grind
  ·exact .inr h
theorem Zk {op:BinOp} {g:Int->Int->Int} (C:∀k a b w',(binOp op t (.int k a) (.int k b)).run prog w'= .ok (.int k (k.wrap (g a b))) w')
  (old:W.f ih e σ c=res->xs prog fD fC [] gp.gL full (Good w0 ρ c res env (some d)) [⟨some d,.binOp op t x y s,ty,pos,af,none⟩] env w)
  (h:(X3 m x y W).f ih e σ c=res):xs prog fD fC [] gp.gL full (Good w0 ρ c res env (some d)) [⟨some d,.binOp op t x y s,ty,pos,af,none⟩] env w:=by
 rcases Ld hr hE h with⟨k,a,b,h1,v,_,_,h⟩|h
 ·obtain⟨n,u,B⟩:=AJ (yv hr h) (g a b);refine jA h1 v (eqGuard_at_int ..) (λw'=>C k _ _ w') ?_;rw[u];exact nW hr hM h n B
 ·exact old h
theorem Vk {op:BinOp} {f:Nat->Nat->Nat} (D:op= .and∨op= .or∨op= .xor) (B:∀{k:IntKind} {a b:Nat},a<=jt k->b<=jt k->bits op k a b=(f a b:Int)/\f a b<=jt k)
  (old:W.f ih e σ c=res->xs prog fD fC [] gp.gL full (Good w0 ρ c res env (some d)) [⟨some d,.binOp op t x y g,ty,pos,af,none⟩] env w)
  (h:(X3 m x y W).f ih e σ c=res):xs prog fD fC [] gp.gL full (Good w0 ρ c res env (some d)) [⟨some d,.binOp op t x y g,ty,pos,af,none⟩] env w:=by
 rcases Ld hr hE h with⟨k,a,b,h1,s,u,v,h⟩|h
 ·obtain⟨n,C⟩:=B u v;exact KS h1 s D n (nW hr hM h _ C)
 ·exact old h
theorem aai {v:TypeId} 
  (old:W.f ih e σ c=res->xs prog fD fC [] gp.gL full (Good w0 ρ c res env (some d)) [⟨some d,.binOp .rem t x y v,ty,pos,af,none⟩] env w)
  (h:(xrW m x y W).f ih e σ c=res):xs prog fD fC [] gp.gL full (Good w0 ρ c res env (some d)) [⟨some d,.binOp .rem t x y v,ty,pos,af,none⟩] env w:=by
 obtain⟨a,b,va,H,h1,C,D,E,g⟩:=two hr hE (show((iz m x).f e λa=>(iz m y).f e λb=>xrK σ c (W.f ih e σ c) a b)=res from h);unfold xrK at g;split at g
 ·rename_i k hk;obtain⟨n,rfl,u,_⟩:=qS hk D;obtain⟨G,q,rfl,s⟩:=Vo hr g E;obtain⟨B,F⟩:=iv hr s;subst B;obtain⟨hq,s⟩:=fO F hr;have hq:=iY hq;have hle:n% q<=jt k:=mn (Nat.mod_le _ _) u;exact YV (r:=((n% q:Nat):Int)) h1 C (by simp[Xw]) fy fy (rZ u) (nW hr hM s _ hle)
 ·exact old g
omit hM in
theorem KX (h:(Y4 m x y W).f ih e σ c=res):
  (∃(k g:IntKind) (a b:Nat),gh env x=some (.int k (a:Int))/\gh env y=some (.int g (b:Int))/\a<=jt k/\b<=k.bits/\Ea σ c k=res)∨W.f ih e σ c=res:=by
 obtain⟨a,b,va,w,h1,u,s,t,h⟩:=two hr hE h;unfold xsK at h;split at h
 ·rename_i k hk;obtain⟨n,rfl,v,_⟩:=qS hk s;obtain⟨g,q,rfl,d⟩:=Vo hr h t;obtain⟨hq,d⟩:=fO d hr;have hq:=iY hq
  grind [Qr]
 ·exact .inr h
theorem YN 
  (old:W.f ih e σ c=res->xs prog fD fC [] gp.gL full (Good w0 ρ c res env (some d)) [⟨some d,.binOp .shl t x y g,ty,pos,af,none⟩] env w)
  (h:(Y4 m x y W).f ih e σ c=res):xs prog fD fC [] gp.gL full (Good w0 ρ c res env (some d)) [⟨some d,.binOp .shl t x y g,ty,pos,af,none⟩] env w:=by
 rcases KX hr hE h with⟨k,D,a,b,h1,u,B,C,h⟩|h
 ·obtain⟨n,s,v⟩:=AJ (yv hr h) ((a:Int)*2^(b:Int).toNat);exact Jt h1 u fy fy s (nW hr hM h n v)
 ·exact old h
theorem aaY 
  (old:W.f ih e σ c=res->xs prog fD fC [] gp.gL full (Good w0 ρ c res env (some d)) [⟨some d,.binOp .shr t x y g,ty,pos,af,none⟩] env w)
  (h:(Y4 m x y W).f ih e σ c=res):xs prog fD fC [] gp.gL full (Good w0 ρ c res env (some d)) [⟨some d,.binOp .shr t x y g,ty,pos,af,none⟩] env w:=by
 rcases KX hr hE h with⟨k,B,a,b,h1,s,u,v,h⟩|h
 ·refine WH h1 s fy fy ?_;have n:((a:Int)/2^(b:Int).toNat)=((a/2^b:Nat):Int):=by simp
  rw[n];exact nW hr hM h _ (mn (QC _ _) u)
 ·exact old h
end
theorem GK {a:AV} {l:List Nat} (h:slS a=some l) (d:AR ρ a v):v= .string (su (l.map (oI ρ)))/\(∀q∈l,q<256∨∃p,ρ[q-256]? =some p/\p.b<256)/\l.length<=maxLen:=by
 unfold slS at h;split at h
 ·injection h with h;subst h
  exact d
 ·rename_i l';injection h with h;subst h
  obtain⟨h1,g,f⟩:=d;refine⟨?_,fS,f⟩;rw[h1];refine congrArg (λr=>Value.string (su r)) (zC λq hq=>?_)
  grind [oI]
 ·cases h
theorem FG {a:AV} {l:List Nat} (h:YC a=some l):a= .v (.sl l):=by
 unfold YC at h
 grind
section
variable {m:Nat} {ih:Cl} {e:En} {σ:Mem} {c:Kt} {res:Rs} {ρ:Pl} {env:Env} {w0:Fm} {w:World} {full:Array Oper} {d:Tmp} {ty:TypeId} {pos:String} {af:Array Edge} (hr:res≠ .no) (hE:ER m ρ e env) (hM:MR w0 ρ σ w)
include hr hE hM
theorem acD 
  (old:W.f ih e σ c=res->xs prog fD fC [] gp.gL full (Good w0 ρ c res env (some d)) [⟨some d,.binOp .add t x y g,ty,pos,af,none⟩] env w)
  (h:(laW m x y W).f ih e σ c=res):xs prog fD fC [] gp.gL full (Good w0 ρ c res env (some d)) [⟨some d,.binOp .add t x y g,ty,pos,af,none⟩] env w:=by
 obtain⟨a,b,va,G,h1,n,s,u,h⟩:=two hr hE (show((iz m x).f e λa=>(iz m y).f e λb=>laK σ c (W.f ih e σ c) a b)=res from h)
 have key:slK σ c a b=res->xs prog fD fC [] gp.gL full (Good w0 ρ c res env (some d)) [⟨some d,.binOp .add t x y g,ty,pos,af,none⟩] env w:=λh=>by
  unfold slK at h;split at h
  ·rename_i l r B C;obtain⟨rfl,D,a2⟩:=GK B s;obtain⟨rfl,E,F⟩:=GK C u;obtain⟨hq,h⟩:=fO h hr;have hq:=iY hq;rw[nF]at h;have v:(l.map (oI ρ)).length+(r.map (oI ρ)).length<=maxLen:=by simpa only[jF,hQ]using hq
   refine rm h1 n v ⟨_,σ,ρ,_,h,Up.refl ρ,⟨by simp,λq hq=>?_,hq⟩,hM,rfl⟩
   grind
  ·exact absurd h.symm hr
 unfold laK at h;split at h
 ·exact old h
 ·exact key h
end
end
section
theorem Em {a:IntKind} {b:Bool} (h:eN k a b=some r):k=a/\b=r:=by
 unfold eN at h;cases d:Nat.beq (kn k) (kn a)with
 |false=>simp_all
 |true=>
  rw[d]at h;injection h with h
  refine⟨?_,h⟩;cases k<;>cases a<;>first|rfl|cases d
theorem To (a b:Nat):(Int.ofNat a==Int.ofNat b)=decide (a=b):=by
 grind
theorem Tq (a b:Nat):(Int.negSucc a==Int.negSucc b)=decide (a=b):=by
 grind
theorem PB {f:Bool} {x y:SV} {u:Value} (h:eF f x y=some r) (B:SR ρ x u) (C:SR ρ y v) (ht:(f=true/\fC t=true)∨(f=false/\∃k,kindOf t=some k)) (D:Nat) (w':World):(Op.equalIn (D+1) t u v).run prog w'= .ok r w':=by
 have hi:∀(k:IntKind) (a b:Int),(∃k,kindOf t=some k)->(Op.equalIn (D+1) t (.int k a) (.int k b)).run prog w'= .ok (a==b) w':=by simp_all [run_equalIn_int,iF]
 rcases ht with⟨rfl,ht⟩|⟨rfl,ht⟩
 ·cases x with
  | s a=>
   cases y with
   |s b=>
    have h:some (eU a b)=some r:=h;injection h with h
    obtain⟨rfl,E,hm⟩:=B;obtain⟨rfl,F,G⟩:=C
    grind [run_equalIn_string,hR,jj,OO]
   |_=>cases h
  |_=>cases h
 ·cases x with
  | n k a=>
   cases y with
   |n w b=>
    obtain⟨d,g⟩:=Em (show eN k w (Nat.beq a b)=some r from h);subst d;rw[B.1,C.1,hi k _ _ ht,←g,x9]
    grind [To]
   |m w b=>
    obtain⟨d,g⟩:=Em (show eN k w (false)=some r from h);subst d;rw[B.1,C.1,hi k _ _ ht,←g];rfl
   |_=>cases h
  | m k a=>
   cases y with
   |n w b=>
    obtain⟨d,g⟩:=Em (show eN k w (false)=some r from h);subst d;rw[B.1,C.1,hi k _ _ ht,←g];rfl
   |m w b=>
    obtain⟨d,g⟩:=Em (show eN k w (Nat.beq a b)=some r from h);subst d;rw[B.1,C.1,hi k _ _ ht,←g,x9]
    grind [Tq]
   |_=>cases h
  |_=>cases h
theorem K0 {f:Bool} {fl:List Bool} {a b:List SV} (h:eT (f::fl) a b=some r):∃x d y b' p q,a=x::d/\b=y::b'/\eF f x y=some p/\eT fl d b'=some q/\r=(p&&q):=by
 cases a with
 |nil=>cases b<;>cases h
 | cons x a=>
  cases b with
  |nil=>cases h
  | cons y b=>
   have g:(match eF f x y,eT fl a b with
    |some p,some q=>some (p&&q)
    |_,_=>none)=some r:=h
   grind
theorem sw {α:Type} {xs:List α} {k:Nat} {v:α} {r:List α} (h:xs.drop k=v::r):xs[k]? =some v/\xs.drop (k+1)=r:=by
 have h1:(xs.drop k)[0]? =some v:=by rw[h];rfl
 refine⟨by simpa using h1,?_⟩;rw[←rb,h];rfl
theorem AD {ρ:Pl} {xs ys:List Value} (s:Nat) (w':World):∀{fs:List Field} {k:Nat} {fl:List Bool} {la lb:List SV} {va n:List Value} {r:Bool},flat fs k=some fl->jU ρ la va->jU ρ lb n->xs.drop k=va->ys.drop k=n->eT fl la lb=some r->(Op.eqFields (s+1) xs.toArray ys.toArray fs).run prog w'= .ok r w'
 | [],k,fl,la,lb,va,n,r,t,a,d,C,D,h=>by
  obtain rfl:=jk t;cases la with
  | nil=>
   cases lb with
   |nil=>
    have h:some true=some r:=h;obtain rfl:=jk h;simp[Op.eqFields]
   |cons _ _=>cases h
  |cons _ _=>cases lb<;>cases h
 | f ::fs,k,fl,la,lb,va,n,r,t,a,d,C,D,h=>by
  have m:(match Nat.beq f.offset k&&f.name != "_" &&prog.plainKey f.type,flat fs (Nat.add k 1)with
   |true,some r=>match kindOf f.type,fC f.type with
    |some _,_=>some (false::r)
    |none,true=>some (true::r)
    |none,false=>none
   |_,_=>none)=some fl:=t
  split at m
  ·rename_i r0 hc J;simp only[iO,bne_iff_ne,ne_eq]at hc;obtain⟨⟨u,I⟩,B⟩:=hc;have u:=jd u
   have key:∃g,fl=g::r0/\((g=true/\fC f.type=true)∨(g=false/\∃k,kindOf f.type=some k)):=by
    split at m
    ·grind
    ·grind
    ·cases m
   obtain⟨g,rfl,H⟩:=key;obtain⟨x,N,y,b',p,q,rfl,rfl,h1,G,rfl⟩:=K0 h;cases a with
   | cons K a=>
    cases d with
    |cons L d=>
     obtain⟨v,E⟩:=sw C;obtain⟨w,F⟩:=sw D;rw[←u]at v w;have M:=AD s w' (fs:=fs) (k:=k+1) J a d E F G;have he:=PB h1 K.2 L.2 H s w';rw[Op.eqFields,if_pos I];simp only[sD,run_part_plain w' B (xs:=xs.toArray) (by simpa using v),run_part_plain w' B (xs:=ys.toArray) (by simpa using w),sM,he];cases p<;>simp[M]
  ·cases m
theorem Dm {ρ:Pl} {xs ys:List Value} {e:TypeId} (hk:∃k,kindOf e=some k) (m:prog.plainKey e=true) (g:Nat) (w':World):∀{n k:Nat} {la lb:List SV} {va f:List Value} {r:Bool},jU ρ la va->jU ρ lb f->xs.drop k=va->ys.drop k=f->eT (List.replicate n false) la lb=some r->(Op.eqItems (g+1) e 1 xs.toArray ys.toArray (List.range' k n)).run prog w'= .ok r w'
 | 0,k,la,lb,va,f,r,a,d,s,t,h=>by
  cases la with
  | nil=>
   cases lb with
   |nil=>
    have h:some true=some r:=h;obtain rfl:=jk h;simp[Op.eqItems]
   |cons _ _=>cases h
  |cons _ _=>cases lb<;>cases h
 | n+1,k,la,lb,va,f,r,a,d,s,t,h=>by
  rw[UN]at h;obtain⟨x,G,y,b',p,q,rfl,rfl,h1,C,rfl⟩:=K0 h;cases a with
  | cons D a=>
   cases d with
   |cons E d=>
    obtain⟨w,u⟩:=sw s;obtain⟨B,v⟩:=sw t;have F:=Dm hk m g w' (n:=n) (k:=k+1) a d u v C;have he:=PB h1 D.2 E.2 (.inr ⟨rfl,hk⟩) g w';rw[Kx];simp only[Op.eqItems,ph,sD,run_part_plain w' m (xs:=xs.toArray) (off:=k) (by simpa using w),run_part_plain w' m (xs:=ys.toArray) (off:=k) (by simpa using B),sM,he];cases p<;>simp[F]
theorem Ty {fl:List Bool} (h:peq t=some fl) {la lb:List SV} {va d:List Value} (m:jU ρ la va) (s:jU ρ lb d) (he:eT fl la lb=some r) (w':World):prog.eqGuardType prog.depth t=false/\(Op.equalIn 10000 t (.agg va.toArray) (.agg d.toArray)).run prog w'= .ok r w':=by
 unfold peq at h;split at h
 ·cases h
 ·rename_i h1;refine⟨h1,?_⟩;split at h
  ·cases h
  ·rename_i g;split at h
   ·rename_i fs a
    have f:prog.fieldsOf t=fs:=by
     unfold Program.fieldsOf;rw[a]
    rw[run_equalIn_agg w' 9999 t _ _ (by rw[f];exact a) g,f];exact AD 9998 w' (xs:=va) (ys:=d) h m s fx fx he
   ·rename_i n e a;split at h
    ·rename_i hc;obtain rfl:=jk h;simp only[iO]at hc;obtain⟨⟨hk,v⟩,w⟩:=hc;obtain⟨_,i,hi,hs⟩:=mX v
     have u:prog.cellsOf e=1:=by
      unfold Program.cellsOf;rw[hi];exact hs
     rw[run_equalIn_array w' 9999 _ _ a hi,u,Hh]
     grind [Dm,Option.isSome_iff_exists]
    ·cases h
   ·cases h
def ptrEq:Option Addr->Option Addr->Option Bool
 |none,b=>some b.isNone
 |some _,none=>some false
 |some _,some _=>none
theorem KJ (ht:prog.underlying t=some (.pointer el)) (f:Nat) (a b:Option Addr) (d:ptrEq a b=some r) (w':World):(Op.equalIn (f+1) t (.pointer a) (.pointer b)).run prog w'= .ok r w':=by
 cases a with
 |none=>
  obtain rfl:=jk d;cases b<;>simp[Op.equalIn,run_underlying ht]
 | some a=>
  cases b with
  |none=>
   obtain rfl:=jk d;simp[Op.equalIn,run_underlying ht]
  |some b=>cases d
theorem S7 {ms:Array (String×TypeId)} (ht:prog.underlying t=some (.interface ms)) (d:Nat) (w:World):(Op.equalIn (d+1) t .nilIface .nilIface).run prog w= .ok true w:=by simp[Op.equalIn,run_underlying ht]
theorem SF (ht:prog.underlying t=some (.slice el)) (a:Nat) (A:Option Addr) (n k n' d:Nat) (w':World):(Op.equalIn (a+1) t (.slice A n k) (.slice none n' d)).run prog w'= .ok A.isNone w':=by
 cases A<;>simp[Op.equalIn,run_underlying ht]
theorem vp {op:BinOp} (h:binOp op t (.float .f64 (fw a)) (.float .f64 (fw b))=pure (.bool r)) {d:Bool} (f:r=d) (w':World):(binOp op t (.float .f64 (fw a)) (.float .f64 (fw b))).run prog w'= .ok (.bool d) w':=by
 rw[h,f];rfl
theorem vC (d:a<=1099511627776) (f:b<=1099511627776):FloatKind.f64.format.order (fw a) (fw b)=some (compare a b):=by grind [zl]
theorem O1:(compare a b== .lt)=decide ((a:Int)<(b:Int)):=by
 grind [Nat.lt_trichotomy,Nat.compare_eq_lt,decide_eq_true,Nat.compare_eq_eq,decide_eq_false,Nat.compare_eq_gt]
theorem Pk:(compare a b== .gt)=decide ((b:Int)<(a:Int)):=by
 grind [Nat.lt_trichotomy,Nat.compare_eq_lt,decide_eq_false,Nat.compare_eq_eq,Nat.compare_eq_gt,decide_eq_true]
theorem cmp_eq:(compare a b== .eq)=decide ((a:Int)=(b:Int)):=by
 grind
section
variable {m:Nat} {ih:Cl} {e:En} {σ:Mem} {c:Kt} {res:Rs} {ρ:Pl} {env:Env} {w0:Fm} {w:World} {full:Array Oper} {d:Tmp} {ty:TypeId} {pos:String} {af:Array Edge} (hr:res≠ .no) (hE:ER m ρ e env) (hM:MR w0 ρ σ w)
def qi (q:Bool):BinOp:=match q with
 |true=> .eql
 |false=> .neq
include hM
theorem QV {m:TypeId} {va a:Value} (h1:gh env x=some va) (f:gh env y=some a) (g:eqGuard (qi q) t x y va a=pure ()) (s:binOp .eql t va a=(do pure (.bool (←Op.equal t va a)))) (u:binOp .neq t va a=(do pure (.bool (!(←Op.equal t va a)))))
  (he:∀w',(Op.equalIn (9999+1) t va a).run prog w'= .ok r w') (h:c (.v (.b (q==r))) σ=res):xs prog fD fC [] gp.gL full (Good w0 ρ c res env (some d)) [⟨some d,.binOp (qi q) t x y m,ty,pos,af,none⟩] env w:=by
 refine jA (v:= .bool (q==r)) h1 f g (λw'=>?_) ⟨_,σ,ρ,_,h,Up.refl ρ,rfl,hM,rfl⟩;have n:(Op.equal t va a).run prog w'= .ok r w':=he w';cases q with
 |true=>
  show(binOp .eql t va a).run prog w'=_
  simp_all
 |false=>
  show(binOp .neq t va a).run prog w'=_
  simp_all
include hr hE
theorem YZ {D:TypeId} (ht:prog.underlying t=some .bool) (h:(Ui (eqC q) m x y).f ih e σ c=res):xs prog fD fC [] gp.gL full (Good w0 ρ c res env (some d)) [⟨some d,.binOp (qi q) t x y D,ty,pos,af,none⟩] env w:=by
 obtain⟨a,b,va,F,h1,E,s,u,h⟩:=two hr hE h
 have key:∀p r:Bool,va= .bool p->F= .bool r->c (.v (.b (q==(p==r)))) σ=res->xs prog fD fC [] gp.gL full (Good w0 ρ c res env (some d)) [⟨some d,.binOp (qi q) t x y D,ty,pos,af,none⟩] env w:=λp r g n h=>by
  subst g;subst n;exact QV hM h1 E (eqGuard_at_bool ..) fx fx (by grind [run_equalIn_bool]) h
 rcases uy hr h with⟨g,C⟩|⟨g,C⟩<;>rcases uy hr C with⟨n,B⟩|⟨n,B⟩<;>rw[qR]at B<;>subst g<;>subst n
 ·exact key true true s u mu
 ·exact key true false s u (by cases q<;>exact B)
 ·exact key false true s u (by cases q<;>exact B)
 ·exact key false false s u mu
theorem aaK (ht:prog.underlying t=some (.pointer el)) (h:(Ui (eqQ q) m x y).f ih e σ c=res):xs prog fD fC [] gp.gL full (Good w0 ρ c res env (some d)) [⟨some d,.binOp (qi q) t x y F,ty,pos,af,none⟩] env w:=by
 obtain⟨a,b,va,E,h1,u,v,B,h⟩:=two hr hE h;rcases KZ hr h with⟨C,D⟩|⟨id,o,C,D⟩<;>rcases KZ hr D with⟨e4,g⟩|⟨G,o',e4,g⟩<;>subst C<;>subst e4
 ·have n:va= .pointer none:=v;have s:E= .pointer none:=B;subst n;subst s;rw[qR]at g;exact QV (r:=true) hM h1 u (by simp_all [eqGuard,qi]) fx fx (λw'=>KJ ht 9999 _ _ fx w') mu
 ·obtain⟨p,_,rfl⟩:=B;have n:va= .pointer none:=v;subst n;exact y41
 ·obtain⟨p,_,rfl⟩:=v;have s:E= .pointer none:=B;subst s;exact y41
 ·exact absurd g.symm hr
theorem aae {ms:Array (String×TypeId)} (ht:prog.underlying t=some (.interface ms)) (h:(X8 q m x y).f ih e σ c=res):xs prog fD fC [] gp.gL full (Good w0 ρ c res env (some d)) [⟨some d,.binOp (qi q) t x y C,ty,pos,af,none⟩] env w:=by
 unfold X8 at h;split at h
 ·obtain⟨a,v,h1,s,u⟩:=gk hr hE h;obtain⟨n,B⟩:=Tb hr u;subst n;have g:v= .nilIface:=s;subst g;rw[qR]at B;exact QV (r:=true) hM h1 fx (by cases q<;>cases x<;>rfl) fx fx (by grind [S7]) mu
 ·exact absurd h.symm hr
theorem ZJ (ht:prog.underlying t=some (.slice el)) (h:(Ui (eqZ q) m x y).f ih e σ c=res):xs prog fD fC [] gp.gL full (Good w0 ρ c res env (some d)) [⟨some d,.binOp (qi q) t x y C,ty,pos,af,none⟩] env w:=by
 obtain⟨a,b,va,H,h1,F,B,G,h⟩:=two hr hE h;rcases kL hr h with⟨u,s⟩|⟨id,z,j,n,u,s⟩|⟨id,z,j,n,k,u,s⟩|⟨_,_,_,_,u,s⟩|⟨l,u,s⟩|⟨id,o,u,s⟩
 ·subst u;have E:H= .slice none 0 0:=G;subst E
  have key:∀(A:Option Addr) (n k:Nat),va= .slice A n k->c (.v (.b (q==A.isNone))) σ=res->xs prog fD fC [] gp.gL full (Good w0 ρ c res env (some d)) [⟨some d,.binOp (qi q) t x y C,ty,pos,af,none⟩] env w:=λA n k D h=>by
   subst D;exact QV (r:=A.isNone) hM h1 F (eqGuard_at_slice ..) fx fx (by grind [SF]) h
  rcases kL hr s with⟨e4,g⟩|⟨id,z,j,n,e4,g⟩|⟨id,z,j,n,k,e4,g⟩|⟨_,_,_,_,e4,g⟩|⟨l,e4,g⟩|⟨id,o,e4,g⟩<;>subst e4
  ·rw[qR]at g;exact key none 0 0 B mu
  ·obtain⟨p,_,_,_,_,rfl⟩:=B;rw[qR]at g;exact key _ _ _ fx (by cases q<;>exact g)
  ·obtain⟨p,_,_,_,rfl⟩:=B;rw[qR]at g;exact key _ _ _ fx (by cases q<;>exact g)
  ·exact absurd g.symm hr
  ·exact absurd g.symm hr
  ·exact absurd g.symm hr
 ·exact absurd s.symm hr
 ·exact absurd s.symm hr
 ·exact absurd s.symm hr
 ·exact absurd s.symm hr
 ·exact absurd s.symm hr
theorem U6 {I:TypeId} {fl:List Bool} (ht:peq t=some fl) (h:(Ui (eqG fl q) m x y).f ih e σ c=res):xs prog fD fC [] gp.gL full (Good w0 ρ c res env (some d)) [⟨some d,.binOp (qi q) t x y I,ty,pos,af,none⟩] env w:=by
 obtain⟨a,b,va,J,h1,C,D,E,h⟩:=two hr hE h;obtain⟨la,g,s⟩:=ql hr h;obtain⟨lb,n,F⟩:=ql hr s;clear h s;subst g;subst n;have h:=F;obtain⟨v,G,rfl⟩:=D;obtain⟨B,H,rfl⟩:=E;unfold oB at h;split at h
 ·rename_i r he;rw[qR,xa]at h;have u:=λw'=>Ty ht G H he w'
  refine gR fx (by simp[fX,Op.operands,h1,C]) ⟨.bool (q==r),λw'=>?_,_,σ,ρ,_,h,Up.refl ρ,rfl,hM,rfl⟩;have g:=run_eqGuard_agg (P:=prog) w' (qi q) t x y v.toArray B.toArray (u w').1
  have n:(binOp (qi q) t (.agg v.toArray) (.agg B.toArray)).run prog w'= .ok (.bool (q==r)) w':=by
   cases q with
   |true=>
    show(binOp .eql t _ _).run prog w'=_
    rw[run_eql_struct w',(u w').2];cases r<;>rfl
   |false=>
    show(binOp .neq t _ _).run prog w'=_
    simp_all [run_neq_struct]
  simp_all [execOp,fM]
 ·exact absurd h.symm hr
theorem YR (h:(Yn q m t x y).f ih e σ c=res):xs prog fD fC [] gp.gL full (Good w0 ρ c res env (some d)) [⟨some d,.binOp (qi q) t x y u,ty,pos,af,none⟩] env w:=by
 have v:(Zn eI eU q m x y).f ih e σ c=res->xs prog fD fC [] gp.gL full (Good w0 ρ c res env (some d)) [⟨some d,.binOp (qi q) t x y u,ty,pos,af,none⟩] env w:=λh=>by
  refine WK hr hE hM (λk a b w'=>?_) (λa b n s=>?_) (λa b n s w'=>?_) h
  ·rw[US];cases q with
   |true=>simp[qi,binOp,Op.intCmp];grind
   |false=>simp[qi,binOp,Op.intCmp];grind
  ·rw[OO n s];cases q<;>simp_all [qi,hZ]
  grind [US,vp,compare,qi,binOp,Op.floatCmp,vC,cmp_eq,decide]
 unfold Yn at h;split at h
 ·rename_i ht;exact YZ hr hE hM ht h
 ·rename_i el ht;exact aaK hr hE hM ht h
 ·rename_i el ht;exact ZJ hr hE hM ht h
 ·rename_i ms ht;exact aae hr hE hM ht h
 ·split at h
  ·rename_i g;exact U6 hr hE hM g h
  ·exact absurd h.symm hr
 ·split at h
  ·rename_i g;exact U6 hr hE hM g h
  ·exact absurd h.symm hr
 ·exact v h
theorem ZY {op:BinOp} {v:TypeId} (h:(biW m t op x y).f ih e σ c=res):xs prog fD fC [] gp.gL full (Good w0 ρ c res env (some d)) [⟨some d,.binOp op t x y v,ty,pos,af,none⟩] env w:=by
 cases op with
 |add=>exact Zk (g:=λa b=>a+b) hr hM hE (by simp_all [binOp,Op.intArith]) (acD hr hE hM (aau hr hE hM)) h
 |sub=>exact Zt hr hE hM h
 |mul=>exact Zk (g:=Int.mul) hr hM hE (by simp_all [binOp,Op.intArith]) (acM hr hE hM (by simp_all [binOp,Op.intArith]) (λa b=>rfl)) h
 |quo=>exact Y8 hr hE hM h
 |rem=>exact aai hr hM hE (aaZ hr hE hM) h
 |and=>exact LY hr hE hM (.inl rfl) (λn s=>⟨(wK n s).1,(wK n s).2.2.2.1⟩) h
 |or=>exact Vk hr hM hE (.inr (.inl rfl)) (λn s=>⟨(wK n s).2.1,(wK n s).2.2.2.2.1⟩) (LY hr hE hM (.inr (.inl rfl)) (by simp_all [wK])) h
 |xor=>exact Vk hr hM hE (.inr (.inr rfl)) (λn s=>⟨(wK n s).2.2.1,(wK n s).2.2.2.2.2⟩) (LY hr hE hM fS (by simp_all [wK])) h
 |andNot=>exact LY hr hE hM fS (by grind [aad]) h
 |shl=>exact YN hr hM hE (aaX hr hE hM) h
 |shr=>exact aaY hr hM hE (aaF hr hE hM) h
 |eql=>
  have u:(Yn true m t x y).f ih e σ c=res:=h;exact YR (q:=true) hr hE hM u
 |neq=>
  have u:(Yn false m t x y).f ih e σ c=res:=h;exact YR (q:=false) hr hE hM u
 |lss=>
  refine WK hr hE hM (λk a b w'=>?_) (λa b n s=>?_) (λa b n s w'=>?_) h
  ·rw[tZ];simp[binOp,Op.intCmp]
  ·simp_all [yO,hZ]
  grind [tZ,vp,compare,binOp,Op.floatCmp,vC,O1]
 |geq=>
  refine WK hr hE hM (λk a b w'=>?_) (λa b n s=>?_) (λa b n s w'=>?_) h
  ·rw[tZ];simp[binOp,Op.intCmp];grind
  ·simp_all [yO,hZ]
  grind [tZ,vp,compare,binOp,Op.floatCmp,vC,Pk,cmp_eq]
 |gtr=>
  refine Zv hr hE hM (λk a b w'=>?_) (λa b n s=>?_) (λa b n s w'=>?_) h
  ·rw[tZ];simp[binOp,Op.intCmp]
  ·grind [yO,JX,jD,hZ]
  grind [tZ,vp,compare,binOp,Op.floatCmp,vC,Pk]
 |leq=>
  refine Zv hr hE hM (λk a b w'=>?_) (λa b n s=>?_) (λa b n s w'=>?_) h
  ·rw[tZ];simp[binOp,Op.intCmp];grind
  ·grind [yO,JX,jD,hZ]
  grind [tZ,vp,compare,binOp,Op.floatCmp,vC,O1,cmp_eq]
end
end
section
theorem kc {t:Nat} (h:size t=some z):(∃i,prog.info? t=some i/\i.size=z)/\((one t=true/\z=1)∨(one t=false/\get ks t=some z)):=by
 grind [size,Option.some.inj,mX,kD]
theorem DK {t:Nat} (h:arr t=some (n,z)):∃e,prog.underlying t=some (.array n e)/\size e=some z:=by
 unfold arr at h
 grind
theorem iR (h:elemOf t=some (el,z)):prog.underlying t=some (.slice el)/\size el=some z:=by
 unfold elemOf at h
 grind
theorem Di (h:one t=true) (w':World):(isAgg t).run prog w'= .ok false w':=by
 obtain⟨⟨f,h1,a,d⟩,_⟩:=mX h
 simp_all [isAgg,sD,sM,run_underlying,absurd]
theorem Ng {t:Nat} (h:get ks t=some n) (w':World):(isAgg t).run prog w'= .ok true w':=by
 obtain⟨h1|h1,_⟩:=kD h
 ·obtain⟨fs,h1⟩:=h1
  simp_all [isAgg,run_underlying]
 ·obtain⟨m,e,h1⟩:=h1
  simp_all [isAgg,run_underlying]
theorem yN (h:one u=true) {o:Nat} (a:cs[o]? =some v) (w':World):(part u cs o).run prog w'= .ok v w':=by
 simp[part,Di h,a]
theorem GD {u:Nat} (h:get ks u=some n) (vs:List Value) (o:Nat) (w':World):(part u vs.toArray o).run prog w'= .ok (.agg ((vs.drop o).take n).toArray) w':=by
 obtain⟨_,i,a,d⟩:=kD h
 simp_all [Gh,List.take_drop,part,sizeOf,typeInfo,Ng]
theorem rP (h:zA t=some l):∃i v,prog.info? t=some i/\i.zero=some v/\jU ρ l v.cells.toList:=by
 unfold zA at h;split at h
 ·rename_i v f;cases hi:prog.info? t with
  |none=>grind
  | some i=>
   rw[hi]at f;refine⟨i,v,rfl,f,?_⟩;unfold cA at h;split at h
   ·rename_i x a;obtain rfl:=jk h;split at a
    ·grind
    ·split at a
     ·rename_i y d;injection a with a;injection a with a;subst a
      have h1:SR ρ y v:=Aq d;rw[h1.cells];exact .cons ⟨VQ d,h1⟩ .nil
     ·cases a
   ·rename_i x a;obtain rfl:=jk h;split at a
    ·rename_i cs;split at a
     ·rename_i l' g;injection a with a;injection a with a;subst a
      exact yY g
     ·cases a
    grind
   ·cases h
 ·cases h
theorem Dh (off:Nat):∀(c:List Value) (k:Nat) (xs:List Value),off+k+c.length<=xs.length->(c.zipIdx k).foldl (λ(cs:List Value) (p:Value×Nat)=>cs.set (off+p.2) p.1) xs=xs.take (off+k)++(c++xs.drop (off+k+c.length))
 |[],k,xs,h=>by simp
 | v::c,k,xs,h=>by
  have g:off+k<xs.length:=by simp at h;omega
  have e:xs.set (off+k) v=xs.take (off+k)++v::xs.drop (off+k+1):=by grind [List.set_eq_take_append_cons_drop]
  have a:(xs.take (off+k)).length=off+k:=by simp;omega
  rw[F9,u3,Dh off c (k+1) _ fS,e];generalize xs.take (off+k)=A at a⊢
  have d:List.take (off+(k+1)) (A++v::xs.drop (off+k+1))=A++[v]:=by
   rw[Q4,a,pG fy,show off+(k+1)-(off+k)=1 by omega];rfl
  have f:List.drop (off+(k+1)+c.length) (A++v::xs.drop (off+k+1))=xs.drop (off+k+(c.length+1)):=by
   rw[EP,a,yE fy,show off+(k+1)+c.length-(off+k)=c.length+1 by omega,RG,rb,vD]
   congr 1
   omega
  simp_all
theorem MH (off:Nat) (c:List Value) (xs:Array Value) (h:off+c.length<=xs.size):((c.zipIdx 0).foldl (λ(cs:Array Value) (p:Value×Nat)=>cs.setIfInBounds (off+p.2) p.1) xs).toList=xs.toList.take off++(c++xs.toList.drop (off+c.length)):=by
 have e:∀(l:List (Value×Nat)) (xs:Array Value),(l.foldl (λ(cs:Array Value) (p:Value×Nat)=>cs.setIfInBounds (off+p.2) p.1) xs).toList=l.foldl (λ(cs:List Value) (p:Value×Nat)=>cs.set (off+p.2) p.1) xs.toList:=λl=>by
  induction l<;>grind
 simp_all [Dh]
theorem NR {place:Nat->Option (Nat×Nat)} {i off size:Nat} {cells:List Value} {rest:List (Nat×Value)} (a:place i=some (off,size)) (hs:v.cells.size=size) (d:off+size<=cells.length):
  Instr.fill place cells.toArray ((i,v)::rest)=Instr.fill place (cells.take off++(v.cells.toList++cells.drop (off+size))).toArray rest:=by
 rw[Instr.fill,a];simp only;rw[if_neg (by simp[hs];omega)]
 congr 1
 have h:=MH off v.cells.toList cells.toArray (by simp[hs];omega);apply Gh;rw[←Array.foldl_toList]
 grind
theorem Cy {f g:Nat->Option (Nat×Nat)} (d:∀i p,f i=some p->g i=some p):∀{l:List (Nat×Value)} {cs a:Array Value},Instr.fill f cs l=some a->Instr.fill g cs l=some a
 |[],cs,a,h=>h
 | (i,v)::l,cs,a,h=>by
  rw[Instr.fill]at h⊢;split at h
  ·cases h
  ·rename_i off size hi;rw[d i _ hi];simp only;split at h
   ·cases h
   ·rename_i hc;rw[if_neg hc];exact Cy d h
theorem FT {α β:Type} {g:α->Option β}:∀{l:List α} {r:List β},l.mapM g=some r->∀{i:Nat} {x:α},l[i]? =some x->∀{p:β},g x=some p->r[i]? =some p
 |[],r,_,i,x,a,p,_=>by cases a
 | y::l,r,h,i,x,a,p,f=>by
  rw[List.mapM_cons]at h;simp only[bind,Option.bind_eq_some_iff,pure,C2]at h;obtain⟨b,h1,m,d,rfl⟩:=h;cases i with
  |zero=>
   grind
  |succ i=>exact FT d (i:=i) a f
section
variable {m:Nat} {ih:Cl} {e:En} {σ:Mem} {c:Kt} {res:Rs} {ρ:Pl} {env:Env} {w0:Fm} {w:World} {full:Array Oper} {d:Tmp} {ty:TypeId} {pos:String} {af:Array Edge} (hr:res≠ .no)
include hr
theorem pS {α:Type}:∀{l:List α} {i:Nat} {c:α->Rs},Mb l i c=res->∃x,l[i]? =some x/\c x=res
 |[],_,_,h=>absurd h.symm hr
 |x::_,0,_,h=>⟨x,rfl,h⟩
 |_::l,i+1,_,h=>pS (l:=l) (i:=i) h
theorem xV {env:Env} {off:Nat->Option (Nat×Nat)} (E:ER m ρ e env):∀{ps:List (Nat×Operand)} {l:List SV} {vs:List Value} {k:List SV->Rs},(Yv m off ps).f e l k=res->jU ρ l vs->∃t l' n,UO env ps=some t/\Instr.fill off vs.toArray t=some n.toArray/\jU ρ l' n/\n.length=vs.length/\k l'=res
 |[],l,vs,k,h,u=>⟨[],l,vs,rfl,rfl,u,rfl,h⟩
 | (i,x)::ps,l,vs,k,h,u=>by
  have d:(match off i with
   |some (o,z)=>(⟨λe l k=>(iz m x).f e λv=>TM v (λx=>YE x (jb (Nat.beq z 1) (jb (Nat.ble (Nat.add o 1) l.length) (fP (put l o [x]) λl=>(Yv m off ps).f e l k)))) λg=>jb (Nat.beq g.length z) (jb (Nat.ble (Nat.add o z) l.length) (fP (put l o g) λl=>(Yv m off ps).f e l k))⟩:Wps)
   |none=>⟨λ_ _ _=> .no⟩).f e l k=res:=h
  split at d
  ·rename_i o z Q;obtain⟨a,v,h1,B,d⟩:=gk hr E d
   have key:∀(g:List SV) (gs:List Value),jU ρ g gs->v.cells=gs.toArray->g.length=z->o+z<=l.length->(Yv m off ps).f e (put l o g) k=res->∃t l' n,UO env ((i,x)::ps)=some t/\Instr.fill off vs.toArray t=some n.toArray/\jU ρ l' n/\n.length=vs.length/\k l'=res:=λg gs w O s hle h=>by
    have N:=w.len;have R:=u.len
    have I:jU ρ (put l o g) (vs.take o++(gs++vs.drop (o+z))):=by
     unfold put;rw[s];exact(u.take o).app (w.app (u.drop (o+z)))
    obtain⟨t,l',n,J,K,L,M,e4⟩:=xV E h I
    grind [List.length,List.length_append,List.length_take,List.length_drop,UO,NR]
   rcases vB hr d with⟨y,rfl,d⟩|⟨g,rfl,d⟩
   ·obtain⟨H,F⟩:=fO d hr;obtain⟨s,G⟩:=fO F hr;obtain⟨C,D⟩:=fO G hr;rw[nF]at D;have s:=jd s;have C:o+1<=l.length:=mu;exact key [y] [v] (.cons ⟨H,B⟩ .nil) (SR.cells B) (by rw[s];rfl) (by rw[s];exact C) D
   ·obtain⟨s,d⟩:=fO d hr;obtain⟨C,d⟩:=fO d hr;rw[nF]at d;obtain⟨gs,w,rfl⟩:=B;exact key g gs w fx mu mu d
  grind
theorem Sk {l:List AV}:∀{vs:List Value} {k:List SV->Rs},scK l k=res->A1 ρ l vs->∃g,jU ρ g vs/\k g=res:=by
 induction l with
 |nil=>intro vs k h a;cases a;exact⟨[],.nil,h⟩
 | cons x l ih=>
  intro vs k h a;cases a with
  |cons h1 d=>
   rcases vB hr (show TM x (λx=>YE x (scK l λl=>k (x::l))) (λ_=> .no)=res from h)with⟨y,rfl,h⟩|⟨g,rfl,h⟩
   ·obtain⟨n,h⟩:=fO h hr;obtain⟨g,f,m⟩:=ih h d;exact⟨y::g,.cons ⟨n,h1⟩ f,m⟩
   grind
variable (hE:ER m ρ e env) (hM:MR w0 ρ σ w)
include hE
theorem rK:∀{l:List Operand} {k:List AV->Rs},(Pj m l).f e k=res->∃al vs,Ol env l=some vs/\A1 ρ al vs/\k al=res
 |[],k,h=>⟨[],[],rfl,.nil,h⟩
 |x::l,k,h=>by
  obtain⟨a,v,h1,d,h⟩:=gk hr hE (show(iz m x).f e _=res from h);obtain⟨al,vs,n,g,h⟩:=rK h;exact⟨a::al,v::vs,by grind [Ol],.cons d g,h⟩
include hM
theorem acg {s:Nat} (h:(Jz m (.fieldAddr s x f)).f ih e σ c=res):xs prog fD fC [] gp.gL full (Good w0 ρ c res env (some d)) [⟨some d,.fieldAddr s x f,ty,pos,af,none⟩] env w:=by
 have g:(match Nat.blt f 100 with
  |true=>fdW m x (fo s f)
  |false=>gL).f ih e σ c=res:=h
 split at g
 ·rename_i u;unfold fdW at g;split at g
  ·rename_i off y;rw[iJ]at g;obtain⟨a,v,h1,n,g⟩:=gk hr hE g;obtain⟨id,o,e0,h0⟩:=lz hr g;clear g;subst e0;have g:=h0;rw[gP]at g;obtain⟨p,t,rfl⟩:=n;exact Is h1 y u ⟨_,σ,ρ,_,g,Up.refl ρ,⟨p,t,rfl⟩,hM,rfl⟩
  ·exact absurd g.symm hr
 ·exact absurd g.symm hr
theorem ac8 {i:Operand} (h:(ixW m t x i).f ih e σ c=res):xs prog fD fC [] gp.gL full (Good w0 ρ c res env (some d)) [⟨some d,.indexAddr t x i,ty,pos,af,none⟩] env w:=by
 unfold ixW at h;split at h
 ·rename_i n z B;rw[iJ,iJ]at h;obtain⟨a,b,va,E,h1,s,u,y,h⟩:=two hr hE h;obtain⟨id,o,rfl,h⟩:=lz hr h;obtain⟨k,j,rfl,h⟩:=im hr h;obtain⟨C,h⟩:=fO h hr;have C:j+1<=n:=mu;rw[gP]at h;obtain⟨p,g,rfl⟩:=u;obtain⟨rfl,_⟩:=y;obtain⟨el,hu,v⟩:=DK B;obtain⟨⟨F,hi,D⟩,_⟩:=kc v;refine gR fx (by grind [fX,Op.operands]) ⟨.pointer (some ⟨p.b,o+j*z,none⟩),λw'=>?_,_,σ,ρ,_,h,Up.refl ρ,⟨p,g,rfl⟩,hM,rfl⟩;simp[execOp,fM h1,fM s,Instr.indexAt,asIntOf,Instr.sureAddr,run_underlying hu,sizeOf,typeInfo,hi,D,nf]
  grind
 ·split at h
  ·rename_i G v;rw[iJ]at h;obtain⟨a,b,va,E,h1,s,u,y,h⟩:=two hr hE h;obtain⟨k,q,rfl,h⟩:=im hr h;obtain⟨rfl,_⟩:=y;rcases kL hr h with⟨rfl,h⟩|⟨id,z,j,n,rfl,h⟩|⟨id,z,j,n,k,rfl,h⟩|⟨_,_,_,_,rfl,h⟩|⟨l,rfl,h⟩|⟨id,o,rfl,h⟩
   ·exact absurd h.symm hr
   ·obtain⟨hq,h⟩:=fO h hr;have hq:q+1<=n:=mu;rw[gP]at h;obtain⟨p,g,_,_,_,rfl⟩:=u;exact xix h1 s v fS fS ⟨_,σ,ρ,_,h,Up.refl ρ,⟨p,g,rfl⟩,hM,rfl⟩
   ·obtain⟨hq,h⟩:=fO h hr;have hq:q+1<=n:=mu;rw[gP]at h;obtain⟨p,g,_,_,rfl⟩:=u;exact xix h1 s v fS fS ⟨_,σ,ρ,_,h,Up.refl ρ,⟨p,g,rfl⟩,hM,rfl⟩
   ·exact absurd h.symm hr
   ·exact absurd h.symm hr
   ·exact absurd h.symm hr
  ·exact absurd h.symm hr
theorem adt {k:Nat} (h:(exW m x k).f ih e σ c=res):xs prog fD fC [] gp.gL full (Good w0 ρ c res env (some d)) [⟨some d,.extract x k,ty,pos,af,none⟩] env w:=by
 obtain⟨a,v,h1,u,h⟩:=gk hr hE (show(iz m x).f e _=res from h);obtain⟨l,rfl,h⟩:=UA hr h;obtain⟨y,B,h⟩:=pS hr h;obtain⟨vs,n,rfl⟩:=u
 have key:∀{l:List TV} {vs:List Value},Tj ρ l vs->∀{k:Nat} {y:TV},l[k]? =some y->∃v,vs[k]? =some v/\TR ρ y v:=λ{l vs} n=>by
  induction n<;>grind
 obtain⟨v,t,s⟩:=key n B;cases y with
 |v y=>exact H8 h1 (by simpa using t) ⟨_,σ,ρ,_,h,Up.refl ρ,s,hM,rfl⟩
 |g l=>exact H8 h1 (by simpa using t) ⟨_,σ,ρ,_,h,Up.refl ρ,s,hM,rfl⟩
theorem adP {k:Nat} (h:(flW m x (ux t k)).f ih e σ c=res):xs prog fD fC [] gp.gL full (Good w0 ρ c res env (some d)) [⟨some d,.field t x k,ty,pos,af,none⟩] env w:=by
 unfold flW at h;split at h
 ·rename_i o u B
  have D:∃fs f,prog.underlying t=some (.struct fs)/\fs[k]? =some f/\f.offset=o/\f.type=u:=by
   unfold ux at B;split at B
   ·grind
   ·cases B
  obtain⟨fs,f,hu,hk,rfl,rfl⟩:=D;split at h
  ·rename_i G;rw[iJ]at h;obtain⟨a,v,h1,g,h⟩:=gk hr hE h;obtain⟨l,rfl,h⟩:=ql hr h;obtain⟨y,E,h⟩:=pS hr h;obtain⟨vs,s,rfl⟩:=g;obtain⟨v,H,C⟩:=s.get _ _ E;refine gR fx (by grind [fX,Op.operands]) ⟨v,λw'=>?_,_,σ,ρ,_,h,Up.refl ρ,C.2,hM,rfl⟩
   simp_all [yN,execOp,Instr.field,asAgg,fM,run_underlying]
  ·split at h
   ·rename_i n F;rw[iJ,iJ]at h;obtain⟨a,v,h1,g,h⟩:=gk hr hE h;obtain⟨l,rfl,h⟩:=ql hr h;obtain⟨_,h⟩:=fO h hr;rw[nF]at h;obtain⟨vs,s,rfl⟩:=g;refine gR fx (by grind [fX,Op.operands]) ⟨.agg ((vs.drop f.offset).take n).toArray,λw'=>?_,_,σ,ρ,_,h,Up.refl ρ,⟨_,(s.drop _).take _,rfl⟩,hM,rfl⟩
    simp_all [GD,execOp,Instr.field,asAgg,fM,run_underlying]
   ·exact absurd h.symm hr
 ·exact absurd h.symm hr
theorem ad8 {i:Operand} (h:(elW m t x i).f ih e σ c=res):xs prog fD fC [] gp.gL full (Good w0 ρ c res env (some d)) [⟨some d,.index t x i,ty,pos,af,none⟩] env w:=by
 unfold elW at h;split at h
 ·rename_i n el hu;split at h
  ·rename_i I;rw[iJ]at h;obtain⟨a,b,va,J,h1,u,g,s,h⟩:=two hr hE h;obtain⟨l,rfl,h⟩:=ql hr h;obtain⟨k,j,rfl,h⟩:=im hr h;obtain⟨C,h⟩:=fO h hr;have C:j+1<=n:=mu;obtain⟨y,E,h⟩:=pS hr h;obtain⟨vs,g,rfl⟩:=g;obtain⟨rfl,_⟩:=s;obtain⟨v,L,s⟩:=g.get _ _ E;obtain⟨_,M,hi,F⟩:=mX I;refine gR fx (by grind [fX,Op.operands]) ⟨v,λw'=>?_,_,σ,ρ,_,h,Up.refl ρ,s.2,hM,rfl⟩;have:=yN I (cs:=vs.toArray) (o:=j) (by simpa using L) w';exact y49
  ·split at h
   ·rename_i z H;rw[iJ,iJ]at h;obtain⟨a,b,va,J,h1,u,g,s,h⟩:=two hr hE h;obtain⟨l,rfl,h⟩:=ql hr h;obtain⟨k,j,rfl,h⟩:=im hr h;obtain⟨C,h⟩:=fO h hr;have C:j+1<=n:=mu;obtain⟨_,h⟩:=fO h hr;rw[nF]at h;obtain⟨vs,g,rfl⟩:=g;obtain⟨rfl,_⟩:=s;obtain⟨_,M,hi,F⟩:=kD H;refine gR fx (by grind [fX,Op.operands]) ⟨.agg ((vs.drop (j*z)).take z).toArray,λw'=>?_,_,σ,ρ,_,h,Up.refl ρ,⟨_,(g.drop _).take _,rfl⟩,hM,rfl⟩;have:=GD H vs (j*z) w';exact y49
   ·exact absurd h.symm hr
 ·split at h
  ·rename_i G;obtain⟨a,b,va,J,h1,u,g,s,h⟩:=two hr hE h;split at h
   ·rename_i l D;obtain⟨k,j,rfl,h⟩:=im hr h;obtain⟨y,E,h⟩:=pS hr h;obtain rfl:=FG D;obtain⟨rfl,D,_⟩:=g;obtain⟨rfl,_⟩:=s;have hq:=D y fS;refine Sn (z:=oI ρ y) j G h1 u fx (by simp[E]) ?_;unfold byX at h;rw[me]at h;split at h
    ·rename_i B;have B:=iY B;rw[gP]at h;obtain⟨p,p1,p2⟩:=hq.resolve_left fy;refine⟨_,σ,ρ,_,h,Up.refl ρ,⟨p,p1,?_,by show p.b<=255;omega,rfl⟩,hM,rfl⟩
     have N:oI ρ y=UInt8.ofNat p.b:=by
      unfold oI;rw[if_neg fy,p1]
     simp_all [vI,ud]
    ·rename_i B
     have B:y<256:=by
      rw[nJ]at B;simpa using B
     refine⟨_,σ,ρ,_,h,Up.refl ρ,⟨?_,by show y<=255;omega⟩,hM,rfl⟩
     grind [oI,UInt8.ofNat,UInt8.toNat_ofNat',Nat.mod_eq_of_lt]
   obtain⟨l,rfl,h⟩:=ly hr h;obtain⟨k,j,rfl,h⟩:=im hr h;obtain⟨y,E,h⟩:=pS hr h;obtain⟨rfl,D,_⟩:=g;obtain⟨rfl,_⟩:=s;have O:y<256:=D y fS;refine Sn (z:=UInt8.ofNat y) j G h1 u fx (by simp[jD,E]) ⟨_,σ,ρ,_,h,Up.refl ρ,⟨?_,by show y<=255;omega⟩,hM,rfl⟩
   grind [UInt8.toNat_ofNat',Nat.mod_eq_of_lt]
  ·exact absurd h.symm hr
 ·exact absurd h.symm hr
theorem aer {ps:List (Nat×Operand)} (h:(buW m t ps).f ih e σ c=res):xs prog fD fC [] gp.gL full (Good w0 ρ c res env (some d)) [⟨some d,.build t ps.toArray,ty,pos,af,none⟩] env w:=by
 have key:∀{off:Nat->Option (Nat×Nat)},(∀i z s,prog.info? t=some i->i.zero=some z->∀cells,Instr.fill off z.cells s=some cells->prog.built t s=some cells)->(bdW m off ps (zA t)).f ih e σ c=res->xs prog fD fC [] gp.gL full (Good w0 ρ c res env (some d)) [⟨some d,.build t ps.toArray,ty,pos,af,none⟩] env w:=λ{off} Q h=>by
  unfold bdW at h;split at h
  ·rename_i z g;rw[rr]at h;obtain⟨i,v,hi,S,G⟩:=rP (ρ:=ρ) g;obtain⟨s,l',I,h1,M,D,_,h⟩:=xV hr hE h G;exact qv h1 mu ⟨_,σ,ρ,_,h,Up.refl ρ,⟨I,D,rfl⟩,hM,rfl⟩
  ·exact absurd h.symm hr
 unfold buW at h;split at h
 ·rename_i n z E;obtain⟨el,hu,g⟩:=DK E;obtain⟨⟨T,F,H⟩,_⟩:=kc g;refine key (λi J s hi B cells y=>?_) h;unfold Program.built;simp only[hi,hu,B,F,H];exact y
 ·split at h
  ·rename_i fs hu;split at h
   ·rename_i K x;refine key (λi J s hi B cells y=>?_) h;unfold Program.built at x⊢;simp only[hi,hu,B]at x⊢;split at x
    ·rename_i V pl C L;obtain rfl:=jk C;refine Cy (λj q hq=>?_) y;unfold aax at hq;split at hq
     ·rename_i o u a;unfold ux at a;rw[hu]at a;simp only at a;split at a
      ·rename_i f N;obtain⟨rfl,rfl⟩:=Prod.mk.inj (jk a);split at hq
       ·rename_i z g;obtain rfl:=jk hq;obtain⟨⟨U,O,R⟩,_⟩:=kc g
        grind [FT]
       ·cases hq
      ·cases a
     ·cases hq
    ·cases x
   ·exact absurd h.symm hr
  ·exact absurd h.symm hr
omit hr hE hM in
theorem aaN {H:World->Prop} {K:Env->World->Prop} {f:FuncId} {a:List Operand} (hc:Ol env a=some vs) (h:xs prog fD fC hs H full K rest ((d,.func (.func f) #[] vs.toArray)::env) w):
  xs prog fD fC hs H full K (⟨some d,.makeFunc (.func f) #[] a.toArray,ty,pos,af,none⟩::rest) env w:=by
 obtain⟨h1,g⟩:=n4 hc;refine gR fx (by grind [fX,Op.operands]) ⟨_,λw'=>?_,h⟩;simp[execOp,Instr.makeFunc,h1]
theorem acV {fn:Fn} {a b:List Operand} (h:(mfW m fn a b).f ih e σ c=res):xs prog fD fC [] gp.gL full (Good w0 ρ c res env (some d)) [⟨some d,.makeFunc fn a.toArray b.toArray,ty,pos,af,none⟩] env w:=by
 unfold mfW at h;split at h
 ·split at h
  ·obtain⟨al,vs,h1,n,h⟩:=rK hr hE fy;obtain⟨g,s,h⟩:=Sk hr h n;exact aaN h1 ⟨_,σ,ρ,_,h,Up.refl ρ,⟨vs,s,rfl⟩,hM,rfl⟩
  ·exact absurd h.symm hr
 ·exact absurd h.symm hr
end
end
section
def mnB:Bool->Builtin
 |true=> .max
 |false=> .min
def Bnd (env:Env) (x:Option Operand) (a b:Nat):Prop:=(x=none/\b=a)∨∃o k,x=some o/\gh env o=some (.int k (b:Int))
theorem XS {zs:fQ} {lo hi:Option Value} {l h:Nat} (hu:prog.underlying t=some .string)
  (f:lo=none/\l=0∨∃k,lo=some (.int k (l:Int))) (d:hi=none/\h=zs.length∨∃k,hi=some (.int k (h:Int))) (h1:l<=h) (a:h<=zs.length) (w:World):
  (Instr.sliceAt t (.string (su zs)) lo hi none).run prog w= .ok (.string (su ((zs.drop l).take (h-l)))) w:=by
 rw[←vP]
 rcases f with⟨rfl,rfl⟩|⟨k,rfl⟩<;>rcases d with⟨rfl,rfl⟩|⟨g,rfl⟩<;>
  simp[Instr.sliceAt,Instr.slice,run_underlying hu,Instr.sliceBounds,Instr.sliceBound,asIntOf,ko,h1,a]
 rw[vP];simp
theorem W6 {o:Nat} {i:TypeInfo} {lo hi:Option Value} {l h:Nat} (hu:prog.underlying t=some (.array n el)) (f:prog.info? el=some i)
  (g:lo=none/\l=0∨∃k,lo=some (.int k (l:Int))) (d:hi=none/\h=n∨∃k,hi=some (.int k (h:Int))) (h1:l<=h) (a:h<=n) (w:World):
  (Instr.sliceAt t (.pointer (some ⟨b,o,none⟩)) lo hi none).run prog w= .ok (.slice (some (if n=l then⟨b,o,none⟩else⟨b,o+l*i.size,none⟩)) (h-l) (n-l)) w:=by
 rcases g with⟨rfl,rfl⟩|⟨k,rfl⟩<;>rcases d with⟨rfl,rfl⟩|⟨m,rfl⟩<;>
  simp[Instr.sliceAt,run_underlying hu,Instr.sureAddr,Instr.sliceBounds,Instr.sliceBound,asIntOf,sizeOf,typeInfo,f,h1,a,nf]
theorem Jd {lo hi:Option Operand} {n:Value} {d:Tmp} {db:Nat} (s:gh env x=some n) (g:Bnd env lo f a) (m:Bnd env hi db b):fX env ⟨some d,.slice t x lo hi none,ty,pos,af,none⟩=true/\(lo.map (ev env)=none/\a=f∨∃k,lo.map (ev env)=some (.int k (a:Int)))/\(hi.map (ev env)=none/\b=db∨∃k,hi.map (ev env)=some (.int k (b:Int))):=by
 rcases g with⟨rfl,rfl⟩|⟨v,u,rfl,g⟩<;>rcases m with⟨rfl,rfl⟩|⟨w,kb,rfl,m⟩<;>grind [fX,Op.operands,fM]
section
variable {m:Nat} {ih:Cl} {e:En} {σ:Mem} {c:Kt} {res:Rs} {ρ:Pl} {env:Env} {w0:Fm} {w:World} {full:Array Oper} {d:Tmp} {ty:TypeId} {pos:String} {af:Array Edge} (hr:res≠ .no)
include hr
theorem PD (u:MR w0 ρ σ w) {id:Nat} (f:ρ[id]? =some p) (g:p.z=z) (hc:j+n<=p.c) (hm:p.c<=maxLen) (h:ZV σ c id z j n a b=res):a<=b/\b<=p.c-j/\∃y,c (.v y) σ=res/\SR ρ y (.slice (if p.c-j=a then some ⟨p.b,j*z,none⟩else some ⟨p.b,j*z+a*z,none⟩) (b-a) (p.c-j-a)):=by
 obtain⟨h1,g1⟩:=fO h hr;have h1:=iY h1;refine⟨h1,?_⟩;have B:j*z+a*z=(j+a)*z:=by rw[tG]
 rw[me]at g1;split at g1
 ·rename_i s;have s:b<=n:=mu;refine⟨fy,?_⟩;rw[me,me,gP,gP]at g1;split at g1
  ·rename_i d;have d:a+1<=n:=mu;refine⟨_,g1,p,f,g,by grind,hm,?_⟩
   grind
  ·rename_i d
   have d:n=a:=by
    rw[nJ]at d;have:¬Nat.add a 1<=n:=by simpa using d
    have:¬a+1<=n:=this;omega
   split at g1
   ·rename_i h0;have h0:=jd h0;have C:b=0:=fy;refine⟨_,g1,p,f,g,fy,hm,?_⟩
    grind
   ·refine⟨_,g1,p,f,hm,?_⟩
    grind
 ·obtain⟨t,g2⟩:=fO g1 hr;obtain⟨m,g3⟩:=fO g2 hr;have t:a+1<=b:=mu;have m:1<=z:=mu;obtain⟨D,l,k1,k2,k3,g4⟩:=l6 hr g3;have k4:=k3 0 fV;rw[kS]at k4;cases l with
  |nil=>cases k2
  |cons x l=>
   have k4:hY σ id ((j+b)*z-1)=some x:=k4;obtain⟨q,_,cs,v,q1,_,_,q2,q3,_⟩:=u.at_ k4;rw[f]at q1;obtain rfl:=jk q1;have q4:=(JZ.1 q3).1;rw[←q2,g]at q4;have q5:(j+b)*z<=p.c*z:=fy;have q6:j+b<=p.c:=Nat.le_of_mul_le_mul_right q5 m;refine⟨fy,?_⟩;rw[gP,gP]at g4;refine⟨_,g4,p,f,g,by grind,hm,?_⟩
   grind
theorem uh {id k:Nat} (g:ρ[id]? =some p) (hm:k<=maxLen) (h:Rz σ c id z j k a b=res):a<=b/\b<=k/\∃y,c (.v y) σ=res/\SR ρ y (.slice (if k=a then some ⟨p.b,j*z,none⟩else some ⟨p.b,j*z+a*z,none⟩) (b-a) (k-a)):=by
 obtain⟨h1,g1⟩:=fO h hr;obtain⟨f,g2⟩:=fO g1 hr;have h1:=iY h1;have f:=iY f;refine⟨h1,f,?_⟩;rw[me,gP,gP,gP]at g2;have m:j*z+a*z=(j+a)*z:=by rw[tG]
 split at g2
 ·rename_i d;have d:a+1<=k:=mu;refine⟨_,g2,p,g,by grind,by grind,?_⟩
  grind
 ·rename_i d
  have d:k=a:=by
   rw[nJ]at d;have:¬Nat.add a 1<=k:=by simpa using d
   have:¬a+1<=k:=this;omega
  refine⟨_,g2,p,g,gJ _,iy _,?_⟩
  grind
variable (hE:ER m ρ e env) (hM:MR w0 ρ σ w)
include hE
theorem l4 {x:Option Operand} {d:Nat} {k:Nat->Rs} (h:(ML m x).f e d k=res):∃b,Bnd env x d b/\k b=res:=by
 unfold ML at h;split at h
 ·exact⟨d,.inl ⟨rfl,rfl⟩,h⟩
 ·rename_i o;obtain⟨a,v,h1,g,h⟩:=gk hr hE h;obtain⟨n,b,e0,h0⟩:=im hr h;subst e0;have h:=h0;exact⟨b,.inr ⟨o,n,rfl,by rw[h1,g.1];rfl⟩,h⟩
include hM
theorem adz {lo hi ab:Option Operand} (h:(slW m t x lo hi ab).f ih e σ c=res):xs prog fD fC [] gp.gL full (Good w0 ρ c res env (some d)) [⟨some d,.slice t x lo hi ab,ty,pos,af,none⟩] env w:=by
 unfold slW at h;split at h
 ·rename_i ad;split at h
  ·obtain⟨q,v,h1,B,h⟩:=gk hr hE h;obtain⟨a,E,h⟩:=l4 hr hE h;obtain⟨l,e0,h0⟩:=ly hr h;subst e0;have h:=h0;rw[gP]at h;obtain⟨b,g,h⟩:=l4 hr hE h;obtain⟨s,h⟩:=fO h hr;obtain⟨V,h⟩:=fO h hr;rw[nF]at h;have s:=iY s;have V:=iY V;obtain⟨rfl,S,T⟩:=B;obtain⟨L,Q,N⟩:=Jd (t:=t) (d:=d) (ty:=ty) (pos:=pos) (af:=af) h1 E g;have hlen:(jD l).length=l.length:=by simp[jD]
   refine gR fx L ⟨_,λw'=>?_,_,σ,ρ,_,h,Up.refl ρ,⟨rfl,fS,?_⟩,hM,rfl⟩
   ·have:=XS (zs:=jD l) (hR ad) Q (by rw[hlen];exact N) s (by rw[hlen];exact V) w'
    simp_all [jD,List.take,List.drop,CQ,OL,execOp,fM]
   ·rw[kt,lH];omega
  ·exact absurd h.symm hr
 ·split at h
  ·rename_i ap Y;rw[iJ]at h;obtain⟨el,i,hu,G,X⟩:=mL Y;split at h
   ·obtain⟨q,v,h1,B,h⟩:=gk hr hE h;obtain⟨a,E,h⟩:=l4 hr hE h
    have go:∀(A:Option Addr) (n k b:Nat) (y:SV),v= .slice A n k->Bnd env hi n b->a<=b->b<=k->c (.v y) σ=res->SR ρ y (.slice (if k=a then A else A.map (·.add (a*i.size))) (b-a) (k-a))->xs prog fD fC [] gp.gL full (Good w0 ρ c res env (some d)) [⟨some d,.slice t x lo hi none,ty,pos,af,none⟩] env w:=λA n k b y ag g s F hc D=>by
     subst ag;obtain⟨L,Q,N⟩:=Jd (t:=t) (d:=d) (ty:=ty) (pos:=pos) (af:=af) h1 E g;refine gR fx L ⟨_,λw'=>?_,_,σ,ρ,_,hc,Up.refl ρ,D,hM,rfl⟩;have:=Am (A:=A) (n:=n) (c:=k) hu G Q N s F w'
     simp_all [execOp,fM]
    rcases kL hr h with⟨e0,h0⟩|⟨id,z,j,n,e0,h0⟩|⟨id,z,j,n,k,e0,h0⟩|⟨_,_,_,_,e0,h0⟩|⟨l,e0,h0⟩|⟨id,o,e0,h0⟩<;>(subst e0;have h:=h0)
    ·obtain⟨b,g,h⟩:=l4 hr hE h;obtain⟨S,h⟩:=fO h hr;obtain⟨T,h⟩:=fO h hr;have S:=jd S;have T:=jd T;subst S;subst T;exact go none 0 0 0 .l0 B g (gJ _) (gJ _) h fx
    ·obtain⟨u,h⟩:=fO h hr;have u:=jd u;obtain⟨b,g,h⟩:=l4 hr hE h;obtain⟨p,C,aa,Z,hm,rfl⟩:=B;obtain⟨s,U,y,h,D⟩:=PD hr hM C aa Z hm h;refine go _ n (p.c-j) b y fx g s fy h ?_
     grind [Addr.add_lit]
    ·obtain⟨u,h⟩:=fO h hr;have u:=jd u;obtain⟨b,g,h⟩:=l4 hr hE h;obtain⟨p,C,ae,hm,rfl⟩:=B;obtain⟨s,U,y,h,D⟩:=uh hr C hm h;refine go _ n k b y fx g s U h ?_
     grind [Addr.add_lit]
    ·exact absurd h.symm hr
    ·exact absurd h.symm hr
    ·exact absurd h.symm hr
   ·rename_i ao;split at h
    ·rename_i L;obtain⟨q,v,h1,B,h⟩:=gk hr hE h;obtain⟨a,E,h⟩:=l4 hr hE h;obtain⟨b,g,h⟩:=l4 hr hE h;obtain⟨k,hk,h⟩:=l4 hr hE h;rcases kL hr h with⟨e0,h0⟩|⟨id,z,j,n,e0,h0⟩|⟨id,z,j,n,q0,e0,h0⟩|⟨_,_,_,_,e0,h0⟩|⟨l,e0,h0⟩|⟨id,o,e0,h0⟩<;>(subst e0;have h:=h0)
     ·exact absurd h.symm hr
     ·obtain⟨u,h⟩:=fO h hr;have u:=jd u;obtain⟨K,h⟩:=fO h hr;have K:=iY K;obtain⟨p,C,aa,Z,hm,rfl⟩:=B;obtain⟨s,F,y,M,D⟩:=uh hr C fy h;rcases g with⟨g,_⟩|⟨ak,kb,g,I⟩
      ·cases g
      ·injection g with g;subst g
       rcases hk with⟨hk,_⟩|⟨al,ai,hk,J⟩
       ·cases hk
       ·injection hk with hk;subst hk
        have R:SR ρ y (.slice (if k=a then some ⟨p.b,j*z,none⟩else(some (⟨p.b,j*z,none⟩:Addr)).map (·.add (a*i.size))) (b-a) (k-a)):=by
         rw[X,←u];simpa[nf]using D
        have O:k<=p.c-j:=fy;rcases E with⟨rfl,rfl⟩|⟨aj,ah,rfl,H⟩
        ·refine gR fx (by grind [fX,Op.operands]) ⟨_,λw'=>?_,_,σ,ρ,_,M,Up.refl ρ,R,hM,rfl⟩;simp[execOp,fM h1,fM I,fM J,Instr.sliceAt,Instr.slice,run_underlying hu,Instr.sliceBounds,Instr.sliceBound,asIntOf,sizeOf,typeInfo,G,F,O]
        ·refine gR fx (by simp_all [fX,Op.operands]) ⟨_,λw'=>?_,_,σ,ρ,_,M,Up.refl ρ,R,hM,rfl⟩;simp[execOp,fM h1,fM H,fM I,fM J,Instr.sliceAt,Instr.slice,run_underlying hu,Instr.sliceBounds,Instr.sliceBound,asIntOf,sizeOf,typeInfo,G,s,F,O]
     ·obtain⟨u,h⟩:=fO h hr;have u:=jd u;obtain⟨K,h⟩:=fO h hr;have K:=iY K;obtain⟨p,C,ae,hm,rfl⟩:=B;obtain⟨s,F,y,M,D⟩:=uh hr C fy h;rcases g with⟨g,_⟩|⟨ak,kb,g,I⟩
      ·cases g
      ·injection g with g;subst g
       rcases hk with⟨hk,_⟩|⟨al,ai,hk,J⟩
       ·cases hk
       ·injection hk with hk;subst hk
        have R:SR ρ y (.slice (if k=a then some ⟨p.b,j*z,none⟩else(some (⟨p.b,j*z,none⟩:Addr)).map (·.add (a*i.size))) (b-a) (k-a)):=by
         rw[X,←u];simpa[nf]using D
        have O:k<=q0:=K;rcases E with⟨rfl,rfl⟩|⟨aj,ah,rfl,H⟩
        ·refine gR fx (by grind [fX,Op.operands]) ⟨_,λw'=>?_,_,σ,ρ,_,M,Up.refl ρ,R,hM,rfl⟩;simp[execOp,fM h1,fM I,fM J,Instr.sliceAt,Instr.slice,run_underlying hu,Instr.sliceBounds,Instr.sliceBound,asIntOf,sizeOf,typeInfo,G,F,O]
        ·refine gR fx (by simp[fX,Op.operands,h1,H,I,J]) ⟨_,λw'=>?_,_,σ,ρ,_,M,Up.refl ρ,R,hM,rfl⟩;simp[execOp,fM h1,fM H,fM I,fM J,Instr.sliceAt,Instr.slice,run_underlying hu,Instr.sliceBounds,Instr.sliceBound,asIntOf,sizeOf,typeInfo,G,s,F,O]
     ·exact absurd h.symm hr
     ·exact absurd h.symm hr
     ·exact absurd h.symm hr
    ·exact absurd h.symm hr
  ·split at h
   ·rename_i n H;rw[iJ]at h;obtain⟨el,hu,Y⟩:=DK H;obtain⟨⟨an,G,X⟩,_⟩:=kc Y;obtain⟨q,v,h1,B,h⟩:=gk hr hE h;obtain⟨a,E,h⟩:=l4 hr hE h;obtain⟨b,g,h⟩:=l4 hr hE h;obtain⟨id,o,e0,h0⟩:=lz hr h;subst e0;have h:=h0;obtain⟨W,h⟩:=fO h hr;have W:=iY W;obtain⟨p,C,rfl⟩:=B;obtain⟨s,U,y,h,D⟩:=uh hr C W h;obtain⟨L,Q,N⟩:=Jd (t:=t) (d:=d) (ty:=ty) (pos:=pos) (af:=af) h1 E g;refine gR fx L ⟨_,λw'=>?_,_,σ,ρ,_,h,Up.refl ρ,D,hM,rfl⟩;have:=W6 (b:=p.b) (o:=o) hu G Q N s U w'
    by_cases am:n=a<;>simp_all [execOp,fM]
   ·exact absurd h.symm hr
theorem aem (h:(lnW m t x).f ih e σ c=res):xs prog fD fC [] gp.gL full (Good w0 ρ c res env (some d)) [⟨some d,.call {callee:= .builtin .len,args:=⟨[x]⟩,argTypes:=⟨[t]⟩},ty,pos,af,none⟩] env w:=by
 unfold lnW at h;split at h
 ·rename_i s;obtain⟨q,v,h1,g,h⟩:=gk hr hE fy;split at h
  ·rename_i l u;obtain rfl:=FG u;have h:=(gP _ _).symm.trans h;obtain⟨a,h⟩:=fO h hr;have a:=iY a;obtain⟨rfl,_⟩:=g;have hlen:(l.map (oI ρ)).length=l.length:=by simp
   exact iH h1 s ⟨_,σ,ρ,_,h,Up.refl ρ,⟨by rw[hlen];rfl,a⟩,hM,rfl⟩
  obtain⟨l,e0,h0⟩:=ly hr h;subst e0;have h:=h0;have h:=(gP _ _).symm.trans h;obtain⟨a,h⟩:=fO h hr;have a:=iY a;obtain⟨rfl,_⟩:=g;have hlen:(jD l).length=l.length:=by simp[jD]
  exact iH h1 s ⟨_,σ,ρ,_,h,Up.refl ρ,⟨by rw[hlen];rfl,a⟩,hM,rfl⟩
 ·split at h
  ·rename_i z D;obtain⟨q,v,h1,g,h⟩:=gk hr hE h
   have go:∀(A:Option Addr) (n k:Nat) (y:SV),v= .slice A n k->c (.v y) σ=res->SR ρ y (.int .i64 (n:Int))->xs prog fD fC [] gp.gL full (Good w0 ρ c res env (some d)) [⟨some d,.call {callee:= .builtin .len,args:=⟨[x]⟩,argTypes:=⟨[t]⟩},ty,pos,af,none⟩] env w:=λA n k y B hc C=>by
    subst B;exact Ic h1 (by simp only[lnV,D]) ⟨_,σ,ρ,_,hc,Up.refl ρ,C,hM,rfl⟩
   rcases kL hr h with⟨e0,h0⟩|⟨id,z,j,n,e0,h0⟩|⟨id,z,j,n,k,e0,h0⟩|⟨_,_,_,_,e0,h0⟩|⟨l,e0,h0⟩|⟨id,o,e0,h0⟩<;>(subst e0;have h:=h0)
   ·exact go _ _ _ _ g h ⟨rfl,iy _⟩
   ·obtain⟨a,h⟩:=fO h hr;obtain⟨p,_,_,_,_,rfl⟩:=g;exact go _ _ _ _ fx h ⟨rfl,iY a⟩
   ·obtain⟨a,h⟩:=fO h hr;obtain⟨p,_,_,_,rfl⟩:=g;exact go _ _ _ _ fx h ⟨rfl,iY a⟩
   ·obtain⟨A,k,rfl,_⟩:=SR.Ev g;exact go _ _ _ _ fx h ⟨rfl,iy _⟩
   ·exact absurd h.symm hr
   ·exact absurd h.symm hr
  ·exact absurd h.symm hr
theorem Zb {up:Bool} {t u:TypeId} (h:(mnW up m x y).f ih e σ c=res):xs prog fD fC [] gp.gL full (Good w0 ρ c res env (some d)) [⟨some d,.call {callee:= .builtin (mnB up),args:=⟨[x,y]⟩,argTypes:=⟨[t,u]⟩},ty,pos,af,none⟩] env w:=by
 obtain⟨a,b,va,B,h1,n,s,v,h⟩:=two hr hE h
 have key:∀(k:IntKind) (p q:Int),va= .int k p->B= .int k q->AR ρ a va->AR ρ b B->yQ (eB up (bI p q)) (c b σ) (c a σ)=res->xs prog fD fC [] gp.gL full (Good w0 ρ c res env (some d)) [⟨some d,.call {callee:= .builtin (mnB up),args:=⟨[x,y]⟩,argTypes:=⟨[t,u]⟩},ty,pos,af,none⟩] env w:=λk p q C D H I h=>by
  subst C;subst D;rw[me,xa,tZ]at h;cases up with
  |true=>
   by_cases g:p<q
   ·rw[if_pos (by simp[g])]at h;exact RS h1 n ⟨_,σ,ρ,_,h,Up.refl ρ,by grind,hM,rfl⟩
   ·rw[if_neg (by simp[g])]at h;exact RS h1 n ⟨_,σ,ρ,_,h,Up.refl ρ,by grind,hM,rfl⟩
  |false=>
   by_cases g:p<q
   ·rw[if_neg (by simp[g])]at h;exact Ot h1 n ⟨_,σ,ρ,_,h,Up.refl ρ,by grind,hM,rfl⟩
   ·rw[if_pos (by simp[g])]at h;exact Ot h1 n ⟨_,σ,ρ,_,h,Up.refl ρ,by grind,hM,rfl⟩
 rcases oQ hr h with⟨k,p,rfl,h⟩|⟨k,p,rfl,h⟩<;>rcases oQ hr h with⟨G,q,rfl,h⟩|⟨G,q,rfl,h⟩<;>(obtain⟨E,F⟩:=iv hr h;clear h;subst E;have h:=F)<;>exact key k _ _ s.1 v.1 s v h
end
end
section
theorem Bk.put {g:Nat} {t:TypeId}:∀{vs:List Value} {o:Nat} {w:World} {cs:Array Value},Bk w g t cs->o+vs.length<=cs.size->∃a,Bk (w.setCells g o vs) g t a/\a.size=cs.size/\(∀k,a[k]? =if o<=k/\k<o+vs.length then vs[k-o]? else cs[k]?)/\Fr (λb=>b=g) w (w.setCells g o vs)
 |[],o,w,cs,h,_=>⟨cs,h,rfl,fS,Fr.refl _ _⟩
 | v::vs,o,w,cs,h,u=>by
  have y:o+(vs.length+1)<=cs.size:=u
  have h1:Bk (w.setCell ⟨g,o,none⟩ v) g t (cs.setIfInBounds o v):=by
   obtain⟨f,h,s⟩:=h;refine⟨f,?_,by simpa using s⟩;unfold World.setCell;simp[tw,h]
  obtain⟨a,d,m,x,n⟩:=Bk.put (vs:=vs) (o:=o+1) h1 (by simp;omega);refine⟨a,d,by simpa using m,λk=>?_,(Fr.setCell (λb=>b=g) w ⟨g,o,none⟩ v (λ_=>rfl)).t n⟩
  grind
theorem MR.cells {ρ:Pl} {f:Mem} {w0:Fm} {w:World} (h:MR w0 ρ f w) {id:Nat} {p:At} (d:ρ[id]? =some p):∀{l:List SV} {o:Nat},(∀i,i<l.length->hY f id (o+i)=l[i]?)->∃vs,jU ρ l vs/\∀(j:Nat) u,vs[j]? =some u->w.cell? ⟨p.b,o+j,none⟩=some u/\w.frozen? ⟨p.b,o+j,none⟩=false
 |[],o,_=>⟨[],.nil,fS⟩
 | x::l,o,a=>by
  have h0:=a 0 ir;simp only[kS]at h0;obtain⟨v,h1,g,n⟩:=h.cell (x:=x) h0 d
  obtain⟨vs,m,s⟩:=h.cells d (l:=l) (o:=o+1) (λi hi=>by
   have:=a (i+1) (by simp;omega);rw[show o+1+i=o+(i+1)by omega,this]
   rfl)
  refine⟨v::vs,.cons g m,λj u hu=>?_⟩
  grind
theorem By (z:Array Value) (n i:Nat):(madeCells z n)[i]? =if i<n then some (z[i% z.size]!)else none:=by
 grind [madeCells]
theorem x0 (l:List SV) (n:Nat):(rep l n).length=n*l.length:=by
 induction n with
 |zero=>rw[td];rfl
 |succ n a=>
  grind [rep,List.length_append,Nat.succ_mul]
theorem LK (l:List SV) (a:0<l.length):∀(n i:Nat),i<n*l.length->(rep l n)[i]? =l[i% l.length]?
 |0,i,h=>fy
 | n+1,i,h=>by
  show(l++rep l n)[i]? =_
  rw[qV]at h
  by_cases hi:i<l.length
  ·grind [List.getElem?_append_left,Nat.mod_eq_of_lt]
  ·rw[qE fy,LK l a n _ fy]
   congr 1
   conv=>rhs;rw[show i=i-l.length+l.length by omega,Nat.add_mod_right]
theorem xX {zs:List SV} {z:Array Value} (h:jU ρ zs z.toList) (n:Nat):jU ρ (rep zs n) (madeCells z (n*zs.length)).toList:=by
 have d:=h.len;simp only[pb]at d;rcases xE zs.length with h0|h0
 ·have e:rep zs n=[]:=by simp_all [zf,x0]
  simp_all [madeCells]
 ·refine jU.of (by rw[x0,pb,size_madeCells]) λi x a=>?_
  have hi:i<n*zs.length:=by
   have:=(j0.1 a).1;rwa[x0]at this
  rw[LK zs h0 n i hi]at a;obtain⟨v,g,f⟩:=h.get _ _ a
  grind [By,getElem!_def]
theorem jh {a b:Bool} (h:an a b=true):a=true/\b=true:=by
 cases a with
 |true=>exact⟨rfl,h⟩
 |false=>cases h
section
variable {m:Nat} {ih:Cl} {e:En} {σ:Mem} {c:Kt} {res:Rs} {ρ:Pl} {env:Env} {w0:Fm} {w:World} {full:Array Oper} {d:Tmp} {ty:TypeId} {pos:String} {af:Array Edge} (hr:res≠ .no)
theorem aeA {K:Env->World->Prop} {H:World->Prop} {o:Nat} (n:gh env x=some (.pointer (some ⟨b,o,none⟩))) (s:gh env y=some v) (g:∃i,prog.info? t=some i/\i.size=vs.length) (m:v.cells=vs.toArray)
  (hc:∀j,j<vs.length->(w.cell? ⟨b,o+j,none⟩).isSome=true) (f:∀j,j<vs.length->w.frozen? ⟨b,o+j,none⟩=false) (h1:∀u∈vs,u.oneCell'=true)
  (h:xs prog fD fC hs H full K rest env (w.setCells b o vs)) (hH:H (w.setCells b o vs)):xs prog fD fC hs H full K (⟨none,.store t x y,ty,pos,af,none⟩::rest) env w:=by
 obtain⟨i,a,d⟩:=g;refine gR fx (by grind [fX,Op.operands]) ?_;have hr:=run_storeCells_cells (P:=prog) b o vs 0 w (by simpa using hc) (by simpa using f) h1;simp only[kS]at hr;show out prog ((execOp (ev env) ⟨none,.store t x y,ty,pos,af,none⟩).run prog w) _
 have e:(execOp (ev env) ⟨none,.store t x y,ty,pos,af,none⟩).run prog w= .ok .skip (w.setCells b o vs):=by
  simp[execOp,fM n,fM s,Instr.storeAt,Instr.sureAddr,storeVar,m,sizeOf,typeInfo,a,d,hr]
 rw[e];exact⟨hH,h⟩
include hr
theorem sy (g:MR w0 ρ σ w) {id o:Nat} {k:Mem->Rs} (h:RZ σ id o l k=res) (n:ρ[id]? =some p) (u:jU ρ l vs) (J:0<l.length):
  ∃a,k a=res/\(∀j,j<vs.length->(w.cell? ⟨p.b,o+j,none⟩).isSome=true)/\(∀j,j<vs.length->w.frozen? ⟨p.b,o+j,none⟩=false)/\MR w0 ρ a (w.setCells p.b o vs)/\Fr (λb=>b=p.b) w (w.setCells p.b o vs):=by
 obtain⟨Q,m',a,h1,B,C,D,E,F,G⟩:=T2 hr h;have hlen:=u.len;have y:∀j,j<vs.length->∃x,hY σ id (o+j)=some x:=by grind [hY,Option.isSome_iff_exists]
 have H:∀j,j<vs.length->∃v,w.cell? ⟨p.b,o+j,none⟩=some v/\w.frozen? ⟨p.b,o+j,none⟩=false:=λj m=>by
  obtain⟨x,K⟩:=y j m;obtain⟨v,d,_,a3⟩:=g.cell K n
  grind
 obtain⟨S,L⟩:=y 0 fy;obtain⟨q,R,cs,v,s,t,f,M,N,_⟩:=g.at_ L;rw[n]at s;obtain rfl:=jk s;rw[h1]at t;obtain rfl:=jk t
 have I:o+vs.length<=cs.size:=by
  obtain⟨v,d,_⟩:=H (vs.length-1) fy;rw[f.cell]at d;have:=(JZ.1 d).1;omega
 obtain⟨O,c1,c2,c3,c4⟩:=f.put (vs:=vs) I;refine⟨a,G,λj m=>?_,λj m=>?_,g.wr h1 B C D E F n f c1 c2 fS c4 u J,c4⟩
 ·grind
 grind
theorem pt (y:MR w0 ρ σ w) {k:Nat->Mem->Rs} (n z:Nat) (h:qG σ el l k=res) (D:n*z=cs.size) (u:Bk w' w.heap.size el cs) (B:∀(o:Nat) v,vs[o]? =some v->cs[o]? =some v) (x:Ext w w') (C:jU ρ l vs):
  ∃a,k σ.n a=res/\MR w0 (ρ++[⟨w.heap.size,n,z⟩]) a w'/\(ρ++[(⟨w.heap.size,n,z⟩:At)])[σ.n]? =some ⟨w.heap.size,n,z⟩:=by
 obtain⟨E,a,h1,d,f,g,m,s,t⟩:=pA hr h;exact⟨a,t,y.new n z D h1 d f g m s u B x C,by grind [MR.len]⟩
variable (hE:ER m ρ e env) (hM:MR w0 ρ σ w)
include hE hM
theorem adw (h:(ldW m t x).f ih e σ c=res):xs prog fD fC [] gp.gL full (Good w0 ρ c res env (some d)) [⟨some d,.load t x,ty,pos,af,none⟩] env w:=by
 unfold ldW at h;split at h
 ·rename_i ht;obtain⟨a,v,h1,g,g1⟩:=gk hr hE h;obtain⟨id,o,e0,g2⟩:=lz hr g1;obtain⟨E,g3,g4⟩:=oU hr g2;obtain⟨y,g5,g6⟩:=mj hr g4;subst e0;obtain⟨p,s,rfl⟩:=g;have D:hY σ id o=some y:=by grind [j9]
  obtain⟨u,B,C,_⟩:=hM.cell D s;exact AU h1 ht B ⟨_,σ,ρ,_,g6,Up.refl ρ,C.2,hM,rfl⟩
 ·split at h
  ·rename_i n F;rw[iJ]at h;obtain⟨a,v,h1,g,g1⟩:=gk hr hE h;obtain⟨id,o,e0,g2⟩:=lz hr g1;obtain⟨E,l,g3,g4,g5,g6⟩:=l6 hr g2;subst e0;obtain⟨p,s,rfl⟩:=g;obtain⟨vs,B,C⟩:=hM.cells s (l:=l) (o:=o) fS;exact hL h1 (by grind [jU.len]) fS ⟨_,σ,ρ,_,g6,Up.refl ρ,⟨vs,B,rfl⟩,hM,rfl⟩
  ·exact absurd h.symm hr
theorem aei (h:(stW m t x y).f ih e σ c=res):xs prog fD fC [] gp.gL full (Good w0 ρ c res env none) [⟨none,.store t x y,ty,pos,af,none⟩] env w:=by
 have key:∀(id o:Nat) (l:List SV) (vs:List Value) (I v:Value),gh env x=some I->SR ρ (.p id o) I->gh env y=some v->v.cells=vs.toArray->jU ρ l vs->0<l.length->(∃i,prog.info? t=some i/\i.size=vs.length)->RZ σ id o l (λσ=>c (.v .u) σ)=res->xs prog fD fC [] gp.gL full (Good w0 ρ c res env none) [⟨none,.store t x y,ty,pos,af,none⟩] env w:=λid o l vs I v h1 s B g E L M h=>by
  obtain⟨p,O,rfl⟩:=s;obtain⟨Q,g1,g2,g3,g4,_⟩:=sy hr hM h O E L;exact aeA h1 B M g g2 g3 E.cells ⟨_,Q,ρ,undef,g1,Up.refl ρ,rfl,g4,rfl⟩ trivial
 unfold stW at h;split at h
 ·rename_i ht;obtain⟨a,b,va,H,h1,s,B,g,g1⟩:=two hr hE h;obtain⟨id,o,e0,g2⟩:=lz hr g1;rcases vB hr g2 with⟨G,D,g3⟩|⟨l,D,g3⟩
  ·obtain⟨F,g4⟩:=fO g3 hr;subst e0;subst D;obtain⟨_,i,hi,hs⟩:=mX ht;refine key id o [G] [H] va H h1 B s (SR.cells g) (.cons ⟨F,g⟩ .nil) ir ⟨i,hi,hs⟩ ?_;have K:RZ σ id o [G] (λσ=>c (.v .u) σ)=MS σ id λC=>yM C.d o G C.m λm=>fN (Nat.add o 1) λ_=>yM dI id ⟨C.e,C.d,C.n,m⟩ σ.h λh=>c (.v .u) ⟨σ.n,h,σ.mp⟩:=rfl
   rw[K];simp only[gP];exact g4
  ·exact absurd g3.symm hr
 ·split at h
  ·rename_i n F;rw[iJ]at h;obtain⟨a,b,va,H,h1,s,B,g,g1⟩:=two hr hE h;obtain⟨id,o,e0,g2⟩:=lz hr g1;obtain⟨l,D,g3⟩:=ql hr g2;obtain⟨J,g4⟩:=fO g3 hr;obtain⟨N,g5⟩:=fO g4 hr;have J:=jd J;have N:1<=n:=mu;subst e0;subst D;obtain⟨vs,E,rfl⟩:=g;obtain⟨_,i,hi,hs⟩:=kD F;exact key id o l vs va _ h1 B s fx E fy (by grind [jU.len]) g5
  ·exact absurd h.symm hr
omit hE in
theorem acB (h:(Y9 t (zA t)).f ih e σ c=res):xs prog fD fC [] gp.gL full (Good w0 ρ c res env (some d)) [⟨some d,.alloc t,ty,pos,af,none⟩] env w:=by
 unfold Y9 at h;split at h
 ·rename_i z s;rw[rr]at h;obtain⟨i,v,hi,n,m⟩:=rP (ρ:=ρ) s;refine gy (z:=v) (by rw[hi];exact n) (λw' a g _=>?_);obtain⟨u,g1,g2,g3⟩:=pt hr hM v.cells.size 1 h ir (fU.bk a) fS g m;exact⟨_,u,_,_,g1,Up.snoc _ _,⟨_,g3,rfl⟩,g2,rfl⟩
 ·exact absurd h.symm hr
theorem ab0 (h:(bxW m t x).f ih e σ c=res):xs prog fD fC [] gp.gL full (Good w0 ρ c res env (some d)) [⟨some d,.box t x,ty,pos,af,none⟩] env w:=by
 obtain⟨a,v,h1,n,g1⟩:=gk hr hE (show(iz m x).f e _=res from h)
 have key:∀(l:List SV),jU ρ l v.cells.toList->qG σ t l (λid σ=>c (.v (.p id 0)) σ)=res->xs prog fD fC [] gp.gL full (Good w0 ρ c res env (some d)) [⟨some d,.box t x,ty,pos,af,none⟩] env w:=λl B h=>by
  refine hD h1 (λw' u y _=>?_);obtain⟨E,g1,g2,g3⟩:=pt hr hM v.cells.size 1 h ir (fU.bk u) fS y B;exact⟨_,E,_,_,g1,Up.snoc _ _,⟨_,g3,rfl⟩,g2,rfl⟩
 rcases vB hr g1 with⟨D,g,g3⟩|⟨l,g,g3⟩
 ·obtain⟨C,g4⟩:=fO g3 hr;subst g;refine key [D] ?_ g4;rw[SR.cells n];exact .cons ⟨C,n⟩ .nil
 ·subst g;obtain⟨vs,s,rfl⟩:=n;exact key l s g3
omit hE in
theorem Zo (h:(rw0 (elemOf t)).f ih e σ c=res):xs prog fD fC [] gp.gL full (Good w0 ρ c res env (some d)) [⟨some d,.buildSlice t 0 #[],ty,pos,af,none⟩] env w:=by
 unfold rw0 at h;split at h
 ·rename_i el z a;rw[iJ]at h;obtain⟨hu,m⟩:=iR a;obtain⟨⟨x,g,u⟩,_⟩:=kc m;have s:Array.map (λ_:Nat=>(default:Value)) (Array.range 0)= #[]:=by simp
  refine xw (by simp[fX,Op.operands]) fx (v:= .slice (some ⟨w.heap.size,0,none⟩) 0 0) (w':=w.alloc (.cells #[] el)) ?_ ?_ trivial
  ·simp[execOp,Instr.buildSlice,run_underlying hu,sizeOf,typeInfo,g,Instr.fill,newRow]
   grind
  ·obtain⟨n,q1,q2,q3⟩:=pt hr hM 0 z fy ir (fU.bk (fU.new w el #[])) (vs:=[]) fS (Fr.alloc _ _ _) .nil;exact⟨_,n,_,_,q1,Up.snoc _ _,⟨_,q3,gJ _,iy _,by simp⟩,q2,rfl⟩
 ·exact absurd h.symm hr
theorem adY {ps:List (Nat×Operand)} (h:(rwW m n ps (elemOf t)).f ih e σ c=res):xs prog fD fC [] gp.gL full (Good w0 ρ c res env (some d)) [⟨some d,.buildSlice t n ps.toArray,ty,pos,af,none⟩] env w:=by
 unfold rwW at h;split at h
 ·exact Zo hr hM h
 split at h
 ·rename_i el z G;obtain⟨hu,J⟩:=iR G;obtain⟨⟨M,B,y⟩,_⟩:=kc J;split at h
  ·rename_i zs L;split at h
   ·exact absurd h.symm hr
   ·rename_i a;rw[iJ,iJ,rr]at h;obtain⟨k1,a⟩:=jh a;obtain⟨k2,a⟩:=jh a;obtain⟨k3,k4⟩:=jh a;have k1:=jd k1;have k2:=iY k2;have k3:=iY k3;have k4:n*z<=16777216:=mu;obtain⟨i,v,hi,K,H⟩:=rP (ρ:=ρ) L;rw[B]at hi;obtain rfl:=jk hi;have C:=xX H n;rw[k1]at C;obtain⟨R,l',g,h1,E,F,s,g1⟩:=xV hr hE h C;obtain⟨he,O⟩:=vj h1;have Q:0<n*z:=Lr fy fy
    have I:=run_buildSlice (P:=prog) w t el n ((ps.map λp=>(p.1,ev env p.2)).toArray) g.toArray M v hu B K (by rw[y];omega) (by rw[y];omega) (by
     show Instr.fill _ _ (ps.map λp=>(p.1,ev env p.2))=_
     rw[he,y]
     exact E)
    have s:g.length=n*z:=by rw[s,pb,size_madeCells]
    refine xw (by grind [fX,Op.operands,List.all_eq_true]) fx (v:= .slice (some ⟨w.heap.size,0,none⟩) n n) (w':=w.alloc (.cells g.toArray el)) ?_ ?_ trivial
    ·have D:(ps.toArray.map λx=>match x with|(i,x)=>(i,ev env x))=(ps.map λp=>(p.1,ev env p.2)).toArray:=by simp
     simp only[execOp];rw[D];simp[I]
    ·obtain⟨N,q1,q2,q3⟩:=pt hr hM n z g1 (by simp[s]) (fU.bk (fU.new w el g.toArray)) (λo u hu=>by simpa using hu) (Fr.alloc _ _ _) F;exact⟨_,N,_,_,q1,Up.snoc _ _,⟨_,q3,gJ _,by have:=RF n k3;grind [maxLen],by simp⟩,q2,rfl⟩
  ·exact absurd h.symm hr
 ·exact absurd h.symm hr
theorem adj (h:(mkW m x y (elemOf t)).f ih e σ c=res):xs prog fD fC [] gp.gL full (Good w0 ρ c res env (some d)) [⟨some d,.makeSlice t x y,ty,pos,af,none⟩] env w:=by
 unfold mkW at h;split at h
 ·rename_i el z H;obtain⟨hu,K⟩:=iR H;obtain⟨⟨g,s,M⟩,_⟩:=kc K;split at h
  ·rename_i zs B N;split at h
   ·exact absurd h.symm hr
   ·rename_i k1;have k1:=jd k1;rw[iJ,rr]at h;obtain⟨a,b,va,T,h1,R,E,F,g1⟩:=two hr hE h;obtain⟨k,n,e0,g2⟩:=im hr g1;obtain⟨O,q,D,g3⟩:=im hr g2;obtain⟨u,g4⟩:=fO g3 hr;obtain⟨hq,g5⟩:=fO g4 hr;rw[nF]at g5;have u:=iY u;have hq:=iY hq;subst e0;subst D;obtain⟨rfl,_⟩:=E;obtain⟨rfl,_⟩:=F;obtain⟨i,v,hi,L,I⟩:=rP (ρ:=ρ) N;rw[s]at hi;obtain rfl:=jk hi;have C:=xX I q;rw[k1]at C
    have G:g.bytes<=1000000:=by
     unfold few at B;rw[s]at B;exact mu
    have S:g.bytes*q<=1000000*65536:=Rv G hq
    have J:=run_make (P:=prog) w t el g v hu s L k O (n:Int) (q:Int) fy fy (by
     have:((g.bytes*q:Nat):Int)<=281474976710656:=fy
     rwa[Int.natCast_mul]at this) fy
    simp only[jf,M]at J;refine xw (by grind [fX,Op.operands]) fx (v:= .slice (some ⟨w.heap.size,0,none⟩) n q) (w':=w.alloc (.cells (madeCells v.cells (q*z)) el)) ?_ ?_ trivial
    ·simp_all [ev,fM,execOp]
    ·obtain⟨Q,q1,q2,q3⟩:=pt hr hM q z g5 (by rw[size_madeCells]) (fU.bk (fU.new w el (madeCells v.cells (q*z)))) fS (Fr.alloc _ _ _) C;exact⟨_,Q,_,_,q1,Up.snoc _ _,⟨_,q3,u,by grind [maxLen],by simp⟩,q2,rfl⟩
  ·exact absurd h.symm hr
 ·exact absurd h.symm hr
end
end
section
open Go.Lib (strCells strCells_length run_firstCells_string run_append_grow_string)
inductive Src (w:World) (t:TypeId) (z:Nat):TypeId->Value->Nat->List Value->Prop where
 |sl {A:Option Addr} {q c:Nat} {news:List Value} (hl:news.length=q*z) (hc:∀a,A=some a->∀(j:Nat) u,news[j]? =some u->w.cell? (a.add j)=some u) (hn:A=none->q=0):Src w t z t (.slice A q c) q news
 |st {u:TypeId} {b:ByteArray} (hu:prog.underlying u=some .string) (hz:z=1):Src w t z u (.string b) b.size (strCells b)
theorem Src.len {q:Nat} {news:List Value} (h:Src w t z u v q news):news.length=q*z:=by
 cases h<;>grind [sl,st,strCells_length]
def Grown (w:World) (el:TypeId) (z n:Nat) (vs:List Value) (v:Value) (w':World):Prop:=∃g k cur,v= .slice (some ⟨g,0,none⟩) n k/\w.heap.size<=g/\fU w' g el cur/\Ext w w'/\n<=k/\k<=maxLen/\cur.size=k*z/\cur.toList.take (n*z)=vs
section
variable {w0:Fm} {w:World} {t u ty el:TypeId} {i:TypeInfo} {z q:Nat} {vy zv:Value} {news:List Value} (hu:prog.underlying t=some (.slice el)) (hi:prog.info? el=some i) (hz:i.size=z) (hS:Src w t z u vy q news) (h1:∀u∈news,u.oneCell'=true) (hq:0<q)
include hu hi hz hS h1 hq
theorem HM {o k:Nat} (f:n+q<=k) (hc:∀j,j<news.length->(w.cell? ⟨b,o+n*z+j,none⟩).isSome=true) (d:∀j,j<news.length->w.frozen? ⟨b,o+n*z+j,none⟩=false):
  (Builtin.append_ #[t,u] ty #[.slice (some ⟨b,o,none⟩) n k,vy]).run prog w= .ok (.slice (some ⟨b,o,none⟩) (n+q) k) (w.setCells b (o+n*z) news):=by
 cases hS with
 | @sl A _ c _ x m y=>
  cases A with
  |none=>exact absurd (y rfl) fy
  |some a=>
   subst hz;exact run_append_room_cells (P:=prog) w t ty el i hu hi b o n k a q c news x (m a fx) h1 f hc d
 | @st _ s B C=>
  subst hz;have v:=run_firstCells_string (P:=prog) w i.size s;have g:=run_storeCells_cells (P:=prog) b (o+n*i.size) (strCells s) 0 w (by simpa using hc) (by simpa using d) h1;simp only[kS]at g;simp[Builtin.append_,run_underlying hu,run_underlying B,sizeOf,typeInfo,hi,Builtin.lenOf,f,v,nf,g]
variable (Oj:i.zero=some zv) (RY:zv.cells.size=z) (QL:0<z) (R2:i.bytes<=1000000)
include Oj RY QL R2
theorem HZ {B:Addr} {k:Nat} {olds:List Value} (x:olds.length=n*z) (holds:∀(j:Nat) u,olds[j]? =some u->w.cell? (B.add j)=some u) (m:k<n+q) (hm:n+q<=1000000):
  ∃d w',(Builtin.append_ #[t,u] ty #[.slice (some B) n k,vy]).run prog w= .ok d w'/\Grown w el z (n+q) (olds++news) d w':=by
 have v:(n+q)*i.bytes<=140737488355328:=mn (Rv hm R2) fV;have f:n+q<=maxLen:=by unfold maxLen;omega
 cases hS with
 | @sl A _ c _ J H R=>
  cases A with
  |none=>grind
  |some a=>
   obtain⟨d,w',M,K,Q⟩:=run_append_arg_grows (P:=prog) w t ty el i zv z i.bytes hu hi Oj hz rfl RY QL B n k olds x holds a q c news J (H a rfl) m f v;refine⟨d,w',M,?_⟩;rcases K.2 with⟨_,h0⟩|⟨g,O,cur,y,C,D,e4,E,F,G⟩
   ·omega
   ·exact⟨g,O,cur,y,C,D,by grind [Fr.grown],e4,E,F,G⟩
 | @st _ s N S=>
  have L:=run_append_grow_string (P:=prog) w t u ty el i zv hu N hi Oj B n k olds (by rw[hz];exact x) holds s m (by unfold maxLen at f;omega) (growslice_fits m v);have I:=grownCap_ge w (n+s.size) k el;refine⟨_,_,L,w.heap.size,_,_,rfl,gJ _,heap_alloc_new w.drew _,(Fr.drew _ w).t (Fr.alloc _ _ _),I,grownCap_le_maxLen w _ k el f,?_,?_⟩
  ·grind [Array.size_append,List.size_toArray,size_zeroCells,strCells_length]
  ·simp only[Vc,j7];rw[←j7,show(n+s.size)*z=(olds++strCells s).length by grind [List.length_append,strCells_length]]
   grind
theorem UJ (hm:q<=1000000):∃d w',(Builtin.append_ #[t,u] ty #[.slice none 0 0,vy]).run prog w= .ok d w'/\Grown w el z q news d w':=by
 have G:(0+q)*i.bytes<=140737488355328:=mn (Rv fy R2) (show 1000000*1000000<=_ by decide);have f:0+q<=maxLen:=by unfold maxLen;omega
 cases hS with
 | @sl A _ c _ N H m=>
  cases A with
  |none=>grind
  |some a=>
   obtain⟨d,w',Q,n,L,_⟩:=run_append_own (P:=prog) w w.heap.size t ty el i zv z i.bytes hu hi Oj hz rfl RY QL (.slice none 0 0) 0 [] (World.ownsRow_nil w w.heap.size el z) a q c news N (H a rfl) h1 f G (gJ _);refine⟨d,w',Q,?_⟩;rw[iC,vD]at n;rcases n.2 with⟨_,h0⟩|⟨g,S,cur,v,x,y,e4,B,C,D⟩
   ·omega
   ·exact⟨g,S,cur,v,x,y,Fr.grown L (λ_ M _=>by cases M),e4,B,C,D⟩
 | @st _ s R V=>
  have m:¬s.size=0:=fy;have U:¬s.size<=0:=fy;have F:¬((9223372036854775807:Int)<(s.size:Int)):=by unfold maxLen at f;omega
  have T:=growslice_fits (need:=s.size) (old:=0) (bytes:=i.bytes) fy fS;have E:¬(281474976710656<Builtin.nextslicecap s.size 0*i.bytes):=fy;have I:=run_firstCells_string (P:=prog) w.drew i.size s;have K:=grownCap_ge w s.size 0 el;have J:(Builtin.firstCells i.size 0 (.slice none 0 0)).run prog w.drew= .ok #[] w.drew:=by simp[Builtin.firstCells]
  have O:(Builtin.append_ #[t,u] ty #[.slice none 0 0,.string s]).run prog w= .ok (.slice (some ⟨w.heap.size,0,none⟩) s.size (grownCap w s.size 0 el)) (w.drew.alloc (.cells ((strCells s).toArray++Builtin.zeroCells zv.cells (grownCap w s.size 0 el-s.size)) el)):=by
   simp[Builtin.append_,run_underlying hu,run_underlying R,sizeOf,typeInfo,zeroValue,hi,Oj,Builtin.lenOf,m,F,E,Question.forced,I,newRow,grownCap,J]
  refine⟨_,_,O,w.heap.size,_,_,rfl,gJ _,heap_alloc_new w.drew _,(Fr.drew _ w).t (Fr.alloc _ _ _),K,by grind [grownCap_le_maxLen],?_,?_⟩
  ·grind [Array.size_append,List.size_toArray,size_zeroCells,strCells_length]
  grind [Array.toList_append,ByteArray.size,strCells,strCells_length,List.take_left]
end
section
variable {σ:Mem} {res:Rs} {ρ:Pl} {w0:Fm} {w:World} (hr:res≠ .no)
include hr
theorem Es (y:MR w0 ρ σ w) {x:AV} {s:Value} {k:Nat->List SV->Rs} (f:AR ρ x s) (h:Ye σ z x k=res):∃q new news,k q new=res/\jU ρ new news/\Src w t z t s q news:=by
 rcases kL hr h with⟨e0,g1⟩|⟨id,v,j,n,e0,g1⟩|⟨id,v,j,n,E,e0,g1⟩|⟨_,_,_,_,e0,g1⟩|⟨l,e0,g1⟩|⟨id,o,e0,g1⟩<;>subst e0
 ·have B:s= .slice none 0 0:=f;subst B;exact⟨0,[],[],g1,.nil,.sl ir fS (λ_=>rfl)⟩
 ·obtain⟨F,l,g3,g4,g5,g6⟩:=l6 hr g1;obtain⟨p,m,_,_,_,rfl⟩:=f;obtain⟨vs,g,C⟩:=y.cells m (l:=l) (o:=Nat.mul j v) fS;refine⟨n,l,vs,g6,g,.sl (by grind [jU.len]) (λa d D u hu=>?_) (λd=>by cases d)⟩
  grind [Addr.add_lit]
 ·obtain⟨F,l,g3,g4,g5,g6⟩:=l6 hr g1;obtain⟨p,m,_,_,rfl⟩:=f;obtain⟨vs,g,C⟩:=y.cells m (l:=l) (o:=Nat.mul j v) fS;refine⟨n,l,vs,g6,g,.sl (by grind [jU.len]) (λa d D u hu=>?_) (λd=>by cases d)⟩
  grind [Addr.add_lit]
 ·obtain⟨A,E,rfl,_⟩:=SR.Ev f;exact⟨0,[],[],g1,.nil,.sl ir fS (λ_=>rfl)⟩
 ·grind
 grind
omit hr in
theorem zh (ρ:Pl):∀{l:List Nat},(∀c∈l,c<256)->jU ρ (l.map λc=>SV.n .u8 c) ((jD l).map λb=>Value.int .u8 (b.toNat:Int))
 |[],_=> .nil
 |a::l,h=>by
  have d:=h a ir;refine .cons ⟨rfl,?_,by show a<=255;omega⟩ (zh ρ fS)
  grind [UInt8.toNat_ofNat',Nat.mod_eq_of_lt]
theorem Si {x:AV} {a:Value} {k:Nat->List SV->Rs} (hu:prog.underlying u=some .string) (m:AR ρ x a) (h:stK x k=res):∃q new news,k q new=res/\jU ρ new news/\Src w t 1 u a q news:=by
 obtain⟨l,e0,g1⟩:=ly hr h;rw[gP,nF]at g1;subst e0;obtain⟨rfl,g,_⟩:=m;refine⟨_,_,_,g1,zh ρ g,?_⟩;have d:(jD l).map (λb=>Value.int .u8 (b.toNat:Int))=strCells (su (jD l)):=by simp[strCells,su]
 have f:l.length=(su (jD l)).size:=by rw[ko];simp[jD]
 rw[d,f];exact .st hu fx
theorem Kz (g:MR w0 ρ σ w) {r:Ws} {x:AV} {d:Value} {k:Nat->List SV->Rs} (hs:scW el z t u=some r) (a:AR ρ x d) (h:r.f σ x k=res):∃q new news,k q new=res/\jU ρ new news/\Src w t z u d q news:=by
 unfold scW at hs;split at hs
 ·rename_i m;split at hs
  ·rename_i h1 _;obtain rfl:=jk hs;have h1:=jd h1;subst h1;exact Si hr (hR m) a h
  ·cases hs
 ·split at hs
  ·rename_i h1;obtain rfl:=jk hs;have h1:=jd h1;subst h1;exact Es hr g a h
  ·cases hs
end
section
variable {m:Nat} {ih:Cl} {e:En} {σ:Mem} {c:Kt} {res:Rs} {ρ:Pl} {env:Env} {w0:Fm} {w:World} {full:Array Oper} {d:Tmp} {ty:TypeId} {pos:String} {af:Array Edge} (hr:res≠ .no)
include hr
theorem z1 (f:MR w0 ρ σ w) (I:Grown w el z n vs v w') (J:jU ρ l vs) (h:qG σ el l (λid σ=>c (.v (.l id z 0 n)) σ)=res):∃x d m,c x d=res/\Up ρ m/\AR m x v/\MR w0 m d w':=by
 obtain⟨g,k,cur,rfl,t,u,e4,y,B,C,L⟩:=I;obtain⟨Q,d,h1,D,M,E,F,G,H⟩:=pA hr h;refine⟨_,d,ρ++[⟨g,k,z⟩],H,Up.snoc _ _,⟨⟨g,k,z⟩,by grind [MR.len],rfl,by simpa using y,B,by simp⟩,?_⟩;refine f.more k z (by rw[C]) h1 D fS (λo x s=>?_) F G (fU.bk u) e4 (λid o p hs K=>⟨λa=>by have:=f.below id o p hs K;omega,λa=>a⟩) (λb a=>a.elim) (.inl (mn f.old.size t));rw[E o]at s;obtain⟨v,N,O⟩:=J.get o x s
 grind
variable (hM:MR w0 ρ σ w) {t u el:TypeId} {i:TypeInfo} {z q:Nat} {vs0 vy zv:Value} {s:AV} {new:List SV} {news:List Value} (hu:prog.underlying t=some (.slice el)) (hi:prog.info? el=some i) (hz:i.size=z) (hS:Src w t z u vy q news) (hn:jU ρ new news)
 (Oj:i.zero=some zv) (RY:zv.cells.size=z) (QL:0<z) (R2:i.bytes<=1000000)
include hM hu hi hz hS hn Oj RY QL R2
theorem TG {id:Nat} (M:ρ[id]? =some p) (aF:p.z=z) (aE:n<=p.c) (aO:p.c<=maxLen) (hq:0<q) (hm:n+q<=1000000) (h:apL σ c el z id n q new=res):
  ∃y w' x al X,(Builtin.append_ #[t,u] ty #[.slice (some ⟨p.b,0,none⟩) n p.c,vy]).run prog w= .ok y w'/\c x al=res/\Up ρ X/\AR X x y/\MR w0 X al w':=by
 have hlen:=hn.len;have az:=hS.len;obtain⟨m,g1,g2⟩:=oU hr h;obtain⟨he,g3⟩:=fO g2 hr;have he:=jd he;obtain⟨aI,g4,g5⟩:=mj hr g3;have W:hY σ id 0=some aI:=by grind [j9]
 obtain⟨s,cs,Z,H,O,ao⟩:=hM.gH id m g1 fS;rw[M]at Z;obtain rfl:=jk Z;rw[aF]at O;have aM:=hM.xj id 0 p (by rw[W];rfl) M;have aN:n*z<=cs.size:=mn (qk z aE) (Li O)
 have aH:∃y w' g k cur S,(Builtin.append_ #[t,u] ty #[.slice (some ⟨p.b,0,none⟩) n p.c,vy]).run prog w= .ok y w'/\y= .slice (some ⟨g,0,none⟩) (n+q) k/\Bk w' g el cur/\n+q<=k/\k<=maxLen/\k*z=cur.size/\Fr S w w'/\(∀a,(a≠p.b/\a<w.heap.size)->a≠g/\¬S a)/\(∀b,S b->w0.may b)/\w0.may g/\(∀o v,o<n*z->cs[o]? =some v->cur[o]? =some v)/\(∀(j:Nat) v,news[j]? =some v->cur[n*z+j]? =some v):=by
  by_cases ak:n+q<=p.c
  ·have aB:n*z+news.length<=cs.size:=by
    rw[az,←tG];exact mn (qk z ak) (Li O)
   have C:=HM (ty:=ty) (b:=p.b) (o:=0) hu hi hz hS hn.cells hq ak (λj V=>by rw[H.cell,iC];simp;omega) (λj V=>H.frozen fy);rw[iC]at C;obtain⟨aK,c1,c2,c3,c4⟩:=H.put (vs:=news) aB
   grind
  ·obtain⟨y,w',C,g,k,cur,rfl,ap,aq,e4,ar,au,av,aa⟩:=HZ (ty:=ty) hu hi hz hS hn.cells hq Oj RY QL R2 (B:=⟨p.b,0,none⟩) (n:=n) (k:=p.c) (olds:=cs.toList.take (n*z)) (by simp;omega) (by grind [Addr.add_lit,Bk.cell]) fy hm;have ax:(cs.toList.take (n*z)).length=n*z:=by simp;omega
   refine⟨_,w',g,k,cur,_,C,rfl,fU.bk aq,ar,au,by rw[av],e4,λa aL=>⟨fy,λU=>U⟩,λb K=>K.elim,.inl (mn hM.old.size ap),λo v L aG=>?_,λj v V=>?_⟩
   ·have aw:(cur.toList.take ((n+q)*z))[o]? =some v:=by
     rw[aa,pR fy,VD,if_pos L];simpa using aG
    grind
   ·have aw:(cur.toList.take ((n+q)*z))[n*z+j]? =some v:=by
     rw[aa,qE fy,ax,show n*z+j-n*z=j by omega];exact V
    grind
 obtain⟨y,w',g,k,cur,S,C,rfl,ay,ah,ai,aj,ab,R,ad,ag,hold,aC⟩:=aH;have ae:∀b l,tY w b l->¬S b:=λb l K=>(R b ⟨λe=>H.Ih (e▸K),K.lt⟩).2
 rw[me]at g5;split at g5
 ·rename_i aA;obtain⟨aD,_⟩:=jh aA;have aD:m.n=n*z:=mu;obtain⟨t',f1,f2⟩:=rV hr g5;rw[gP]at f2;obtain⟨aJ,k1,k2,k3,k4⟩:=BI hr f2;obtain⟨D,Q⟩:=hM.kill k1 k2 k3 M (by rw[W];rfl);obtain⟨Y,N,a2,a3,a4⟩:=yK hr k4;rw[gP]at a4;refine⟨_,w',_,Y,ρ++[⟨g,k,z⟩],C,a4,Up.snoc _ _,⟨⟨g,k,z⟩,by grind [MR.len],rfl,by simpa using ah,ai,by simp⟩,?_⟩;refine D.more k z aj N fx (λo L=>?_) (λo x f=>?_) a2 a3 fS ab (λG o s F E=>R s.b ⟨Q G o s F E,D.below G o s F E⟩) ad ag ae
  ·have L:m.n+new.length<=o:=L;show hV m.d o t'=none
   rw[f1 o,if_neg fy];exact hM.pre id m g1 o fy
  ·have f:hV m.d o t'=some x:=f;rw[f1 o]at f;split at f
   ·rename_i U;obtain⟨v,I,J⟩:=hn.get _ _ f
    grind
   ·rename_i U;obtain⟨v,I,J⟩:=ao o x f;refine⟨v,hold o v ?_ I,J⟩;rcases pT o m.n with fW|T
    ·omega
    ·rw[hM.pre id m g1 o T]at f;cases f
 ·obtain⟨old,f1,f2,f3⟩:=x6 hr g5;rw[nF]at f3;obtain⟨aJ,k1,k2,k3,k4⟩:=BI hr f3;obtain⟨D,Q⟩:=hM.kill k1 k2 k3 M (by rw[W];rfl);obtain⟨aP,Y,N,a2,a5,am,a3,an,a4⟩:=pA hr k4;rw[gP]at a4;refine⟨_,w',_,Y,ρ++[⟨g,k,z⟩],C,a4,Up.snoc _ _,⟨⟨g,k,z⟩,by grind [MR.len],rfl,by simpa using ah,ai,by simp⟩,?_⟩;refine D.more k z aj N a2 fS (λo x f=>?_) a3 an ay ab (λG o s F E=>R s.b ⟨Q G o s F E,D.below G o s F E⟩) ad ag ae;rw[am o]at f;have f1:old.length=n*z:=f1;rcases pT o old.length with fW|T
  ·grind
  ·rw[qE T]at f;obtain⟨v,I,J⟩:=hn.get _ _ f;refine⟨v,?_,J⟩;have:=aC _ v I
   simp_all
theorem T3 {id k:Nat} (g:ρ[id]? =some p) (_:n<=k) (G:k<=maxLen) (hq:0<q) (hm:n+q<=1000000) (h:apX σ c el z id j n k q new=res):
  ∃m w' x d f,(Builtin.append_ #[t,u] ty #[.slice (some ⟨p.b,j*z,none⟩) n k,vy]).run prog w= .ok m w'/\c x d=res/\Up ρ f/\AR f x m/\MR w0 f d w':=by
 have hlen:=hn.len;have F:=hS.len
 have H:0<new.length:=by
  rw[←hlen,F];exact Lr hq QL
 unfold apX at h;rw[me]at h;split at h
 ·rename_i a;have a:n+q<=k:=mu;rw[gP]at h;obtain⟨d,g1,g2,g3,g4,_⟩:=sy hr hM h g hn H;rw[gP]at g1;have y:Nat.mul (Nat.add j n) z=j*z+n*z:=tG j n z;rw[y]at g2 g3 g4;have s:=HM (ty:=ty) (b:=p.b) (o:=j*z) hu hi hz hS hn.cells hq a g2 g3;exact⟨_,_,_,d,ρ,s,g1,Up.refl ρ,⟨p,g,a,G,rfl⟩,g4⟩
 ·rename_i a;have a:¬n+q<=k:=mu;obtain⟨K,l,g3,g4,g5,g6⟩:=l6 hr h;rw[nF]at g6;obtain⟨vs,D,J⟩:=hM.cells g (l:=l) (o:=Nat.mul j z) fS;obtain⟨m,w',s,E⟩:=HZ (ty:=ty) hu hi hz hS hn.cells hq Oj RY QL R2 (B:=⟨p.b,j*z,none⟩) (n:=n) (k:=k) (olds:=vs) (by grind [jU.len]) (by grind [Addr.add_lit]) fy hm
  have g7:qG σ el (l++new) (λid σ=>c (.v (.l id z 0 (n+q))) σ)=res:=by
   have C:(λid σ=>fN (Nat.add n q) λn=>c (.v (.l id z 0 n)) σ)=(λid σ=>c (.v (.l id z 0 (n+q))) σ):=by
    funext id σ
    exact gP _ _
   rw[←C];exact g6
  obtain⟨x,d,f,I,a2,a3,a4⟩:=z1 hr hM E (D.app hn) g7
  grind
theorem S3 (hs:AR ρ s vs0) (h:apK σ c el z s q new=res):∃v w' x y g,(Builtin.append_ #[t,u] ty #[vs0,vy]).run prog w= .ok v w'/\c x y=res/\Up ρ g/\AR g x v/\MR w0 g y w':=by
 have hzero:q=0->∀(A:Option Addr) (n k:Nat),n<=k->(Builtin.append_ #[t,u] ty #[.slice A n k,vy]).run prog w= .ok (.slice A n k) w:=λm A n k f=>by
  have K:news.length=0:=by rw[hS.len,m,td]
  have L:news=[]:=fS;cases hS with
  | @sl F _ R _ K S T=>
   subst m;cases A<;>cases F<;>simp[Builtin.append_,run_underlying hu,sizeOf,typeInfo,hi,Builtin.lenOf,Builtin.firstCells,f,storeCells,loadCells,loadCellsFrom]
  | @st _ b O W=>
   have B:=run_firstCells_string (P:=prog) w i.size b;rw[L]at B;rw[m]at B;cases A<;>simp[Builtin.append_,run_underlying hu,run_underlying O,sizeOf,typeInfo,hi,Builtin.lenOf,m,f,B,storeCells]
 rcases kL hr h with⟨e0,g1⟩|⟨id,Q,j,n,e0,g1⟩|⟨id,Q,j,n,X,e0,g1⟩|⟨_,_,_,_,e0,g1⟩|⟨l,e0,g1⟩|⟨id,o,e0,g1⟩<;>subst e0
 ·have H:vs0= .slice none 0 0:=hs;subst H;rcases xE q with h0|h0
  ·subst h0;exact⟨_,w,_,σ,ρ,fS,g1,Up.refl ρ,rfl,hM⟩
  ·obtain⟨a,rfl⟩:∃a,q=a+1:=⟨q-1,fy⟩;obtain⟨hm,g2⟩:=fO fy hr;have hm:=iY hm;obtain⟨v,w',V,I⟩:=UJ (ty:=ty) hu hi hz hS hn.cells h0 Oj RY QL R2 hm;obtain⟨x,y,g,G,a2,a3,a4⟩:=z1 hr hM I hn g2
   grind
 ·obtain⟨C,g2⟩:=fO g1 hr;obtain⟨d,g3⟩:=fO g2 hr;obtain⟨hm,g4⟩:=fO g3 hr;have C:=jd C;have d:=jd d;have hm:n+q<=1000000:=mu;subst C;subst d;have E:=hs;obtain⟨p,D,N,U,M,rfl⟩:=hs;rcases xE q with h0|h0
  ·subst h0;exact⟨_,w,_,σ,ρ,fS,g4,Up.refl ρ,E,hM⟩
  ·obtain⟨a,rfl⟩:∃a,q=a+1:=⟨q-1,fy⟩;obtain⟨v,w',x,y,g,a0,G,a2,a3,a4⟩:=TG (ty:=ty) (c:=c) hr hM hu hi hz hS hn Oj RY QL R2 D N fy M h0 hm g4
   grind
 ·obtain⟨d,g3⟩:=fO g1 hr;obtain⟨hm,g4⟩:=fO g3 hr;have d:=jd d;have hm:n+q<=1000000:=mu;subst d;have E:=hs;obtain⟨p,D,f,J,rfl⟩:=hs;rcases xE q with h0|h0
  ·subst h0;exact⟨_,w,_,σ,ρ,hzero fx _ n _ f,g4,Up.refl ρ,E,hM⟩
  ·obtain⟨a,rfl⟩:∃a,q=a+1:=⟨q-1,fy⟩;exact T3 (ty:=ty) (c:=c) hr hM hu hi hz hS hn Oj RY QL R2 D f J h0 hm g4
 ·grind
 ·grind
 grind
end
end
section
open Go.Lib (strCells strCells_length run_firstCells_string)
theorem Qo {i:TypeInfo} (hi:prog.info? t=some i) (h:zA t=some l):∃v,i.zero=some v/\v.cells.size=l.length:=by
 obtain⟨f,v,h1,a,d⟩:=rP (ρ:=[]) h;rw[hi]at h1;obtain rfl:=jk h1;exact⟨v,a,by simpa using d.len⟩
theorem OG {i:TypeInfo} (hi:prog.info? t=some i) (h:few t=true):i.bytes<=1000000:=by
 unfold few at h
 simp_all
theorem XW {q:Nat} {f:Value} {news:List Value} (g:Src w t z u f q news) (r:Nat) (s:r<=q):(Builtin.firstCells z r f).run prog w= .ok (news.take (r*z)).toArray w:=by
 cases g with
 | @sl A _ c _ n m y=>
  cases A with
  |none=>
   simp_all [Builtin.firstCells]
  | some a=>
   refine run_firstCells_some (P:=prog) w z r a q c (news.take (r*z)) ?_ (λj v d=>?_)
   ·rw[kt,n];exact uk (qk z s)
   ·rw[VD]at d;split at d
    ·exact m a fx j v d
    ·cases d
 | @st _ b B x=>
  subst x;obtain⟨l,rfl⟩:=V1 b
  simp_all [vP,vU,Builtin.firstCells,strCells,su,CQ]
section
variable {m:Nat} {ih:Cl} {e:En} {σ:Mem} {c:Kt} {res:Rs} {ρ:Pl} {env:Env} {w0:Fm} {w:World} {full:Array Oper} {d:Tmp} {dst:Option Tmp} {ty:TypeId} {pos:String} {af:Array Edge} (hr:res≠ .no) (hE:ER m ρ e env) (hM:MR w0 ρ σ w)
include hr hE hM
theorem ab5 (h:(apW m t u x y).f ih e σ c=res):xs prog fD fC [] gp.gL full (Good w0 ρ c res env dst) [⟨dst,.call {callee:= .builtin .append,args:=⟨[x,y]⟩,argTypes:=⟨[t,u]⟩},ty,pos,af,none⟩] env w:=by
 unfold apW at h;split at h
 ·rename_i el z B;obtain⟨hu,F⟩:=iR B;obtain⟨⟨i,hi,G⟩,_⟩:=kc F;split at h
  ·rename_i zs C I;split at h
   ·rename_i r k1 k2 E;rw[iJ]at h;have k1:=jd k1;have k2:=iY k2;obtain⟨a,b,va,Q,h1,N,g,n,g1⟩:=two hr hE h;obtain⟨q,new,news,g2,D,s⟩:=Kz hr hM E n g1;obtain⟨R,J,H⟩:=Qo hi I;obtain⟨K,w',x',M,L,O,d,a2,a3,a4⟩:=S3 (ty:=ty) (c:=c) hr hM hu hi G s D J (by rw[H,k1]) fy (OG hi C) g g2;refine xw (by grind [fX,Op.operands,Call.operands]) fx (v:=K) (w':=w') ?_ ⟨x',M,L,_,d,a2,a3,a4,rfl⟩ trivial
    simp_all [execOp,resolve,invoke,builtin,fM]
   ·exact absurd h.symm hr
  ·exact absurd h.symm hr
 ·exact absurd h.symm hr
theorem acU (h:(cpW m t u x y).f ih e σ c=res):xs prog fD fC [] gp.gL full (Good w0 ρ c res env dst) [⟨dst,.call {callee:= .builtin .copy,args:=⟨[x,y]⟩,argTypes:=⟨[t,u]⟩},ty,pos,af,none⟩] env w:=by
 unfold cpW at h;split at h
 ·rename_i el z T;obtain⟨hu,X⟩:=iR T;obtain⟨⟨i,hi,K⟩,_⟩:=kc X;split at h
  ·rename_i r L W;rw[iJ]at h;have L:=iY L;obtain⟨a,b,va,N,h1,O,C,Q,g1⟩:=two hr hE h;obtain⟨q,new,news,g2,G,E⟩:=Kz hr hM W Q g1;have hlen:∀w',(Builtin.lenOf N).run prog w'= .ok q w':=λw'=>by cases E<;>simp[Builtin.lenOf]
   have go:∀(A:Option Addr) (n k r:Nat) (I:SV) (s:Mem) (w':World),va= .slice A n k->Nat.min q n=r->(match A with|some a=>(storeCells a (news.take (r*z))).run prog w= .ok () w'|none=>w'=w)->c (.v I) s=res->SR ρ I (.int .i64 (r:Int))->MR w0 ρ s w'->xs prog fD fC [] gp.gL full (Good w0 ρ c res env dst) [⟨dst,.call {callee:= .builtin .copy,args:=⟨[x,y]⟩,argTypes:=⟨[t,u]⟩},ty,pos,af,none⟩] env w:=λA n k r I s w' D F g hc Y R=>by
    subst D;have J:=XW E r (by rw[←F];exact Nat.min_le_left _ _)
    have V:(Builtin.copy_ #[t,u] ty #[.slice A n k,N]).run prog w= .ok (.int .i64 (r:Int)) w':=by
     cases A with
     |none=>
      have g:w'=w:=g;subst g;simp[Builtin.copy_,run_underlying hu,sizeOf,typeInfo,hi,K,hlen,F,J,goInt]
     |some a=>
      have g:(storeCells a (news.take (r*z))).run prog w= .ok () w':=g;simp[Builtin.copy_,run_underlying hu,sizeOf,typeInfo,hi,K,hlen,F,J,g,goInt]
    refine xw (by grind [fX,Op.operands,Call.operands]) fx (v:= .int .i64 (r:Int)) (w':=w') ?_ ⟨_,s,ρ,_,hc,Up.refl ρ,Y,R,rfl⟩ trivial;simp[execOp,resolve,invoke,builtin,fM h1,fM O,V]
   have gt:∀(id d j n k:Nat) (p:At),va= .slice (some ⟨p.b,j*d,none⟩) n k->ρ[id]? =some p->cpT σ c z id d j n q new=res->xs prog fD fC [] gp.gL full (Good w0 ρ c res env dst) [⟨dst,.call {callee:= .builtin .copy,args:=⟨[x,y]⟩,argTypes:=⟨[t,u]⟩},ty,pos,af,none⟩] env w:=λid d j n k p D B h=>by
    obtain⟨M,g3⟩:=fO h hr;have M:=jd M;rw[gP]at g3;rcases xE (Nat.min q n)with h0|h0
    ·rw[h0]at g3;refine go _ n k 0 (.n .i64 0) σ w D h0 ?_ g3 ⟨rfl,iy _⟩ hM;rw[td];rfl
    ·obtain⟨r,H⟩:∃r,Nat.min q n=r+1:=mu;have U:r+1<=q:=by rw[←H];exact Nat.min_le_left _ _
     rw[H]at g3;have g4:(fP (new.take (Nat.mul (r+1) z)) λl=>fN (Nat.mul j z) λo=>RZ σ id o l λσ=>lnK σ c (r+1))=res:=g3;rw[nF,gP]at g4;have Z:=E.len;have aa:=G.len;have hle:(r+1)*z<=q*z:=qk z U;have ab:0<(r+1)*z:=fS
     ·obtain⟨s,g5,g6,g7,g8,_⟩:=sy hr hM g4 B (G.take ((r+1)*z)) fS;obtain⟨S,g9⟩:=fO g5 hr;refine go _ n k (r+1) _ s _ D H ?_ g9 ⟨rfl,iY S⟩ g8;have g:=run_storeCells_cells (P:=prog) p.b (j*d) (news.take ((r+1)*z)) 0 w fS fS ((G.take _).cells)
      grind
   rcases kL hr g2 with⟨e0,g3⟩|⟨id,d,j,n,e0,g3⟩|⟨id,d,j,n,ad,e0,g3⟩|⟨_,_,_,_,e0,g3⟩|⟨l,e0,g3⟩|⟨id,o,e0,g3⟩<;>subst e0
   ·exact go none 0 0 0 _ σ w C fS fx g3 ⟨rfl,iy _⟩ hM
   ·obtain⟨p,B,_,_,_,rfl⟩:=C;exact gt id d j n _ p fx B g3
   ·obtain⟨p,B,_,_,rfl⟩:=C;exact gt id d j n _ p fx B g3
   ·obtain⟨A,k,rfl,_⟩:=SR.Ev C;refine go A 0 k 0 _ σ w fx fS ?_ g3 ⟨rfl,iy _⟩ hM;cases A with
    |none=>rfl
    |some a=>
     rw[td];rfl
   ·exact absurd g3.symm hr
   ·exact absurd g3.symm hr
  ·exact absurd h.symm hr
 ·exact absurd h.symm hr
theorem aeq (h:(clW m t x).f ih e σ c=res):xs prog fD fC [] gp.gL full (Good w0 ρ c res env dst) [⟨dst,.call {callee:= .builtin .clear,args:=⟨[x]⟩,argTypes:=⟨[t]⟩},ty,pos,af,none⟩] env w:=by
 unfold clW at h;split at h
 ·rename_i el z F;obtain⟨hu,M⟩:=iR F;split at h
  ·rename_i zs J;split at h
   ·rename_i k1 k2;rw[iJ,rr]at h;have k1:=jd k1;have k2:=iY k2;obtain⟨i,v,hi,H,D⟩:=rP (ρ:=ρ) J;obtain⟨a,va,h1,u,g1⟩:=gk hr hE h
    have none:∀(A:Option Addr) (k:Nat),va= .slice A 0 k->c (.t []) σ=res->xs prog fD fC [] gp.gL full (Good w0 ρ c res env dst) [⟨dst,.call {callee:= .builtin .clear,args:=⟨[x]⟩,argTypes:=⟨[t]⟩},ty,pos,af,none⟩] env w:=λA k y hc=>by
     subst y
     have C:(Builtin.clear_ #[t] ty #[.slice A 0 k]).run prog w= .ok (.tuple #[]) w:=by
      cases A<;>simp[Builtin.clear_,run_underlying hu]
     refine xw (v:= .tuple #[]) (w':=w) (by grind [fX,Op.operands,Call.operands]) fx ?_ ⟨_,σ,ρ,_,hc,Up.refl ρ,⟨[],.nil,rfl⟩,hM,rfl⟩ trivial;simp[execOp,resolve,invoke,builtin,fM h1,C]
    have gt:∀(id d j n k:Nat) (p:At),va= .slice (some ⟨p.b,j*d,Option.none⟩) n k->ρ[id]? =some p->clT σ c z zs id d j n=res->xs prog fD fC [] gp.gL full (Good w0 ρ c res env dst) [⟨dst,.call {callee:= .builtin .clear,args:=⟨[x]⟩,argTypes:=⟨[t]⟩},ty,pos,af,Option.none⟩] env w:=λid d j n k p y g h=>by
     obtain⟨s,g3⟩:=fO h hr;have s:=jd s;cases n with
     |zero=>exact none _ k y g3
     | succ n=>
      have g4:(fP (rep zs (n+1)) λl=>fN (Nat.mul j z) λo=>RZ σ id o l λσ=>c (.t []) σ)=res:=g3;rw[nF,gP]at g4;have B:=xX D (n+1);rw[k1]at B;have hlen:(rep zs (n+1)).length=(n+1)*z:=by rw[x0,k1]
      have L:0<(n+1)*z:=fS;obtain⟨K,g5,g6,g7,g8,_⟩:=sy hr hM g4 g B fy;subst y;have E:=run_storeCells_cells (P:=prog) p.b (j*d) (madeCells v.cells ((n+1)*z)).toList 0 w (by rw[s];simpa using g6) (by rw[s];simpa using g7) B.cells;rw[kS]at E;have G:v.cells.size=z:=by rw[←k1,←pb,D.len]
      have I:Builtin.zeroCells v.cells (n+1)=madeCells v.cells ((n+1)*z):=by
       unfold Builtin.zeroCells madeCells;rw[G]
      have C:(Builtin.clear_ #[t] ty #[.slice (some ⟨p.b,j*d,Option.none⟩) (n+1) k]).run prog w= .ok (.tuple #[]) (w.setCells p.b (j*d) (madeCells v.cells ((n+1)*z)).toList):=by
       simp[Builtin.clear_,run_underlying hu,zeroValue,typeInfo,hi,H,I,E]
      rw[s]at C;refine xw (v:= .tuple #[]) (by grind [fX,Op.operands,Call.operands]) fx (w':=w.setCells p.b (j*z) (madeCells v.cells ((n+1)*z)).toList) ?_ ⟨_,K,ρ,_,g5,Up.refl ρ,⟨[],.nil,rfl⟩,g8,rfl⟩ trivial
      simp_all [execOp,resolve,invoke,builtin,fM]
    rcases kL hr g1 with⟨e0,g3⟩|⟨id,d,j,n,e0,g3⟩|⟨id,d,j,n,N,e0,g3⟩|⟨_,_,_,_,e0,g3⟩|⟨l,e0,g3⟩|⟨id,o,e0,g3⟩<;>subst e0
    ·exact none Option.none 0 u g3
    ·obtain⟨p,g,_,_,_,rfl⟩:=u;exact gt id d j n _ p fx g g3
    ·obtain⟨p,g,_,_,rfl⟩:=u;exact gt id d j n _ p fx g g3
    ·obtain⟨A,k,rfl,_⟩:=SR.Ev u;exact none A k fx g3
    ·exact absurd g3.symm hr
    ·exact absurd g3.symm hr
   ·exact absurd h.symm hr
  ·exact absurd h.symm hr
 ·exact absurd h.symm hr
omit hr hE hM in
theorem VT {k0 k1:IntKind} {a:Int} (g:gh env x=some (.int k1 a)) (f:kindOf s=some k0) (ht:kindOf t=some k) {K:Env->World->Prop} {H:World->Prop} 
  (h:xs prog fD fC hs H full K rest ((d,.int k (k.wrap a))::env) w):xs prog fD fC hs H full K (⟨some d,.convert s t x,ty,pos,af,none⟩::rest) env w:=by
 exact y16
end
end
section
theorem Mw {a:TypeId} (hs:w.shape? b=some (a,n)) {g:Nat} (h:Bk w g t cs):Bk (w.freeze ⟨b,n,none⟩ 1) g t cs:=by
 obtain⟨f,h,m⟩:=h;unfold World.freeze;rw[if_neg fV]
 by_cases d:b=g
 ·subst d
  have s:n=cs.size:=by
   unfold World.shape? at hs;rw[h]at hs;have:=jk hs;exact fS
  refine⟨if f.1==f.2 then(n,n+1)else(min f.1 n,max f.2 (n+1)),?_,.inl ?_⟩<;>grind
 ·refine⟨f,?_,m⟩
  grind
theorem Pa (P:Program) (a:Addr) (w:World):∃w',(markStringish a).run P w= .ok () w'/\Fr (λk=>k=a.block) w w'/\(∀g t cs,Bk w g t cs->Bk w' g t cs)/\∀g l,tY w g l->tY w' g l:=by
 cases hs:w.shape? a.block with
 |none=>simp_all [markStringish,Fr.refl]
 |some p=>
  obtain⟨f,n⟩:=p;have d:Fr (λk=>k=a.block) w (w.freeze ⟨a.block,n,none⟩ 1):=⟨rfl,rfl,rfl,by simp[World.freeze],by grind [World.freeze]⟩;refine⟨w.freeze ⟨a.block,n,none⟩ 1,by simp[markStringish,hs],d,by grind [Mw],λg l h=>h.fr d λe=>?_⟩;have e:g=a.block:=e;subst e;obtain⟨es,clock,h1,_⟩:=h
  grind [World.shape?]
section
variable {m:Nat} {ih:Cl} {e:En} {σ:Mem} {c:Kt} {res:Rs} {ρ:Pl} {env:Env} {w0:Fm} {w:World} {full:Array Oper} {d:Tmp} {dst:Option Tmp} {ty:TypeId} {pos:String} {af:Array Edge} (hr:res≠ .no)
include hr
theorem xQ {ρ:Pl}:∀{l:List SV} {vs:List Value} {k:List Nat->Rs},byK l k=res->jU ρ l vs->∃r,r.length=l.length/\(∀c∈r,c<256)/\vs=(jD r).map (λb=>Value.int .u8 (b.toNat:Int))/\k r=res
 |[],vs,k,h,d=>by
  cases d;exact⟨[],rfl,fS,rfl,h⟩
 | x::l,vs,k,h,d=>by
  cases d with
  |cons h1 s=>
   obtain⟨q,a,e0,g1⟩:=im hr (show tX (.v x) (λq a=>sI q .u8 (byK l λr=>k (a::r)))=res from h);obtain⟨g,g2⟩:=iv hr g1;obtain⟨r,g3,g4,g5,g6⟩:=xQ g2 s;have m:x= .n q a:=by injection e0
   subst m;subst g;obtain⟨_,t,f⟩:=h1;have u:a<256:=by have f:a<=255:=f;omega
   grind [jD,UInt8.toNat_ofNat',Nat.mod_eq_of_lt]
theorem Lt {r:Rs} (h:rvK c r=res):∃v e' a,r= .mk (.val v) e' a/\c v a=res:=by
 cases r with
 |no=>exact absurd h.symm hr
 |mk x e' a=>
  cases x with
  |val v=>exact⟨v,e',a,rfl,h⟩
  |_=>exact absurd h.symm hr
variable (hE:ER m ρ e env) (hM:MR w0 ρ σ w)
include hE hM
theorem ade (h:(Xe m s t x).f ih e σ c=res):xs prog fD fC [] gp.gL full (Good w0 ρ c res env (some d)) [⟨some d,.convert s t x,ty,pos,af,none⟩] env w:=by
 unfold Xe at h;split at h
 ·rename_i k hk;split at h
  ·rename_i k0 F;obtain⟨a,v,h1,g,g1⟩:=gk hr hE (show(iz m x).f e _=res from h);rcases oQ hr g1 with⟨k1,b,e0,g2⟩|⟨k1,b,e0,g2⟩<;>subst e0
   ·exact y42
   ·exact y42
  ·rename_i F;split at h
   ·rename_i hu;obtain⟨a,v,h1,g,g1⟩:=gk hr hE fy;obtain⟨n,e0,g2⟩:=yc hr g1;subst e0;obtain⟨rfl,B⟩:=g
    have M:floatToIntVal .f64 (fw n) .i64=some (n:Int):=by
     unfold floatToIntVal;rw[Pz fy];dsimp only;rw[if_pos (by grind [IntKind.min,IntKind.max,IntKind.signed,IntKind.bits])]
    have E:fD s=false:=by unfold fD;rw[F];rfl
    have u:fC t=false:=by
     cases L:fC t with
     |false=>rfl
     |true=>
      have ap:=hR L
      simp_all [iF]
    refine xw (v:= .int .i64 (n:Int)) (w':=w) (by grind [fX,Op.operands]) (by simp[cls,E,u]) ?_ ⟨_,σ,ρ,_,g2,Up.refl ρ,⟨rfl,by show n<=9223372036854775807;omega⟩,hM,rfl⟩ trivial;simp[execOp,fM h1,run_convert_float_int (P:=prog) w s t .f64 .i64 (fw n) n (by rw[hu];rfl) (iF hk) M]
   ·exact absurd h.symm hr
 ·rename_i hk;have E:fD t=false:=by unfold fD;rw[hk];rfl
  split at h
  ·rename_i u
   have S:iT fD fC [] ⟨some d,.convert s t x,ty,pos,af,none⟩= .r:=by
    simp[iT,cls,E,u,nK]
   split at h
   ·rename_i Q;obtain⟨a,v,h1,g,g1⟩:=gk hr hE h;obtain⟨l,e0,g2⟩:=ly hr g1;subst e0;have D:=g;obtain⟨rfl,_⟩:=g;refine gR fx (by grind [fX,Op.operands]) ?_;rw[S];refine⟨_,?_,_,σ,ρ,_,g2,Up.refl ρ,D,hM,rfl⟩
    simp_all [execOp,convert,fM,run_underlying,hR]
   ·split at h
    ·rename_i el J;split at h
     ·rename_i G;obtain⟨hu,al⟩:=iR J;obtain⟨a,v,h1,g,g1⟩:=gk hr hE h;obtain⟨q,new,news,g2,B,R⟩:=Es (t:=s) hr hM g g1;obtain⟨r,f1,f2,f3,f4⟩:=xQ hr g2 B;obtain⟨I,f5⟩:=fO f4 hr;have I:=iY I
      have hlen:(jD r).length=q:=by
       have:=R.len;rw[B.len]at this;simp[jD];omega
      refine gR fx (by grind [fX,Op.operands]) ?_;rw[S];refine⟨.string (su (jD r)),?_,_,σ,ρ,_,f5,Up.refl ρ,⟨rfl,f2,I⟩,hM,rfl⟩
      have H:(convert s t v).run prog w= .ok (.string (su (jD r))) w:=by
       cases R with
       | @sl A _ V _ ar ag ak=>
        cases A with
        |none=>
         have h0:=ak rfl;have C:jD r=[]:=fS;rw[run_convert_bytes_nil w s el hu (iF G) _ _ t (hR u),C];rfl
        | some O=>
         have:=run_convert_bytes_back (P:=prog) w s t el O V (jD r) hu (iF G) (hR u) (λj ai=>by
          refine ag O fx j _ ?_;rw[f3,qX,kp ai]
          rfl)
         rw[hlen]at this;exact this
       |st av _=>
        grind
      simp_all [execOp,fM]
     ·exact absurd h.symm hr
    ·exact absurd h.symm hr
  ·rename_i u;split at h
   ·rename_i el J;obtain⟨hu,al⟩:=iR J;split at h
    ·rename_i G;have T:cls fD fC (.convert s t x)= .w:=by simp[cls,E,u]
     split at h
     ·rename_i Q;obtain⟨a,v,h1,g,g1⟩:=gk hr hE h;obtain⟨l,e0,g2⟩:=ly hr g1;rw[gP]at g2;obtain⟨au,g3⟩:=fO g2 hr;rw[nF]at g3;subst e0;obtain⟨rfl,X,Y⟩:=g;have H:=run_bytes_of_string (P:=prog) w s t el (su (jD l)) (hR Q) hu (iF G);have U:(su (jD l)).size=l.length:=by rw[ko];simp[jD]
      have ah:=grownCap_ge w (su (jD l)).size 0 el;have hle:=grownCap_le_maxLen w (su (jD l)).size 0 el (by rw[U];exact Y);generalize grownCap w (su (jD l)).size 0 el=k at H ah hle
      have aq:(bytesRow (su (jD l)) k).size=k:=by
       simp only[bytesRow,F4,Array.size_map,Array.size_replicate];show(su (jD l)).size+_=_
       omega
      refine xw (by grind [fX,Op.operands]) T (v:= .slice (some ⟨w.heap.size,0,none⟩) (su (jD l)).size k) (w':=w.drew.alloc (.cells (bytesRow (su (jD l)) k) el ((bytesRow (su (jD l)) k).size,(bytesRow (su (jD l)) k).size+1))) ?_ ?_ trivial
      ·simp_all [execOp,fM]
      ·have aa:Bk (w.drew.alloc (.cells (bytesRow (su (jD l)) k) el ((bytesRow (su (jD l)) k).size,(bytesRow (su (jD l)) k).size+1))) w.heap.size el (bytesRow (su (jD l)) k):=⟨_,heap_alloc_new w.drew _,.inl (gJ _)⟩;obtain⟨ao,q1,q2,q3⟩:=pt hr hM k 1 g3 fy aa (by grind [List.getElem?_eq_some_iff,bytesRow,Array.getElem?_append_left,su]) ((Fr.drew _ w).t (Fr.alloc _ _ _)) (zh ρ X);refine⟨_,ao,_,_,q1,Up.snoc _ _,⟨⟨w.heap.size,k,1⟩,q3,rfl,by grind,hle,by rw[U];simp⟩,q2,rfl⟩
     ·split at h
      ·rename_i ae;have L:=jd ae;subst L;obtain⟨a,v,h1,g,g1⟩:=gk hr hE h
       have go:∀(A:Addr) (n k:Nat),v= .slice (some A) n k->w0.may A.block->c a σ=res->xs prog fD fC [] gp.gL full (Good w0 ρ c res env (some d)) [⟨some d,.convert s s x,ty,pos,af,none⟩] env w:=λA n k M Z hc=>by
        obtain⟨w',H,ab,ad,aj⟩:=Pa prog A w;refine xw (by grind [fX,Op.operands]) T (v:=v) (w':=w') ?_ ⟨_,σ,ρ,_,hc,Up.refl ρ,g,hM.as ab Z ad aj,rfl⟩ trivial;subst M;simp[execOp,fM h1,convert,run_underlying hu,run_underlying (iF G),H]
       rcases kL hr g1 with⟨e0,g3⟩|⟨id,an,j,n,e0,g3⟩|⟨id,an,j,n,aw,e0,g3⟩|⟨_,_,_,_,e0,g3⟩|⟨l,e0,g3⟩|⟨id,o,e0,g3⟩<;>subst e0
       ·exact absurd g3.symm hr
       ·have D:=g;obtain⟨p,K,_,_,_,C⟩:=D;exact y33
       ·have D:=g;obtain⟨p,K,_,_,C⟩:=D;exact y33
       ·exact absurd g3.symm hr
       ·exact absurd g3.symm hr
       ·exact absurd g3.symm hr
      ·exact absurd h.symm hr
    ·exact absurd h.symm hr
   ·split at h
    ·rename_i k0 hu F;obtain⟨a,v,h1,g,g1⟩:=gk hr hE fy;obtain⟨k1,n,e0,g2⟩:=im hr g1;obtain⟨B,g3⟩:=fO g2 hr;have B:=iY B;subst e0;obtain⟨rfl,_⟩:=g;refine xw (v:= .float .f64 (fw n)) (w':=w) (by simp[fX,Op.operands,h1]) (by simp[cls,E,u]) ?_ ⟨_,σ,ρ,_,g3,Up.refl ρ,⟨rfl,B⟩,hM,rfl⟩ trivial;have W:ev env x= .int k1 (n:Int):=fM h1;simp[execOp,W,run_convert_int_float (P:=prog) w s t k1 .f64 (n:Int) (by simp_all [iF]) hu,floatOfInt,fw]
    ·exact absurd h.symm hr
def kr (w0:Fm) (ih:Cl):Prop:=∀f al σ v e' d (ρ:Pl) vs w,ih f al σ= .mk (.val v) e' d->A1 ρ al vs->MR w0 ρ σ w->fL prog f vs.toArray w (λval w'=>∃a,Up ρ a/\AR a v val/\MR w0 a d w')
omit hr hE hM in
theorem GM {al:List AV} {cl:List SV} {cs:List Value} (a:A1 ρ al vs) (hc:jU ρ cl cs):A1 ρ (al++cl.map AV.v) (vs++cs):=by
 induction a with
 |nil=>
  show A1 ρ (cl.map AV.v) cs
  induction hc with
  |nil=>exact .nil
  |cons h1 _ ih=>exact .cons h1.2 ih
 |cons h1 _ ih=>exact .cons h1 ih
omit hE hM in
theorem TL {al:List AV} (d:A1 ρ al vs) (h:ad3 σ c al=res):∃a b q,vs=[.int .u64 (a:Nat),.int .u64 (b:Nat),.int .u64 (q:Nat)]/\a<18446744073709551616/\b<18446744073709551616/\q<=1/\c (.t [.v (.n .u64 ((a+b+q)% 18446744073709551616)),.v (.n .u64 ((a+b+q)/18446744073709551616))]) σ=res:=by
 cases d with
 |nil=>exact absurd h.symm hr
 | cons h1 d=>
  cases d with
  |nil=>exact absurd h.symm hr
  | cons f d=>
   cases d with
   |nil=>exact absurd h.symm hr
   | cons g d=>
    cases d with
    |cons _ _=>exact absurd h.symm hr
    |nil=>
     obtain⟨k1,a,m,q1⟩:=im hr (show adR σ c _ _ _=res from h);obtain⟨p1,q2⟩:=iv hr q1;obtain⟨k2,b,s,q3⟩:=im hr q2;obtain⟨p2,q4⟩:=iv hr q3;obtain⟨k3,q,u,q5⟩:=im hr q4;obtain⟨w,q6⟩:=iv hr q5;obtain⟨g2,g1⟩:=fO q6 hr;clear q1 q2 q3 q4 q5 q6 h;subst m;subst s;subst u;rw[gP,gP,gP]at g1;subst p1;subst p2;subst w;obtain⟨rfl,h1⟩:=h1;obtain⟨rfl,f⟩:=f;obtain⟨rfl,g⟩:=g;have h1:a<=18446744073709551615:=h1;have f:b<=18446744073709551615:=f;exact⟨a,b,q,rfl,fy,by omega,mu,g1⟩
def aec (f:Nat):Prop:=∀(a b q:Nat) (w:World),a<18446744073709551616->b<18446744073709551616->q<=1->(callFunc f #[.int .u64 (a:Int),.int .u64 (b:Int),.int .u64 (q:Int)]).run prog w= .ok (.value (.tuple #[.int .u64 (((a+b+q)% 18446744073709551616:Nat):Int),.int .u64 (((a+b+q)/18446744073709551616:Nat):Int)])) w
omit hr hE hM in
theorem ZP (h:PA=some f):aec f:=by
 have e:246=f:=jk h;subst e;intro a b q w d g hq;rw[run_callFunc_extern func246 fF fF fF (e:=add64Entry) fF,run_add64 a b q fy fy fy fy];simp only[Result.andThen]
 congr 5<;>omega
theorem QM (C:kr w0 ih) {k:Callee} {a:List Operand} {ts:List TypeId} (h:(caW m k a ts).f ih e σ c=res) (K:∀b,k≠ .builtin b):xs prog fD fC [] gp.gL full (Good w0 ρ c res env dst) [⟨dst,.call {callee:=k,args:=a.toArray,argTypes:=ts.toArray},ty,pos,af,none⟩] env w:=by
 unfold caW at h;split at h
 ·rename_i f;split at h
  ·rename_i u;obtain⟨al,vs,h1,d,g1⟩:=rK hr hE fy;obtain⟨v,e',n,g2,g3⟩:=Lt hr g1;refine fI h1 u (C f al σ v e' n ρ vs w g2 d hM) (λval w' s=>?_);obtain⟨B,r1,r2,r3⟩:=s;exact⟨v,n,B,val,g3,r1,r2,r3,rfl⟩
  ·split at h
   ·rename_i q hq;split at h
    ·rename_i M;obtain rfl:=jd M;obtain⟨al,vs,h1,d,g1⟩:=rK hr hE fy;obtain⟨x,y,z,rfl,D,E,F,g2⟩:=TL hr d g1;obtain⟨k1,k2⟩:=n4 h1;refine xw (v:= .tuple #[.int .u64 (((x+y+z)% 18446744073709551616:Nat):Int),.int .u64 (((x+y+z)/18446744073709551616:Nat):Int)]) (by grind [fX,Op.operands,Call.operands,gh]) fx (w':=w) ?_ ?_ trivial
     ·have N:ev env (.func q)= .func (.func q) #[] #[]:=rfl;have Q:=ZP hq x y z w D E F
      grind [execOp,resolve,Deferred.ofValue,invoke]
     ·refine⟨_,σ,ρ,_,g2,Up.refl ρ,?_,hM,rfl⟩;exact⟨_,.cons ⟨rfl,by show _<=18446744073709551615;omega⟩ (.cons ⟨rfl,by show _<=18446744073709551615;omega⟩ .nil),rfl⟩
    ·exact absurd h.symm hr
   ·exact absurd h.symm hr
 ·rename_i t;obtain⟨q,h1,g1⟩:=pZ hr fy;obtain⟨O,d,G⟩:=hE t q h1;obtain⟨al,vs,H,I,g2⟩:=rK hr hE g1;obtain⟨g,cl,e0,g3⟩:=S5 hr g2;obtain⟨u,g4⟩:=fO g3 hr;rw[nF]at g4;obtain⟨v,e',n,g5,g6⟩:=Lt hr g4;subst e0;obtain⟨cs,J,rfl⟩:=G;have L:=C g _ σ v e' n ρ (vs++cs) w g5 (GM I J) hM;refine vQ (cap:=cs.toArray) d H u (by rw[List.append_toArray];exact L) (λval w' s=>?_);obtain⟨B,r1,r2,r3⟩:=s;exact⟨v,n,B,val,g6,r1,r2,r3,rfl⟩
 ·rename_i b;exact absurd fx (K b)
 ·exact absurd h.symm hr
end
end
section
theorem GS (h:mpT t=true):∃f d,prog.underlying t=some (.map f d)/\prog.underlying f=some (.int .i64)/\∀w:World,(zeroValue d).run prog w= .ok (.int .i64 0) w:=by
 unfold mpT at h;split at h
 ·rename_i f d hu;split at h
  ·rename_i hk;refine⟨f,d,hu,iF hk,λw=>?_⟩;unfold Z4 at h;split at h
   ·rename_i n a;have h:=jd h;subst h;cases hi:prog.info? d with
    |none=>rw[hi]at a;cases a
    |some i=>
     rw[hi]at a;have a:i.zero=some (.int .i64 (Int.ofNat 0)):=a;simp[zeroValue,typeInfo,hi,a]
   ·cases h
  ·cases h
 ·cases h
theorem OC {d:TypeId} (h:Z4 ((prog.info? d).bind (·.zero))=true) (w:World):(zeroValue d).run prog w= .ok (.int .i64 0) w:=by
 unfold Z4 at h;split at h
 ·rename_i n a;have h:=jd h;subst h;cases hi:prog.info? d with
  |none=>rw[hi]at a;cases a
  |some i=>
   rw[hi]at a;have a:i.zero=some (.int .i64 (Int.ofNat 0)):=a;simp[zeroValue,typeInfo,hi,a]
 ·cases h
theorem P8 (h:mpS t=true):∃d a,prog.underlying t=some (.map d a)/\prog.underlying d=some .string/\∀w:World,(zeroValue a).run prog w= .ok (.int .i64 0) w:=by
 unfold mpS at h
 grind [OC]
theorem Tf {g:Nat} (f:tY w g []) (t a d:TypeId) (hu:prog.underlying t=some (.map a d)) (hk:prog.underlying a=some .string) (u:(zeroValue d).run prog w= .ok (.int .i64 0) w) (s:ByteArray):
  (Instr.lookup t (.map (some g)) (.string s) false).run prog w= .ok (.int .i64 0) w:=by
 obtain⟨es,clock,h1,v⟩:=f;have he:es.toList=[]:=mu;have hc:(Instr.checkKey es.isEmpty 10000 a (.string s)).run prog w= .ok () w:=by grind [MapKept.run_checkKey,MapKept.IsKey]
 have n:(getObj g).run prog w= .ok (.map es clock) w:=by simp[getObj,Sem.run,h1]
 have m:(Instr.findKey a (.string s) es.toList).run prog w= .ok none w:=by
  rw[he];simp[Instr.findKey,run_underlying hk,Instr.findNow]
 simp only[Instr.lookup,sD,run_underlying hu,sM,n,hc,P0,m];simp[u]
theorem P3 {l:List (Nat×Nat)} {r:Rs} (a:res≠ .no) (h:aak l r=res):l=[]/\r=res:=by
 cases l with
 |nil=>exact⟨rfl,h⟩
 |cons _ _=>exact absurd h.symm a
theorem Eh {x:AV} {f:Nat->Rs} (a:res≠ .no) (h:onM x f=res):∃id,x= .v (.mp id)/\f id=res:=by
 cases x with
 |v x=>cases x<;>first|exact⟨_,rfl,h⟩|exact absurd h.symm a
 |_=>exact absurd h.symm a
theorem El {α:Type} {x:Option α} {f:α->Rs} (d:res≠ .no) (h:asK x f=res):∃a,x=some a/\f a=res:=by
 cases x with
 |none=>exact absurd h.symm d
 |some a=>exact⟨a,rfl,h⟩
theorem zM (a:Nat):∀l:List (Nat×Nat),A2 (a:Int) (ints l)=(Hb a l).map Int.ofNat
 |[]=>rfl
 |(i,x)::l=>by
  rw[rD];show(if((i:Nat):Int)=(a:Int)then some (x:Int)else A2 (a:Int) (ints l))=_
  rw[zM a l]
  grind
theorem MR.WW {a:Mem} (h:MR w0 ρ a w) (m:Ext w w') (K:tY w' w.heap.size []):MR w0 (ρ++[⟨w.heap.size,0,0⟩]) ⟨a.n+1,a.h,(a.n,[])::a.mp⟩ w':=by
 have hu:=Up.snoc ρ ⟨w.heap.size,0,0⟩;have M:(ρ++[(⟨w.heap.size,0,0⟩:At)])[a.n]? =some ⟨w.heap.size,0,0⟩:=by rw[←h.len];simp
 have old:∀id o p,(hY a id o).isSome=true->(ρ++[(⟨w.heap.size,0,0⟩:At)])[id]? =some p->ρ[id]? =some p:=λid o p hs y=>by
  obtain⟨x,u⟩:=qQ.1 hs;obtain⟨q,_,_,_,h1,_⟩:=h.at_ u
  grind
 have hm:=h.yI.to (w0':=w0) hu (λ_ _ s=>s.ext m) λ_ _ _ s=>s
 refine⟨by simp[h.len],λid N h1 D=>?_,h.old.te m,λid o p hs y=>h.xj id o p hs (old id o p hs y),h.pre,λid f o o' p g t d a2 a3 a4=>h.apart id f o o' p g t d a2 (old id o p d a3) (old f o' g a2 a4),λid l h1=>?_,λid f l l' p g t d a2 a3 a4=>?_⟩
 ·obtain⟨p,cs,E,F,G,H⟩:=h.gH id N h1 D;refine⟨p,cs,hu _ _ E,F.ext m,G,λo x u=>?_⟩;obtain⟨v,I,J⟩:=H o x u;exact⟨v,I,J.up hu⟩
 ·rw[rD]at h1;split at h1
  ·rename_i L;subst L;obtain rfl:=jk h1;exact⟨_,M,K,.inl h.old.size⟩
  ·exact hm.1 id l h1
 ·have xj:∀id l p,Hb id a.mp=some l->(ρ++[(⟨w.heap.size,0,0⟩:At)])[id]? =some p->p.b<w.heap.size:=λid l p B C=>by
   obtain⟨q,c1,c2,_⟩:=h.yI.1 id l B;have:=hu _ _ c1;rw[C]at this;rw[jk this];exact c2.lt
  rw[rD]at d a2;split at d
  ·grind
  ·split at a2
   ·grind
   ·exact hm.2 id f l l' p g t d a2 a3 a4
theorem MR.Xs {a:Mem} {id:Nat} {l l':List (Nat×Nat)} (h:MR w0 ρ a w) (g:Hb id a.mp=some l) (m:ρ[id]? =some p) (d:Fr (· =p.b) w w') (F:tY w' p.b (ints l')):MR w0 ρ ⟨a.n,a.h,(id,l')::a.mp⟩ w':=by
 obtain⟨q,h1,u,v⟩:=h.yI.1 id l g;rw[m]at h1;obtain rfl:=jk h1;refine⟨h.len,λi D g1 g2=>?_,h.old.trans d λj G e=>?_,h.xj,h.pre,h.apart,λi k g1=>?_,λi s k f q E C t a2 a3 a4=>?_⟩
 ·obtain⟨q,cs,g3,g4,g5⟩:=h.gH i D g1 g2;exact⟨q,cs,g3,g4.fr d λe=>g4.Ih (by rw[show q.b=p.b from e];exact u),g5⟩
 ·have e:j=p.b:=e;subst e;exact v.resolve_left fy
 ·rw[rD]at g1;split at g1
  ·grind
  ·rename_i B;obtain⟨q,g2,g3,g4⟩:=h.yI.1 i k g1;exact⟨q,g2,g3.fr d λe=>h.yI.2 id i l k p q B g g1 m g2 fy,g4⟩
 ·have get:∀i k,Hb i ((id,l')::a.mp)=some k->∃f,Hb i a.mp=some f:=by grind [rD]
  obtain⟨b,x⟩:=get i k t;obtain⟨b',y⟩:=get s f a2;exact h.yI.2 i s b b' q E C x y a3 a4
section
variable {m:Nat} {ih:Cl} {e:En} {σ:Mem} {c:Kt} {res:Rs} {ρ:Pl} {env:Env} {w0:Fm} {w:World} {full:Array Oper} {d:Tmp} {ty:TypeId} {pos:String} {af:Array Edge} (hr:res≠ .no)
include hr
theorem Ze (m:MR w0 ρ σ w) (h:(mkM t).f ih e σ c=res):xs prog fD fC [] gp.gL full (Good w0 ρ c res env (some d)) [⟨some d,.makeMap t none,ty,pos,af,none⟩] env w:=by
 unfold mkM at h;split at h
 ·have h:fN (Nat.add σ.n 1) (λn=>c (.v (.mp σ.n)) ⟨n,σ.h,(σ.n,[])::σ.mp⟩)=res:=h;rw[gP]at h;exact aan λw' a g hs=>⟨_,_,_,_,h,Up.snoc ρ ⟨w.heap.size,0,0⟩,⟨⟨w.heap.size,0,0⟩,by grind [MR.len],rfl⟩,m.WW g a,rfl⟩
 ·exact absurd h.symm hr
variable (hE:ER m ρ e env) (hM:MR w0 ρ σ w)
include hE hM
theorem acI (h:(lkW m t x y).f ih e σ c=res):xs prog fD fC [] gp.gL full (Good w0 ρ c res env (some d)) [⟨some d,.lookup t x y true,ty,pos,af,none⟩] env w:=by
 unfold lkW at h;split at h
 ·rename_i ht;obtain⟨L,K,hu,hk,J⟩:=GS ht;obtain⟨a,va,h1,C,q0⟩:=gk hr hE h;clear h;obtain⟨b,M,D,E,q1⟩:=gk hr hE q0;clear q0;obtain⟨id,s,q2⟩:=Eh hr q1;clear q1;obtain⟨k,n,u,q3⟩:=im hr q2;clear q2;obtain⟨B,q4⟩:=iv hr q3;clear q3;obtain⟨l,H,h⟩:=El hr q4;clear q4;subst s;subst u;subst B;obtain⟨p,I,rfl⟩:=C;obtain⟨rfl,_⟩:=E;obtain⟨q,hq,F,_⟩:=hM.yI.1 id l H;rw[I]at hq;obtain rfl:=jk hq;refine xlk hu hk J F h1 D ?_;have G:=zM n l;show Good w0 ρ c res env (some d) ((d,.tuple #[.int .i64 ((A2 (n:Int) (ints l)).getD 0),.bool (A2 (n:Int) (ints l)).isSome])::env) w
  rw[G];unfold lkK at h;split at h
  ·rename_i v g;obtain⟨hle,h⟩:=fO h hr;rw[g];exact⟨_,σ,ρ,_,h,Up.refl ρ,⟨_,.cons (x:= .v (.n .i64 v)) ⟨rfl,iY hle⟩ (.cons (x:= .v (.b true)) fx .nil),rfl⟩,hM,rfl⟩
  ·rename_i g;rw[g];exact⟨_,σ,ρ,_,h,Up.refl ρ,⟨_,.cons (x:= .v (.n .i64 0)) ⟨rfl,iy _⟩ (.cons (x:= .v (.b false)) fx .nil),rfl⟩,hM,rfl⟩
 ·exact absurd h.symm hr
theorem aeu (h:(leW m t x y).f ih e σ c=res):xs prog fD fC [] gp.gL full (Good w0 ρ c res env (some d)) [⟨some d,.lookup t x y false,ty,pos,af,none⟩] env w:=by
 unfold leW at h;split at h
 ·rename_i ht;obtain⟨J,C,hu,hk,I⟩:=P8 ht;obtain⟨a,va,h1,D,q0⟩:=gk hr hE h;clear h;obtain⟨b,K,E,F,q1⟩:=gk hr hE q0;clear q0;obtain⟨id,n,q2⟩:=Eh hr q1;clear q1;obtain⟨s,u,q3⟩:=ly hr q2;clear q2;obtain⟨l,G,h⟩:=El hr q3;clear q3;obtain⟨B,h⟩:=P3 hr h;subst n;subst u;subst B;obtain⟨p,H,rfl⟩:=D;obtain⟨rfl,_⟩:=F;obtain⟨q,hq,g,_⟩:=hM.yI.1 id [] G;rw[H]at hq;obtain rfl:=jk hq;have g:tY w p.b []:=g;refine xw (v:= .int .i64 0) (w':=w) (by grind [fX,Op.operands]) fx ?_ ⟨_,σ,ρ,_,h,Up.refl ρ,⟨rfl,iy _⟩,hM,rfl⟩ True.intro;simp[execOp,fM h1,fM E,Tf g t J C hu hk (I w)]
 ·exact absurd h.symm hr
theorem adu {z:Operand} (h:(muW m t x y z).f ih e σ c=res):xs prog fD fC [] gp.gL full (Good w0 ρ c res env none) [⟨none,.mapUpdate t x y z,ty,pos,af,none⟩] env w:=by
 unfold muW at h;split at h
 ·rename_i ht;obtain⟨Q,K,hu,hk,N⟩:=GS ht;obtain⟨a,va,h1,D,q0⟩:=gk hr hE h;clear h;obtain⟨b,R,E,F,q1⟩:=gk hr hE q0;clear q0;obtain⟨g,S,G,H,q2⟩:=gk hr hE q1;clear q1;obtain⟨id,u,q3⟩:=Eh hr q2;clear q2;obtain⟨k,n,v,q4⟩:=im hr q3;clear q3;obtain⟨B,q5⟩:=iv hr q4;clear q4;obtain⟨O,n',e4,q6⟩:=im hr q5;clear q5;obtain⟨C,q7⟩:=iv hr q6;clear q6;obtain⟨l,d,h⟩:=El hr q7;clear q7;subst u;subst v;subst B;subst e4;subst C;obtain⟨p,s,rfl⟩:=D;obtain⟨rfl,_⟩:=F;obtain⟨rfl,_⟩:=H;obtain⟨q,hq,I,_⟩:=hM.yI.1 id l d;rw[s]at hq;obtain rfl:=jk hq;unfold muK at h;split at h
  ·exact absurd h.symm hr
  ·rename_i M;rw[nF]at h;refine ZT hu hk I (by grind [A2,ints,zM]) h1 E G λw' L J=>?_
   refine⟨_,_,ρ,undef,h,Up.refl ρ,rfl,hM.Xs d s J ?_,rfl⟩
   grind [ints]
 ·exact absurd h.symm hr
end
end
section
theorem WX {op:Op} (h:∀s t x,op≠ .convert s t x):Ym m op=Jz m op:=by
 unfold Ym;split
 ·exact absurd fx (h _ _ _)
 ·rfl
section
variable {m:Nat} {ih:Cl} {e:En} {σ:Mem} {c:Kt} {res:Rs} {ρ:Pl} {env:Env} {w0:Fm} {w:World} {full:Array Oper} {d:Tmp} {ty:TypeId} {pos:String} {af:Array Edge} (hr:res≠ .no)
include hr
theorem Uj {x:SV} {f:Nat->Rs} (h:bz1 x f=res) (u:CR ρ x v):∃q,f q=res/\(q<256∨∃p,ρ[q-256]? =some p/\p.b<256)/\v= .int .u8 ((oI ρ q).toNat:Int):=by
 unfold bz1 at h;split at h
 ·rename_i a;obtain⟨_,d,g⟩:=u;have m:a<256:=by have g:a<=255:=g;omega
  refine⟨a,h,.inl m,?_⟩;rw[d];unfold oI;rw[if_pos m];simp only[vI,ud m];rfl
 ·rename_i id;obtain⟨_,p,d,g,s,_⟩:=u;have t:p.b<256:=by have s:p.b<=255:=s;omega
  rw[gP]at h;have n:Nat.add 256 id-256=id:=by show 256+id-256=id;omega
  refine⟨_,h,.inr ⟨p,by rw[n];exact d,t⟩,?_⟩;rw[g];unfold oI;rw[if_neg (by show ¬(256+id<256);omega),n,d];simp only[vI,ud t];rfl
 ·exact absurd h.symm hr
theorem LD:∀{l:List SV} {vs:List Value} {k:List Nat->Rs},bzK l k=res->jU ρ l vs->∃r,r.length=l.length/\(∀q∈r,q<256∨∃p,ρ[q-256]? =some p/\p.b<256)/\vs=(r.map (oI ρ)).map (λb=>Value.int .u8 (b.toNat:Int))/\k r=res
 |[],vs,k,h,a=>by
  cases a;exact⟨[],rfl,(by intro c hc;cases hc),rfl,h⟩
 | x::l,vs,k,h,a=>by
  cases a with
  | cons h1 d=>
   obtain⟨q,g1,g2,g3⟩:=Uj hr (show bz1 x (λq=>bzK l λr=>k (q::r))=res from h) h1;obtain⟨r,g4,g5,g6,g7⟩:=LD g1 d;refine⟨q::r,by simp[g4],λc hc=>?_,?_,g7⟩
   ·rcases hX.1 hc with rfl|hc
    ·exact g2
    ·exact g5 c hc
   ·rw[g3,g6];rfl
variable (hE:ER m ρ e env) (hM:MR w0 ρ σ w)
include hE hM
theorem ack (old:W.f ih e σ c=res->xs prog fD fC [] gp.gL full (Good w0 ρ c res env (some d)) [⟨some d,.convert s t x,ty,pos,af,none⟩] env w)
  (h:(cuW m s t x W).f ih e σ c=res):xs prog fD fC [] gp.gL full (Good w0 ρ c res env (some d)) [⟨some d,.convert s t x,ty,pos,af,none⟩] env w:=by
 unfold cuW at h;split at h
 ·rename_i k k0 hk O;obtain⟨a,v,h1,B,h⟩:=gk hr hE (show(iz m x).f e _=res from h);unfold cuN at h;split at h
  ·rename_i k1 Q;obtain⟨n,rfl,D,_⟩:=qS Q B;obtain⟨n',y,R⟩:=AJ (yv hr h) (n:Int);refine VT h1 O hk ?_;rw[y];exact nW hr hM h n' R
  ·exact old h
 ·rename_i hk;split at h
  ·rename_i g;obtain⟨a,v,h1,B,g1⟩:=gk hr hE (show(iz m x).f e _=res from h);obtain⟨q,new,news,g2,D,F⟩:=Es (t:=s) hr hM B g1;unfold cuK at g2;split at g2
   ·obtain⟨r,f1,f2,f3,f4⟩:=LD hr g2 D;obtain⟨C,f5⟩:=fO f4 hr;have C:=iY C;unfold cuB at g;split at g
    ·rename_i el u U M;split at g
     ·rename_i G;have J:fD t=false:=by unfold fD;rw[hk];rfl
      have L:iT fD fC [] ⟨some d,.convert s t x,ty,pos,af,none⟩= .r:=by
       simp[iT,cls,J,u,nK]
      obtain⟨hu,X⟩:=iR M
      have hlen:(r.map (oI ρ)).length=q:=by
       have:=F.len;rw[D.len]at this;simp;omega
      refine gR fx (by simp[fX,Op.operands,h1]) ?_;rw[L];refine⟨.string (su (r.map (oI ρ))),?_,_,σ,ρ,_,f5,Up.refl ρ,⟨rfl,f2,C⟩,hM,rfl⟩
      have T:(convert s t v).run prog w= .ok (.string (su (r.map (oI ρ)))) w:=by
       cases F with
       | @sl A _ I _ V K S=>
        cases A with
        |none=>
         have h0:=S rfl;have y:r.map (oI ρ)=[]:=zf fy;rw[run_convert_bytes_nil w s el hu (iF G) _ _ t (hR u),y];rfl
        | some E=>
         have:=run_convert_bytes_back (P:=prog) w s t el E I (r.map (oI ρ)) hu (iF G) (hR u) (λj N=>by
          refine K E fx j _ ?_;rw[f3,qX,kp N]
          rfl)
         rw[hlen]at this;exact this
       |st H _=>
        have:=hR u;rw[hu]at H;cases H
      simp[execOp,fM h1,T]
     ·cases g
    ·cases g
   ·exact old g2
  ·exact old h
 ·exact old h
end
end
section
theorem ER.put {m:Nat} {ρ:Pl} {e e':En} {env:Env} {v:AV} {val:Value} {d:Option Nat} (h:ER m ρ e env) (u:AR ρ v val) (he:∀t a,Cq m e' t=some a->(d=some t/\a=v)∨(d≠some t/\Cq m e t=some a)):ER m ρ e' (gp.put env d val):=λt a f=>by
 rcases he t a f with⟨rfl,rfl⟩|⟨s,f⟩
 ·grind [gp.put,kf]
 ·obtain⟨g,h1,n⟩:=h t a f;cases d with
  |none=>exact⟨g,h1,n⟩
  |some d=>
   refine⟨g,?_,n⟩;show look ((d,val)::env) t=some g
   grind [kf]
section
variable {m:Nat} {ih:Cl} {e:En} {σ:Mem} {res:Rs} {ρ:Pl} {env:Env} {w0:Fm} {w:World} (hr:res≠ .no)
include hr
omit hr in
theorem lB {d:Option Nat} {v:AV} {c:En->Rs} (h:(FJ m d).f e v c=res):∃e',c e'=res/\e'.hs=e.hs/\e'.ms=e.ms/\∀t a,Cq m e' t=some a->(d=some t/\a=v)∨(d≠some t/\Cq m e t=some a):=by
 unfold FJ at h;cases d with
 |none=>grind
 | some d=>
  cases hk:kept m d with
  | true=>
   have n:Kd d v e.vs (λvs=>c ⟨vs,e.ts,e.hs,e.ms⟩)=res:=by
    have g:(match kept m d with
     |true=>(⟨λe v c=>Kd d v e.vs λvs=>c ⟨vs,e.ts,e.hs,e.ms⟩⟩:Wd)
     |false=>⟨λe v c=>c ⟨e.vs,(d,v)::e.ts,e.hs,e.ms⟩⟩).f e v c=res:=h
    rw[hk]at g;exact g
   obtain⟨l',h1,s⟩:=GB (t:=d) (v:=v) (l:=e.vs) (c:=λvs=>c ⟨vs,e.ts,e.hs,e.ms⟩)
   grind [Cq,lp,Option.some.inj,kept]
  |false=>
   grind [kept,Kd,Cq,lp,Option.some.inj]
theorem TH {x:AV} {want:Bool} {a b:Rs} (h:bqK x want a b=res):(∃q,x= .v (.b q)/\((q==want)=true/\a=res∨(q==want)=false/\b=res))∨(x= .v .u/\b=res):=by
 cases x with
 | v x=>
  cases x with
  |b q=>
   have d:yQ (eB q want) a b=res:=h
   grind [me,xa]
  |u=>exact .inr ⟨rfl,h⟩
  |_=>exact absurd h.symm hr
 |_=>exact absurd h.symm hr
variable (tQ:kr w0 ih) (hE:ER m ρ e env) (hM:MR w0 ρ σ w)
include tQ hE hM
omit tQ in
theorem aag {full:Array Oper} {c:Kt} {ty:TypeId} {pos:String} {af:Array Edge} {b:Builtin} {a:List Operand} {ts:List TypeId} (g:V5 d (.call {callee:= .builtin b,args:=a.toArray,argTypes:=ts.toArray})=true) (h:(bfW m b a ts).f ih e σ c=res):
  xs prog fD fC [] gp.gL full (Good w0 ρ c res env d) [⟨d,.call {callee:= .builtin b,args:=a.toArray,argTypes:=ts.toArray},ty,pos,af,none⟩] env w:=by
 unfold bfW at h;split at h
 ·cases d with
  |none=>cases g
  |some d=>exact aem hr hE hM h
 ·exact ab5 hr hE hM h
 ·exact acU hr hE hM h
 ·exact aeq hr hE hM h
 ·cases d with
  |none=>cases g
  |some d=>
   obtain⟨p,q,y,E,h1,D,n,C,g1⟩:=two hr hE h;obtain⟨u,e0,g2⟩:=yc hr g1;obtain⟨x,B,g3⟩:=yc hr g2;subst e0;subst B;obtain⟨rfl,s⟩:=n;obtain⟨rfl,t⟩:=C;refine xw (v:= .complex .f64 (fw u) (fw x)) (w':=w) (by grind [fX,Op.operands,Call.operands]) fx ?_ ⟨_,σ,ρ,_,g3,Up.refl ρ,⟨rfl,s,t⟩,hM,rfl⟩ trivial
   simp_all [execOp,resolve,invoke,builtin,run_complex,fM]
 ·cases d with
  |none=>cases g
  |some d=>
   obtain⟨p,y,h1,n,g1⟩:=gk hr hE fy;obtain⟨u,x,e0,g2⟩:=LC hr g1;subst e0;obtain⟨rfl,s,t⟩:=n;refine xw (v:= .float .f64 (fw u)) (w':=w) (by grind [fX,Op.operands,Call.operands]) fx ?_ ⟨_,σ,ρ,_,g2,Up.refl ρ,⟨rfl,s⟩,hM,rfl⟩ trivial;simp[execOp,resolve,invoke,builtin,fM h1,run_real]
 ·cases d with
  |none=>cases g
  |some d=>
   obtain⟨p,y,h1,n,g1⟩:=gk hr hE fy;obtain⟨u,x,e0,g2⟩:=LC hr g1;subst e0;obtain⟨rfl,s,t⟩:=n;refine xw (v:= .float .f64 (fw x)) (w':=w) (by grind [fX,Op.operands,Call.operands]) fx ?_ ⟨_,σ,ρ,_,g2,Up.refl ρ,⟨rfl,t⟩,hM,rfl⟩ trivial;simp[execOp,resolve,invoke,builtin,fM h1,run_imag]
 ·cases d with
  |none=>cases g
  |some d=>exact Zb (up:=false) hr hE hM h
 ·cases d with
  |none=>cases g
  |some d=>exact Zb (up:=true) hr hE hM h
 ·exact absurd h.symm hr
theorem Su {full:Array Oper} {c:Kt} {op:Op} (g:V5 d op=true) (h:(Jz m op).f ih e σ c=res):xs prog fD fC [] gp.gL full (Good w0 ρ c res env d) [⟨d,op,ty,pos,af,none⟩] env w:=by
 cases d with
 | none=>
  cases op with
  |store t x y=>exact aei hr hE hM h
  |mapUpdate t x y z=>exact adu hr hE hM h
  |call cl=>
   obtain⟨k,a,ts⟩:=cl
   by_cases u:∃b,k= .builtin b
   ·obtain⟨b,rfl⟩:=u;exact aag (a:=a.toList) (ts:=ts.toList) hr hE hM g h
   ·exact QM (a:=a.toList) (ts:=ts.toList) hr hE hM tQ h fS
  |_=>cases g
 | some d=>
  cases op with
  |move x=>exact Xq hr hE hM h
  |assign x=>exact RD hr hE hM h
  |pick x a b=>exact XE hr hE hM h
  |alloc t=>exact acB hr hM h
  |box t x=>exact ab0 hr hE hM h
  |build t ps=>exact aer (ps:=ps.toList) hr hE hM h
  |buildSlice t n ps=>exact adY (ps:=ps.toList) hr hE hM h
  |load t x=>exact adw hr hE hM h
  |nilCheck x=>exact Ik hr hE hM h
  |binOp op t x y C=>exact ZY hr hE hM h
  |unOp op t x=>
   cases op with
   |not=>exact aaQ hr hE hM h
   |neg=>exact Za hr hE hM h
   |_=>exact absurd h.symm hr
  |convert s t x=>exact ade hr hE hM h
  |makeFunc fn a b=>
   have v:(mfW m fn a.toList b.toList).f ih e σ c=res:=h;exact acV (a:=a.toList) (b:=b.toList) hr hE hM v
  |makeSlice t n q=>exact adj hr hE hM h
  |slice t x lo hi B=>exact adz hr hE hM h
  |fieldAddr s x f=>exact acg hr hE hM h
  |field t x k=>exact adP hr hE hM h
  |indexAddr t x i=>exact ac8 hr hE hM h
  |index t x i=>exact ad8 hr hE hM h
  |extract x k=>exact adt hr hE hM h
  |call cl=>
   obtain⟨k,a,ts⟩:=cl
   by_cases u:∃b,k= .builtin b
   ·obtain⟨b,rfl⟩:=u;exact aag (a:=a.toList) (ts:=ts.toList) hr hE hM fx h
   ·exact QM (a:=a.toList) (ts:=ts.toList) hr hE hM tQ h fS
  |store t x y=>cases g
  |mapUpdate t x y z=>cases g
  |makeMap t q=>
   cases q with
   |none=>exact Ze hr hM h
   |some q=>exact absurd h.symm hr
  |lookup t x y q=>
   cases q with
   |true=>exact acI hr hE hM h
   |false=>exact aeu hr hE hM h
  |_=>exact absurd h.symm hr
omit hr tQ hE hM in
theorem H0:∀(l:List Oper) (j:Nat),QY l j=GQ l j
 |[],_=>rfl
 |_::_,0=>rfl
 |_::r,j+1=>H0 r j
def Ul (w0:Fm) (m:Nat) (ρ:Pl) (hs:List Nt) (ms:List Mem) (c:Kr) (res:Rs):Env->World->Prop:=λf w'=>∃e' d a,c e' d=res/\e'.hs=hs/\e'.ms=ms/\Up ρ a/\ER m a e' f/\MR w0 a d w'
omit hr tQ hE hM in
theorem v7 {full:Array Oper} {K K':Env->World->Prop} (h:xs prog fD fC [] gp.gL full K' [o] env w) (hk:∀d w',K' d w'->xs prog fD fC [] gp.gL full K rest d w'):xs prog fD fC [] gp.gL full K (o::rest) env w:=by
 obtain⟨g,m,h1,f⟩:=h;exact⟨g,m,λa=>⟨(h1 a).1,kd trivial (λv w' _ hs=>hk _ _ hs) (h1 a).2⟩,λa=>hk _ _ (f a)⟩
omit tQ hM in
theorem kI {H:World->Prop} {K:Env->World->Prop} {y:Wo} {op:Op} {n:Option (Nat×Bool)} (h:(Sm m full ⟨d,op,ty,pos,af,n⟩ y).f ih e σ c=res)
  (go:y.f ih e σ c=res->xs prog fD fC hs H full.toArray K [⟨d,op,ty,pos,af,none⟩] env w)
  (no:∀e',c e' σ=res->e'.hs=e.hs->e'.ms=e.ms->ER m ρ e' (gp.put env d undef)->K (gp.put env d undef) w):xs prog fD fC hs H full.toArray K [⟨d,op,ty,pos,af,n⟩] env w:=by
 unfold Sm at h;cases n with
 |none=>exact go h
 | some D=>
  obtain⟨j,want⟩:=D
  have s:(match QY full j with
   |some g=>(⟨λih e σ c=>(Qq m g).f e λq=>bqK q want (y.f ih e σ c) ((FJ m d).f e (.v .u) λe=>c e σ)⟩:Wo)
   |none=>Zu).f ih e σ c=res:=h
  split at s
  ·rename_i g G;obtain⟨q,h1,g1⟩:=pZ hr s;obtain⟨val,B,a⟩:=hE g q h1
   have t:∀r,(match look env g with
    |some (.bool true)=>some want
    |some (.bool false)=>some (!want)
    |some _=>some false
    |none=>none)=some r->gv full.toArray env (some (j,want))=some r:=by grind [IB,ZN,H0]
   have C:(FJ m d).f e (.v .u) (λe=>c e σ)=res->gv full.toArray env (some (j,want))=some false->xs prog fD fC hs H full.toArray K [⟨d,op,ty,pos,af,some (j,want)⟩] env w:=λF E=>by
    obtain⟨e',k1,k3,k4,k2⟩:=lB F;exact xgn E (no e' k1 k3 k4 (hE.put (v:= .v .u) (val:=undef) fx k2))
   rcases TH hr g1 with⟨x,e0,⟨hq,g2⟩|⟨hq,g2⟩⟩|⟨e0,g2⟩
   ·subst e0;have a:val= .bool x:=a;subst a;refine xgy (t true ?_) (go g2);rw[B];cases x<;>cases want<;>first|rfl|cases hq
   ·subst e0;have a:val= .bool x:=a;subst a;refine C g2 (t false ?_)
    grind
   ·subst e0;have a:val=undef:=a;subst a;refine C g2 (t false ?_);rw[B];rfl
  ·exact absurd s.symm hr
theorem U1 {full:Array Oper} {c:Kt} {op:Op} (a:V5 d op=true) (h:(Ym m op).f ih e σ c=res):xs prog fD fC [] gp.gL full (Good w0 ρ c res env d) [⟨d,op,ty,pos,af,none⟩] env w:=by
 cases op with
 |convert s t x=>
  cases d with
  |none=>cases a
  |some d=>exact ack hr hE hM (λh=>Su hr tQ hE hM a h) h
 |_=>
  rw[WX fS]at h;exact Su hr tQ hE hM a h
theorem adk (h:(orW m full o).f ih e σ c=res):xs prog fD fC [] gp.gL full.toArray (Ul w0 m ρ e.hs e.ms c res) [o] env w:=by
 obtain⟨d,op,ty,pos,af,u⟩:=o;unfold orW at h;split at h
 ·exact absurd h.symm hr
 ·rename_i a;refine kI hr hE h (λh=>?_) (λe' k1 k3 k4 k2=>⟨e',σ,ρ,k1,k3,k4,Up.refl ρ,k2,hM⟩);refine v7 (U1 hr tQ hE hM a h) (λt w' g=>?_);obtain⟨v,s,n,val,g1,g2,g3,g4,rfl⟩:=g;obtain⟨e',k1,k3,k4,k2⟩:=lB g1;exact⟨e',s,n,k1,k3,k4,g2,(hE.up g2).put g3 k2,g4⟩
end
theorem xT {full:Array Oper} {K K':Env->World->Prop} (hk:∀env w,K env w->K' env w):∀{l:List Oper} {env:Env} {w:World},xs prog fD fC [] gp.gL full K l env w->xs prog fD fC [] gp.gL full K' l env w
 |[],_,_,h=>hk _ _ h
 |_::_,_,_,⟨g,f,h1,d⟩=>⟨g,f,λa=>⟨(h1 a).1,kd trivial (λ_ _ _ hs=>xT hk hs) (h1 a).2⟩,λa=>xT hk (d a)⟩
theorem E9 {w0:Fm} {m:Nat} {d:Cl} {res:Rs} (t:res≠ .no) (s:kr w0 d) {full:List Oper} {c:Kr}:∀{l:List Oper} {e:En} {a:Mem} {ρ:Pl} {env:Env} {w:World},ER m ρ e env->MR w0 ρ a w->(tx m full l).f d e a c=res->xs prog fD fC [] gp.gL full.toArray (Ul w0 m ρ e.hs e.ms c res) l env w
 |[],e,a,ρ,env,w,g,n,h=>⟨e,a,ρ,h,rfl,rfl,Up.refl ρ,g,n⟩
 |o::l,e,a,ρ,env,w,g,n,h=>by
  have v:(orW m full o).f d e a (λe a=>(tx m full l).f d e a c)=res:=h;refine v7 (adk t s g n v) (λD w' x=>?_);obtain⟨e',H,G,g1,g5,g6,g2,g3,g4⟩:=x;have:=E9 t s (l:=l) g3 g4 g1;refine xT (λE F y=>?_) this;obtain⟨u,C,B,k1,k5,k6,k2,k3,k4⟩:=y;exact⟨u,C,B,k1,k5.trans g5,k6.trans g6,g2.trans k2,k3,k4⟩
end
section
theorem Iv {a:IntKind} (h:Nat.beq (kn k) (kn a)=true):k=a:=by
 cases k<;>cases a<;>first|rfl|cases h
theorem JA:∀{a b:List Nat},eU a b=true->a=b
 |[],[],_=>rfl
 |[],_::_,h=>by cases h
 |_::_,[],h=>by cases h
 |x::a,y::b,h=>by
  have d:Bool.rec (motive:=λ_=>Bool) false (eU a b) (Nat.beq x y)=true:=h;rcases ke x y with⟨h1,f⟩|⟨h1,f⟩
  ·rw[f]at d;rw[h1,JA (a:=a) (b:=b) d]
  simp_all
theorem QB {x y:SV} (h:sE x y=true):x=y:=by
 cases x with
 |n k a=>
  cases y<;>try cases h
  obtain⟨h1,f⟩:=jh h
  grind [Iv,Nat.eq_of_beq_eq_true]
 |m k a=>
  cases y<;>try cases h
  obtain⟨h1,f⟩:=jh h
  grind [Iv,Nat.eq_of_beq_eq_true]
 | b q=>
  cases y with
  |b g=>
   have h:eB q g=true:=h
   grind [xa]
  |_=>cases h
 | s l=>
  cases y with
  |s l'=>
   have h:eU l l'=true:=h;rw[JA h]
  |_=>cases h
 |p0=>cases y<;>first|exact rfl|cases h
 |p i a=>
  cases y<;>try cases h
  obtain⟨h1,f⟩:=jh h
  simp_all
 |l0=>cases y<;>first|exact rfl|cases h
 |l i a b c=>
  cases y<;>try cases h
  obtain⟨h1,f⟩:=jh h
  grind [jh,Nat.eq_of_beq_eq_true]
 |lx i a b c d=>
  cases y<;>try cases h
  obtain⟨h1,f⟩:=jh h
  grind [jh,Nat.eq_of_beq_eq_true]
 |fl a=>
  cases y<;>try cases h
  rw[jd h]
 |i0=>cases y<;>first|exact rfl|cases h
 |x k i=>
  cases y<;>try cases h
  obtain⟨h1,f⟩:=jh h
  grind [Iv,Nat.eq_of_beq_eq_true]
 | sl l=>
  cases y with
  |sl l'=>
   have h:eU l l'=true:=h;rw[JA h]
  |_=>cases h
 |mp a=>
  cases y<;>try cases h
  rw[jd h]
 |cx a b=>
  cases y<;>try cases h
  obtain⟨h1,f⟩:=jh h
  simp_all
 |le i a b c=>
  cases y<;>try cases h
  obtain⟨h1,f⟩:=jh h
  grind [jh,Nat.eq_of_beq_eq_true]
 |u=>cases y<;>cases h
theorem CB:∀{a b:List SV},lE a b=true->a=b
 |[],[],_=>rfl
 |[],_::_,h=>by cases h
 |_::_,[],h=>by cases h
 |x::a,y::b,h=>by
  have d:an (sE x y) (lE a b)=true:=h;obtain⟨h1,f⟩:=jh d;rw[QB h1,CB f]
theorem jU.one {ρ:Pl} {l:List SV} {us vs:List Value} (h:jU ρ l us) (a:jU ρ l vs):us=vs:=by
 induction h generalizing vs with
 |nil=>cases a;rfl
 |cons h1 _ g=>
  cases a with
  |cons d f=>rw[SR.one h1.2 d.2,g f]
def Bp (a:Mem) (ms:List Mem) (n:Nt):Prop:=n.1<a.n/\∀s∈a::ms,∀i,i<n.2.2.length->hY s n.1 (n.2.1+i)=n.2.2[i]?
section
variable {res:Rs} (hr:res≠ .no)
include hr
theorem K7 {n:Nt} {r:Rs}:∀{ms:List Mem},ckM ms n r=res->r=res/\∀s∈ms,∀i,i<n.2.2.length->hY s n.1 (n.2.1+i)=n.2.2[i]?
 |[],h=>⟨h,λs hs=>by cases hs⟩
 |g::ms,h=>by
  obtain⟨x,l,h1,t,u,a⟩:=l6 hr (show J6 g n.1 n.2.1 n.2.2.length (λl=>jb (lE n.2.2 l) (ckM ms n r))=res from h);obtain⟨d,f⟩:=fO a hr;have v:=CB d;obtain⟨w,m⟩:=K7 f
  grind
theorem qf {a:Mem} {ms:List Mem} {r:Rs}:∀{hs:List Nt},IK a ms hs r=res->r=res/\∀n∈hs,Bp a ms n
 |[],h=>⟨h,λs hs=>by cases hs⟩
 |n::hs,h=>by
  obtain⟨h1,d⟩:=fO (show jb (Nat.ble (Nat.add n.1 1) a.n) (ckM (a::ms) n (IK a ms hs r))=res from h) hr;obtain⟨f,g⟩:=K7 hr d;obtain⟨m,t⟩:=qf f;refine⟨m,λk hk=>?_⟩;rcases hX.1 hk with rfl|hk
  ·exact⟨iY h1,λs hs=>g s hs⟩
  ·exact t k hk
end
def HH (a:Pl) (d:List Nt) (w':World):Prop:=∀n∈d,∀p vs,a[n.1]? =some p->jU a n.2.2 vs->∀(j:Nat) u,vs[j]? =some u->w'.cell? ⟨p.b,n.2.1+j,none⟩=some u
theorem yj {d:Pl} {f s:Mem} {ms:List Mem} {a:List Nt} (m:MR w0 ρ s w') (hu:Up d ρ) (hs:s∈f::ms) (t:∀n∈a,Bp f ms n):HH d a w':=λn v p vs w x j u C=>by
 obtain⟨_,y⟩:=t n v;obtain⟨D,g,B⟩:=m.cells (hu _ _ w) (l:=n.2.2) (o:=n.2.1) fS;have:=jU.one (x.up hu) g
 grind
section
variable {w0:Fm} {m:Nat} {ih:Cl} {e:En} {σ:Mem} {res:Rs} {ρ:Pl} {env:Env} {w:World} (hr:res≠ .no)
include hr
theorem KM (u:ER m ρ e env) {k:AV->Nt->Rs} (h:(ldH m t x).f e σ k=res):∃id o l d p,gh env x=some (.pointer (some ⟨p.b,o,none⟩))/\ρ[id]? =some p/\(∀i,i<l.length->hY σ id (o+i)=l[i]?)/\k d (id,o,l)=res/\((one t=true/\∃y,l=[y]/\d= .v y)∨(get ks t=some l.length/\d= .g l)):=by
 unfold ldH at h;split at h
 ·rename_i ht;obtain⟨a,v,h1,s,g1⟩:=gk hr u h;obtain⟨id,o,e0,g2⟩:=lz hr g1;obtain⟨B,g3,g4⟩:=oU hr g2;obtain⟨y,g5,g6⟩:=mj hr g4;subst e0;obtain⟨p,w,rfl⟩:=s
  grind [j9]
 ·split at h
  ·rename_i n C;rw[iJ]at h;obtain⟨a,v,h1,s,g1⟩:=gk hr u h;obtain⟨id,o,e0,g2⟩:=lz hr g1;obtain⟨B,l,g3,g4,g5,g6⟩:=l6 hr g2;subst e0;obtain⟨p,w,rfl⟩:=s
   grind
  grind
omit hr in
theorem BL (h:nK hs none=true):False:=by
 cases hs<;>cases h
omit hr in
theorem DO (h:fC t=true):fD t=false:=by
 unfold fD;cases hk:kindOf t with
 |none=>rfl
 |some k=>
  have h1:=hR h
  simp_all [iF]
theorem SD (f:MR w0 ρ σ w) {id:Nat} (g:ρ[id]? =some p) {k:AV->Nt->Rs} (h:cvN σ k id z j n=res):∃r l vs,z=1/\l.length=n/\r.length=n/\(∀c∈r,c<256)/\r.length<=maxLen/\(∀i,i<l.length->hY σ id (j+i)=l[i]?)/\jU ρ l vs/\vs=(jD r).map (λb=>Value.int .u8 (b.toNat:Int))/\(∀(i:Nat) u,vs[i]? =some u->w.cell? ⟨p.b,j+i,none⟩=some u)/\k (.v (.s r)) (id,j,l)=res:=by
 obtain⟨a,h1⟩:=fO (show jb (Nat.beq z 1) _=res from h) hr;have a:=jd a;obtain⟨x,l,g3,g4,g5,g6⟩:=l6 hr h1;have hc:∀i,i<l.length->hY σ id (j+i)=l[i]? :=fS;obtain⟨vs,d,m⟩:=f.cells g hc;obtain⟨r,f1,f2,f3,f4⟩:=xQ hr g6 d;obtain⟨t,f5⟩:=fO f4 hr
 grind [Nat.le_of_ble_eq_true]
theorem K6 (F:ER m ρ e env) (B:MR w0 ρ σ w) {op:Op} {k:AV->Nt->Rs} (h:(rdH m op).f e σ k=res):∃s t x el id j l vs r p c,op= .convert s t x/\prog.underlying s=some (.slice el)/\prog.underlying el=some (.int .u8)/\gh env x=some (.slice (some ⟨p.b,j,none⟩) (jD r).length c)/\ρ[id]? =some p/\(∀c∈r,c<256)/\r.length<=maxLen/\(∀i,i<l.length->hY σ id (j+i)=l[i]?)/\jU ρ l vs/\vs=(jD r).map (λb=>Value.int .u8 (b.toNat:Int))/\(∀(i:Nat) u,vs[i]? =some u->w.cell? ⟨p.b,j+i,none⟩=some u)/\k (.v (.s r)) (id,j,l)=res:=by
 have hu:∀r:List Nat,(jD r).length=r.length:=λr=>jF _
 unfold rdH at h;split at h
 ·rename_i s t x;split at h
  ·rename_i el _ G;split at h
   ·rename_i C;obtain⟨D,_⟩:=iR G;obtain⟨a,v,h1,y,g1⟩:=gk hr F h;rcases kL hr g1 with⟨d,q⟩|⟨id,z,j,n,d,q⟩|⟨id,z,j,n,c,d,q⟩|⟨_,_,_,_,d,q⟩|⟨l,d,q⟩|⟨id,o,d,q⟩
    ·grind
    ·subst d;obtain⟨p,g,E,hc,H,rfl⟩:=y;exact y23
    ·subst d;obtain⟨p,g,E,H,rfl⟩:=y;exact y23
    ·grind
    ·grind
    grind
   ·exact absurd h.symm hr
  ·exact absurd h.symm hr
 ·exact absurd h.symm hr
omit hr in
theorem V6 (h:cls fD fC (.convert s t x)= .r):fC t=true:=by
 grind [cls]
omit hr in
theorem KG {c:Nat} {r:List UInt8} (h1:prog.underlying s=some (.slice el)) (a:prog.underlying el=some (.int .u8)) (d:fC t=true) (hc:∀(i:Nat) u,(r.map (λb=>Value.int .u8 (b.toNat:Int)))[i]? =some u->w.cell? ⟨p.b,j+i,none⟩=some u):(convert s t (.slice (some ⟨p.b,j,none⟩) r.length c)).run prog w= .ok (.string (su r)) w:=
 run_convert_bytes_back (P:=prog) w s t el ⟨p.b,j,none⟩ c r h1 a (hR d) (by grind [List.getElem?_eq_getElem,Addr.add_lit])
def Z3 (w0:Fm) (m:Nat) (ρ:Pl) (e:En) (c:Kr) (res:Rs):Env->World->Prop:=λf w'=>∃e' d a,c e' d=res/\Up ρ a/\ER m a e' f/\MR w0 a d w'/\(∀n∈e.hs,n∈e'.hs)/\∀s∈e.ms,s∈e'.ms
omit hr in
theorem ER.same {e':En} (h:ER m ρ e env) (h1:e'.vs=e.vs) (d:e'.ts=e.ts):ER m ρ e' env:=λt a f=>by
 refine h t a ?_
 grind [Cq]
variable (tQ:kr w0 ih) (hE:ER m ρ e env) (hM:MR w0 ρ σ w)
include tQ hE hM
theorem V2 {op:Op} (u:V5 d op=true) (h:(Jz m op).f ih e σ (λv σ=>(FJ m d).f e v λe=>c ⟨e.vs,e.ts,e.hs,σ::e.ms⟩ σ)=res):
  xs prog fD fC [] gp.gL full.toArray (λt w'=>∃e' g a,c e' g=res/\Up ρ a/\ER m a e' t/\MR w0 a g w'/\(∀n∈e.hs,n∈e'.hs)/\(∀s∈e.ms,s∈e'.ms)/\g∈e'.ms) [⟨d,op,ty,pos,af,none⟩] env w:=by
 refine v7 (Su hr tQ hE hM u h) (λt w' x=>?_);obtain⟨v,g,a,val,g1,g2,g3,g4,rfl⟩:=x;obtain⟨e',k1,k3,k4,k2⟩:=lB g1;refine⟨_,g,a,k1,g2,((hE.up g2).put g3 k2).same fx fx,g4,λn y=>?_,λs hs=>?_,jQ⟩
 ·grind
 grind
theorem Kp {op:Op} (g:V5 d op=true) (h:(Jz m op).f ih e σ (λv a=>(FJ m d).f e v λe=>c e a)=res):
  xs prog fD fC [] gp.gL full.toArray (Z3 w0 m ρ e c res) [⟨d,op,ty,pos,af,none⟩] env w:=by
 refine v7 (Su hr tQ hE hM g h) (λy w' t=>?_);obtain⟨v,a,x,val,g1,g2,g3,g4,rfl⟩:=t;obtain⟨e',k1,k3,k4,k2⟩:=lB g1;refine⟨_,a,x,k1,g2,(hE.up g2).put g3 k2,g4,λn u=>?_,λs hs=>?_⟩
 ·rw[k3];exact u
 grind
theorem OK {op:Op} (g:V5 d op=true) (h:(Ym m op).f ih e σ (λv a=>(FJ m d).f e v λe=>c e a)=res):
  xs prog fD fC [] gp.gL full.toArray (Z3 w0 m ρ e c res) [⟨d,op,ty,pos,af,none⟩] env w:=by
 refine v7 (U1 hr tQ hE hM g h) (λy w' t=>?_);obtain⟨v,a,x,val,g1,g2,g3,g4,rfl⟩:=t;obtain⟨e',k1,k3,k4,k2⟩:=lB g1;refine⟨_,a,x,k1,g2,(hE.up g2).put g3 k2,g4,λn u=>?_,λs hs=>?_⟩
 ·rw[k3];exact u
 grind
theorem L7 (h:(p9 m hs full o).f ih e σ c=res):xs prog fD fC [] gp.gL full.toArray (Z3 w0 m ρ e c res) [o] env w:=by
 obtain⟨d,op,ty,pos,af,T⟩:=o;unfold p9 at h;split at h
 ·exact absurd h.symm hr
 ·rename_i B;have no:∀e',c e' σ=res->e'.hs=e.hs->e'.ms=e.ms->ER m ρ e' (gp.put env d undef)->Z3 w0 m ρ e c res (gp.put env d undef) w:=λe' k1 k3 k4 k2=>⟨e',σ,ρ,k1,Up.refl ρ,k2,hM,fS,fS⟩
  split at h
  ·rename_i t x a;have a:op= .load t x:=a;subst a;split at h
   ·refine kI hr hE h (λh=>?_) no;cases d with
    |none=>cases B
    | some d=>
     obtain⟨id,o',l,C,p,h1,E,F,G,H⟩:=KM hr hE h;obtain⟨e',k1,k3,k4,k2⟩:=lB G;obtain⟨vs,g1,g2⟩:=hM.cells E F
     have fin:∀val,AR ρ C val->Z3 w0 m ρ e c res (gp.put env (some d) val) w:=λval O=>by
      refine⟨_,σ,ρ,k1,Up.refl ρ,(hE.put O k2).same fx fx,hM,λn M=>?_,λs hs=>?_⟩<;>grind
     rcases H with⟨ht,y,rfl,rfl⟩|⟨ht,rfl⟩
     ·cases g1 with
      |cons q1 q2=>
       cases q2;exact AU h1 ht (g2 0 _ fx).1 (fin _ q1.2)
     ·exact hL h1 (by grind [jU.len]) fS (fin _ ⟨vs,g1,rfl⟩)
   ·exact kI hr hE h (by grind [Kp]) no
  ·split at h
   ·refine kI hr hE h (λh=>?_) no;refine v7 (V2 hr tQ hE hM B h) (λS w' K=>?_);obtain⟨e',R,Q,g1,g2,g3,g4,g5,g6,_⟩:=K;exact⟨e',R,Q,g1,g2,g3,g4,g5,g6⟩
   ·exact kI hr hE h (by grind [OK]) no
   ·rename_i g;split at h
    ·rename_i L;refine kI hr hE h (λh=>?_) no;cases d with
     |none=>exact(BL L).elim
     | some d=>
      obtain⟨s,t,x,el,id,j,l,vs,r,p,D,rfl,q1,q2,q3,q4,q5,q6,q7,q8,q9,W3,RL⟩:=K6 hr hE hM h;obtain⟨e',k1,k3,k4,k2⟩:=lB RL;have I:=V6 g
      have J:iT fD fC [] ⟨some d,.convert s t x,ty,pos,af,none⟩= .r:=by
       simp[iT,g,nK]
      have N:=KG (w:=w) (c:=D) q1 q2 I (λi u hu=>W3 i u (by rw[q9];exact hu));refine gR fx (by grind [fX,Op.operands]) ?_;rw[J];refine⟨.string (su (jD r)),by simp[execOp,fM q3,N],_,σ,ρ,k1,Up.refl ρ,(hE.put (v:= .v (.s r)) ⟨rfl,q5,q6⟩ k2).same fx fx,hM,λn M=>?_,λs hs=>?_⟩
      ·grind
      grind
    ·exact kI hr hE h (by grind [Kp]) no
   ·exact absurd h.symm hr
end
theorem ue {full:Array Oper} {K:Env->World->Prop} (h:xs prog fD fC [] gp.gL full K [o] env w):∃a w',K a w':=by
 obtain⟨g,m,h1,d⟩:=h;cases g with
 |true=>
  obtain⟨v,w',_,f⟩:=wF (H:=gp.gL) trivial (h1 rfl).2;exact⟨_,w',f⟩
 |false=>exact⟨_,w,d rfl⟩
theorem za {full:Array Oper} {K:Env->World->Prop}:∀{l:List Oper} {env:Env} {w:World},xs prog fD fC [] gp.gL full K l env w->∃a w',K a w'
 |[],env,w,h=>⟨env,w,h⟩
 |o::l,env,w,h=>by
  obtain⟨a,w',d⟩:=ue (o:=o) (K:=λa w'=>xs prog fD fC [] gp.gL full K l a w') h;exact za d
noncomputable def EH:Kr:=λe a=> .mk .pn e a
noncomputable def J9 (m:Nat) (a:Cl) (full l2:List Oper) (g:Mem):Kr:=λe' d=>IK g e'.ms e'.hs ((tx m full l2).f a e' d EH)
theorem Ix {w0:Fm} {m:Nat} {d:Cl} {res:Rs} {u:Mem} (t:res≠ .no) (y:kr w0 d) {hs:List Nat} {full l2:List Oper}:∀{l:List Oper} {e:En} {a:Mem} {ρ:Pl} {env:Env} {w:World},ER m ρ e env->MR w0 ρ a w->(lg m hs full l).f d e a (J9 m d full l2 u)=res->∃g C,res= .mk .pn g C/\(∀n∈e.hs,n∈g.hs)/\(∀s∈e.ms,s∈g.ms)/\∀n∈g.hs,Bp u g.ms n
 |[],e,a,ρ,env,w,v,x,h=>by
  obtain⟨h1,I⟩:=qf t (show IK u e.ms e.hs ((tx m full l2).f d e a EH)=res from h);obtain⟨D,w',e',B,H,k1,k2,k3,_⟩:=za (E9 t y v x h1);exact⟨e',B,k1.symm,fS,fS,by grind⟩
 |o::l,e,a,ρ,env,w,v,x,h=>by
  have E:(p9 m hs full o).f d e a (λe a=>(lg m hs full l).f d e a (J9 m d full l2 u))=res:=h;obtain⟨D,w',e',B,H,h1,_,F,G,J,K⟩:=ue (L7 t y v x E);obtain⟨g,C,g1,g2,g3,g4⟩:=Ix t y F G h1
  grind
theorem qb {P:Program} {H:World->Prop} {c:S8} {s:Sem Next} {S f:Value->World->Prop} (h:∀v w',S v w'->f v w') (d:vN P H c s w S):vN P H c s w f:=by
 cases c with
 |p=>obtain⟨v,h1,a⟩:=d;exact⟨v,h1,h v w a⟩
 |r=>obtain⟨v,h1,a⟩:=d;exact⟨v,h1,h v w a⟩
 |h=>obtain⟨v,h1,a⟩:=d;exact⟨v,h1,h v w a⟩
 |w=>exact uU fS d
theorem x7 {H:World->Prop} {full:Array Oper} {K:Env->World->Prop} {op:Op} (h:xs prog fD fC [] gp.gL full K [⟨d,op,ty,pos,af,none⟩] env w) (hc:(cls fD fC op= .p)∨(cls fD fC op= .r/\nK hs d=false)∨(cls fD fC op= .w/\∀s w',K s w'->H w')):xs prog fD fC hs H full K [⟨d,op,ty,pos,af,none⟩] env w:=by
 obtain⟨g,u,h1,t⟩:=h;refine⟨g,u,λa=>⟨(h1 a).1,?_⟩,λa=>t a⟩;have f:=(h1 a).2;rcases hc with hc|⟨hc,hm⟩|⟨hc,hk⟩
 ·have m:∀hs,iT fD fC hs ⟨d,op,ty,pos,af,none⟩= .p:=by grind [iT]
  rw[m]at f⊢;exact f
 ·have m:iT fD fC hs ⟨d,op,ty,pos,af,none⟩= .r:=by unfold iT;rw[hc];dsimp only;rw[hm]
  have n:iT fD fC [] ⟨d,op,ty,pos,af,none⟩= .r:=by unfold iT;rw[hc];cases d<;>rfl
  rw[n]at f;rw[m];exact f
 ·have m:∀hs,iT fD fC hs ⟨d,op,ty,pos,af,none⟩= .w:=by grind [iT]
  rw[m]at f⊢;exact uU (λv w' a=>⟨hk _ _ a.2,a.2⟩) f
theorem gV {hs:List Nat} {H:World->Prop} {full:Array Oper} {K K':Env->World->Prop} (hk:∀env w,K env w->K' env w):∀{l:List Oper} {env:Env} {w:World},xs prog fD fC hs H full K l env w->xs prog fD fC hs H full K' l env w
 |[],_,_,h=>hk _ _ h
 |_::_,_,_,⟨g,f,h1,d⟩=>⟨g,f,λa=>⟨(h1 a).1,qb (λ_ _ hs=>gV hk hs) (h1 a).2⟩,λa=>gV hk (d a)⟩
theorem oL {H:World->Prop} {full:Array Oper} {K:Env->World->Prop} (h:xs prog fD fC hs H full (λa w'=>xs prog fD fC hs H full K rest a w') [o] env w):xs prog fD fC hs H full K (o::rest) env w:=h
def jL (w0:Fm) (m:Nat) (res:Rs) (d:List Nt) (f:List Mem) (k:Kr):Prop:=∀(e:En) (a:Mem) (ρ:Pl) (env:Env) (w:World),ER m ρ e env->MR w0 ρ a w->k e a=res->(∀n∈e.hs,n∈d)/\∀s∈e.ms,s∈f
theorem jL.op {a:Cl} {d:List Nt} {g:List Mem} {k:Kr} (B:res≠ .no) (y:kr w0 a) (hk:jL w0 m res d g k):jL w0 m res d g (λe n=>(p9 m hs full o).f a e n k):=λe n ρ env w v x h=>by
 obtain⟨s,w',e',D,C,h1,_,t,u,E,F⟩:=ue (L7 B y v x h);obtain⟨g2,g3⟩:=hk e' D C s w' t u h1
 grind
theorem jL.XP {w0:Fm} {m:Nat} {g:Cl} {res:Rs} {n:List Nt} {s:List Mem} {k:Kr} (d:res≠ .no) (a:kr w0 g) {hs:List Nat} {full:List Oper} (hk:jL w0 m res n s k):∀l:List Oper,jL w0 m res n s (λe t=>(lg m hs full l).f g e t k)
 |[]=>hk
 |o::l=>jL.op (o:=o) d a (jL.XP d a hk l)
theorem jL.fin {d:Cl} {t:Mem} {a:En} {u:Mem} (s:res≠ .no) (n:kr w0 d) (x:res= .mk .pn a u) {l2:List Oper}:jL w0 m res a.hs a.ms (J9 m d full l2 t):=λe y ρ env w f g h=>by
 obtain⟨v,B,k1,k2,k3,_⟩:=Ix (hs:=[]) (l:=[]) s n f g h
 grind
theorem oD {w0 ax:Fm} {m:Nat} {M:Cl} {res:Rs} {aa:Mem} {J:Pl} {ws:World} {N:List Nt} {aj:List Mem} {k:Kr} (E:res≠ .no) (T:kr w0 M) (hk:jL w0 m res N aj k) (Z:∀n∈N,Bp aa aj n) (U:MR ax J aa ws) {hs0:List Nat} {full:List Oper}:∀{l:List Oper} {e:En} {D:Mem} {ρ:Pl} {env:Env} {w:World},Up J ρ->ER m ρ e env->MR w0 ρ D w->(lg m hs0 full l).f M e D k=res->xs prog fD fC hs0 (HH J N) full.toArray (λB w'=>∃G K a,k G K=res/\Up ρ a/\ER m a G B/\MR w0 a K w') l env w
 |[],e,D,ρ,env,w,hu,C,H,h=>⟨e,D,ρ,h,Up.refl ρ,C,H⟩
 | o :: l,e,D,ρ,env,w,hu,C,H,h=>by
  have F:(p9 m hs0 full o).f M e D (λe D=>(lg m hs0 full l).f M e D k)=res:=h
  have next:∀{a e' L B w'},Up ρ a->ER m a e' B->MR w0 a L w'->(lg m hs0 full l).f M e' L k=res->xs prog fD fC hs0 (HH J N) full.toArray (λB w'=>∃G K a,k G K=res/\Up ρ a/\ER m a G B/\MR w0 a K w') l B w':=λ{a e' L B w'} al R ae I=>by
   have:=oD E T hk Z U (l:=l) (hu.trans al) R ae I;exact gV (λaG aJ ⟨G,K,r,h0,h1,Y,ad⟩=>⟨G,K,r,h0,al.trans h1,Y,ad⟩) this
  have ab:∀{a e' L B w'},ER m a e' B->MR w0 a L w'->(lg m hs0 full l).f M e' L k=res->(∀n∈e'.hs,n∈N)/\∀s∈e'.ms,s∈aj:=λ{a e' L B w'} R ae I=>jL.XP E T hk l _ _ _ _ _ R ae I
  obtain⟨d,op,ty,pos,af,aH⟩:=o;unfold p9 at F;split at F
  ·exact absurd F.symm E
  ·rename_i V;have no:∀e',(lg m hs0 full l).f M e' D k=res->e'.hs=e.hs->e'.ms=e.ms->ER m ρ e' (gp.put env d undef)->xs prog fD fC hs0 (HH J N) full.toArray (λB w'=>∃G K a,k G K=res/\Up ρ a/\ER m a G B/\MR w0 a K w') l (gp.put env d undef) w:=by grind [Up.refl]
   split at F
   ·rename_i t x ag;have ag:op= .load t x:=ag;subst ag;split at F
    ·rename_i Q;refine oL (kI E C F (λh=>?_) no);cases d with
     |none=>cases V
     | some d=>
      obtain⟨id,o',l',am,p,h1,Y,ad,ao,ak⟩:=KM E C h;obtain⟨e',k1,k3,k4,k2⟩:=lB ao;obtain⟨vs,g1,g2⟩:=H.cells Y ad
      have W:(id,o',l')∈N:=by
       rcases ak with⟨ht,y,rfl,rfl⟩|⟨ht,rfl⟩
       ·cases g1 with
        |cons q1 q2=>exact(ab ((C.put (v:= .v y) q1.2 k2).same (e':=⟨e'.vs,e'.ts,(id,o',[y])::e'.hs,e'.ms⟩) rfl rfl) H k1).1 _ jQ
       ·exact(ab ((C.put (v:= .g l') (val:= .agg vs.toArray) ⟨vs,g1,rfl⟩ k2).same (e':=⟨e'.vs,e'.ts,(id,o',l')::e'.hs,e'.ms⟩) fx fx) H k1).1 _ jQ
      obtain⟨q1,q2⟩:=Z _ W;have q1:id<aa.n:=q1;rw[←U.len]at q1;have O:J[id]? =some J[id]:=fS;have ai:=hu _ _ O;rw[Y]at ai;have ah:J[id]=p:=fS;rw[ah]at O;obtain⟨X,g3,_⟩:=U.cells O (l:=l') (o:=o') fS;have aq:∀w',HH J N w'->∀(j:Nat) u,X[j]? =some u->w'.cell? ⟨p.b,o'+j,none⟩=some u:=λw' hw j u au=>hw _ W p X O g3 j u au
      have fin:∀val,AR ρ am val->xs prog fD fC hs0 (HH J N) full.toArray (λB w'=>∃G K a,k G K=res/\Up ρ a/\ER m a G B/\MR w0 a K w') l (gp.put env (some d) val) w:=λval av=>next (Up.refl ρ) ((C.put av k2).same (e':=⟨e'.vs,e'.ts,(id,o',l')::e'.hs,e'.ms⟩) rfl rfl) H k1
      rcases ak with⟨ht,y,rfl,rfl⟩|⟨ht,rfl⟩
      ·cases g3 with
       |cons r1 r2=>
        cases r2;exact rO h1 ht (λw' hw=>by have:=aq w' hw 0 _ fx;exact this) (fin _ (r1.2.up hu)) Q
      ·exact wZ h1 (by grind [jU.len]) fS (fin _ ⟨X,g3.up hu,rfl⟩) Q
    ·rename_i Q;refine oL (kI E C F (λh=>?_) no);refine gV (λB w' I=>?_) (x7 (Kp (c:=λe D=>(lg m hs0 full l).f M e D k) E T C H V h) (.inr (.inl ⟨rfl,Q⟩)));exact y26
   ·split at F
    ·rename_i S;refine oL (kI E C F (λh=>?_) no);refine gV (λB w' I=>?_) (x7 (V2 (c:=λe D=>(lg m hs0 full l).f M e D k) E T C H V h) (.inr (.inr ⟨S,λB w' I=>?_⟩)))
     ·exact y26
     ·obtain⟨e',L,a,g1,g2,g3,g4,_,_,g7⟩:=I;exact yj g4 (hu.trans g2) fS Z
    ·rename_i S;refine oL (kI E C F (λh=>?_) no);refine gV (λB w' I=>?_) (x7 (OK (c:=λe D=>(lg m hs0 full l).f M e D k) E T C H V h) (.inl S));exact y26
    ·rename_i S;split at F
     ·rename_i Q;refine oL (kI E C F (λh=>?_) no);cases d with
      |none=>exact(BL Q).elim
      | some d=>
       obtain⟨s,t,x,el,id,j,l',vs,r,p,an,rfl,ay,aA,aL,aB,aC,aD,aM,aE,aF,aK,az⟩:=K6 E C H h;obtain⟨e',k1,k3,k4,k2⟩:=lB az;have ap:=V6 S;have R:ER m ρ ⟨e'.vs,e'.ts,(id,j,l')::e'.hs,e'.ms⟩ (gp.put env (some d) (.string (su (jD r)))):=(C.put (v:= .v (.s r)) ⟨rfl,aC,aD⟩ k2).same rfl rfl;have W:(id,j,l')∈N:=(ab R H k1).1 _ jQ;obtain⟨q1,q2⟩:=Z _ W;have q1:id<aa.n:=q1;rw[←U.len]at q1;have O:J[id]? =some J[id]:=fS;have ai:=hu _ _ O;rw[aB]at ai;have ah:J[id]=p:=fS;rw[ah]at O;obtain⟨X,g3,_⟩:=U.cells O (l:=l') (o:=j) fS;have aw:=jU.one (g3.up hu) aE
       have ar:iT fD fC hs0 ⟨some d,.convert s t x,ty,pos,af,none⟩= .h:=by
        simp[iT,S,Q]
       refine gR fx (by grind [fX,Op.operands]) ?_;rw[ar];refine⟨.string (su (jD r)),λw' hw=>?_,next (Up.refl ρ) R H k1⟩;have aI:=KG (w:=w') (c:=an) ay aA ap (λi u hu=>hw _ W p X O g3 i u (by rw[aw,aF];exact hu))
       simp_all [execOp,fM]
     ·rename_i Q;refine oL (kI E C F (λh=>?_) no);refine gV (λB w' I=>?_) (x7 (Kp (c:=λe D=>(lg m hs0 full l).f M e D k) E T C H V h) fS);exact y26
    ·exact absurd F.symm E
theorem Xv {d:Cl} {t:Mem} {x:Pl} {ws:World} {g:En} {I:Mem} (v:res≠ .no) (B:kr w0 d) (H:res= .mk .pn g I) (G:∀n∈g.hs,Bp t g.ms n) (F:MR w0 x t ws) {hs0:List Nat} {l2 l:List Oper} {e:En} {C:Mem} (hu:Up x ρ) (D:ER m ρ e env) (E:MR w0 ρ C w) (h:(lg m hs0 full l).f d e C (J9 m d full l2 t)=res):xs prog fD fC hs0 (HH x g.hs) full.toArray (λy w'=>∃a u s,(tx m full l2).f d a u EH=res/\Up ρ s/\ER m s a y/\MR w0 s u w') l env w:=by
 refine gV (λy w' ⟨a,u,s,h0,h1,J,K⟩=>?_) (oD v B (jL.fin v B H) G F hu D E h);obtain⟨g1,_⟩:=qf v (show IK t a.ms a.hs ((tx m full l2).f d a u EH)=res from h0)
 grind
theorem wp_cut {N:Nat} {id:Nat} {l:List Oper} {a:Act} {K:Env->World->Prop} {Q:Exit->Act->World->Prop} (cut:Nat) (hs:List Nat) (H:World->Prop) (g:qB N l.toArray=true) (hq:pe fD fC hs cut l.toArray (Region.before l.toArray)=true) (hw:H w.drew) (x:Fits N env a)
  (D:∀f d w',Fits N d f->K d w'->Q .normal f w')
  (h:xs prog fD fC hs H l.toArray (λd w'=>xs prog fD fC [] gp.gL l.toArray K (l.drop cut) d w') (l.take cut) env w.drew):(Code.region id l.toArray true).wp prog Q a w:=by
 obtain⟨u,g⟩:=mC g;have t:=xm hq;have hle:cut<=l.length:=by simpa using t.le
 have h1:=nV (N:=N) u g (l.take cut) 0 env a w.drew fS hw x h;rw[kt,uk hle]at h1
 have v:ss2 prog fD fC hs H l.toArray (λf w'=>∃d,Fits N d f/\K d w') (List.range' 0 cut) (List.range' cut (l.length-cut)) a w.drew:=by
  refine Jf _ _ a _ hw (λf w' _ ⟨d,y,C⟩=>?_) h1;have:=nV (N:=N) u g (l.drop cut) cut d f w' fS trivial y C;rwa[lH]at this
 refine wp_region_any mixed (vu t fS l.toArray.size _ (List.range' 0 cut) (List.range' cut (l.length-cut)) a _ (λ_=>hw) ir (by simp;omega) ?_ fS fS (λi=>?_) (λi o E B=>?_) v)
 ·have e:List.range' 0 cut++List.range' cut (l.length-cut)=List.range l.length:=by
   have:=V8 (s:=0) (m:=cut) (n:=l.length-cut);rw[iC]at this;rw[this,Hh]
   congr 1;omega
  grind [List.pairwise_lt_range]
 ·rw[iK,CP,CP];simp[pf]
  grind
 ·exfalso;rw[pf,Ry]at B
  grind
theorem Gp {ops:Array Oper} {k:Nat}:∀{l:List Nat},Ef ops l= .held k->pe fD fC (NX ops k) k ops (Region.before ops)=true
 |[],h=>by cases h
 | q::l,h=>by
  have a:cN q (λk=>(match pe fD fC (NX ops k) k ops (Region.before ops)with
   |true=>Rk.held k
   |false=>Ef ops l:Rk))=Rk.held k:=h
  rw[iJ]at a;split at a
  ·grind
  ·exact Gp a
theorem B0 {ops:Array Oper}:∀{l:List Nat},Ef ops l≠ .text
 |[],h=>by cases h
 | q::l,h=>by
  have a:cN q (λk=>(match pe fD fC (NX ops k) k ops (Region.before ops)with
   |true=>Rk.held k
   |false=>Ef ops l:Rk))=Rk.text:=h
  rw[iJ]at a;split at a
  ·cases a
  ·exact B0 a
end
end Go.Proofs.YtecaahegomdbbaaGreatDoor.gp.Rn
