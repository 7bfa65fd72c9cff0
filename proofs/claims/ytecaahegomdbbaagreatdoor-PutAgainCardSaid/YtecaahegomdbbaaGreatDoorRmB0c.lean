/- Parts of the proof. -/
import Derived.ArgAppend
import Derived.ChangeKeysEq
import Derived.Laws.Cover2
import Derived.Laws.Cover3
import Derived.Laws.FloatArith
import Derived.Laws.IdiomStrings
import Derived.Laws.StructEq
import Derived.Lib.AppendStr
import Derived.Lib.Mul64
import Derived.Test.YtecaahegomdbbaaGreatDoorRmB0b
set_option linter.all false
set_option maxRecDepth 99999
set_option maxHeartbeats 0
namespace Go.Proofs.YtecaahegomdbbaaGreatDoor.gr.Rn
open Go.Proofs.Tryz
open Go.RowKit
variable {af:Array Edge} {cs:Array i6} {p:At} {q r:Bool} {Y:Env} {w0:Fm} {k:kw} {c:Kr} {hs:ip Nat} {full ii:ip li} {l:ip SV} {vs:ip i6} {a b f j m n z:Nat} {o:li} {x y:i7} {d:Option Tmp} {ρ:Pl} {res:Rs} {pos:String} {B C F el g s t R u:i9} {v:i6} {W:Wh} {w w':i5}
theorem sI (h:n<=jx k):k.wrap (n:Int)=n:=by
 cases k<;>simp[jx]at h<;>simp[IntKind.wrap,IntKind.signed,IntKind.bits]<;>omega
def LL (k:kw):∃q,jx k+1=2^q/\q<=k.bits:=by
 cases k
 .exact⟨7,by decide,by decide⟩
 .exact⟨15,by decide,by decide⟩
 .exact⟨31,by decide,by decide⟩
 .exact⟨63,by decide,by decide⟩
 .exact⟨8,by decide,by decide⟩
 .exact⟨16,by decide,by decide⟩
 .exact⟨32,by decide,by decide⟩
 .exact⟨64,by decide,by decide⟩
theorem Rz (k:kw):kb k=k.bits:=by cases k<;>rfl
def xe (m:a<=jx k) (t:b<=jx k):bits .and k a b=((a&&&b:Nat):Int)/\bits .or k a b=((a|||b:Nat):Int)/\bits .xor k a b=((a^^^b:Nat):Int)/\(a&&&b)<=jx k/\(a|||b)<=jx k/\(a^^^b)<=jx k:=by
 obtain⟨q,hq,hk⟩:=LL k;have d:a<2^q:=fy;have f:b<2^q:=fy;have hle:(2:Nat)^q<=2^k.bits:=A8 fU hk;have e:∀n:Nat,n<2^k.bits->(BitVec.ofInt k.bits (n:Int)).toNat=n:=fM;have h1:(a&&&b)<=jx k:=by have:= @Nat.and_le_left a b;omega
 have g:(a|||b)<=jx k:=by have:=Nat.or_lt_two_pow d f;omega
 have h3:(a^^^b)<=jx k:=by have:=VF d f;omega
 grind [bits,BitVec.toNat_and,sI,BitVec.toNat_or,BitVec.toNat_xor]
theorem abw (m:a<=jx k) (t:b<=jx k):bits .andNot k a b=((anN a b:Nat):Int)/\anN a b<=jx k:=by
 obtain⟨q,hq,hk⟩:=LL k;have f:a<2^q:=fy;have hle:(2:Nat)^q<=2^k.bits:=A8 fU hk;have e:∀n:Nat,n<2^k.bits->(BitVec.ofInt k.bits (n:Int)).toNat=n:=fM;have h1:a^^^(a&&&b)<=jx k:=by have g:= @Nat.and_le_left a b;have:=VF (y:=a&&&b) f fy;omega
 have d:∀x y:BitVec k.bits,x&&& ~~~y=x^^^(x&&&y):=fM;refine⟨?_,h1⟩;simp only[bits,d,BitVec.toNat_xor,BitVec.toNat_and];rw[e a fy,e b fy];exact sI h1
def adN {H:i5->Prop} {full:Array li} {K:Env->i5->Prop} {d:Tmp} {m:i9} {a b:Int} (f:gh Y x=some (.int k a)) (g:gh Y y=some (.int k b)) (h:xs prog fD fC hs H full K ii ((d,.int k (bits .andNot k a b))::Y) w):xs prog fD fC hs H full K (⟨some d,.binOp .andNot t x y m,R,pos,af,none⟩::ii) Y w:=by
 refine jE f g (eqGuard_at_int ..) (λw'=>?_) h;rw[binOp_andNot,intBits_andNot];rfl
theorem Kw:∀a b:ip UInt8,Op.bytesLess b a=!(Op.bytesLess a b||decide (a=b))
 |[],[]=>rfl
 |[],_::_=>rfl
 |_::_,[]=>rfl
 |x::a,y::b=>by
  have d:=Kw a b
  grind [Op.bytesLess,UInt8.toNat,UInt8.toNat_inj,List.cons.injEq,decide_false,UInt8.lt_iff_toNat_lt,beq_eq_false_iff_ne,Nat.not_lt,Nat.le_of_lt]
theorem n2 (a b:Nat):Nat.ble a b=decide (a<=b):=by
 grind [Nat.ble,decide_eq_true,Nat.le_of_ble_eq_true,decide_eq_false,Nat.ble_eq_true_of_le]
theorem yJ (a b:Nat):Nat.beq a b=decide (a=b):=by
 grind [ko,decide_eq_true,decide_eq_false]
theorem vv (a b:Int):bI a b=decide (a<b):=by
 cases a with
 | ofNat m=>
  cases b with
  |ofNat n=>
   show Nat.ble (m+1) n=_
   grind [n2]
  |negSucc n=>exact(decide_eq_false fM).symm
 | negSucc m=>
  cases b with
  |ofNat n=>exact(decide_eq_true fM).symm
  |negSucc n=>
   show Nat.ble (n+1) m=_
   grind [n2]
theorem VT (a b:Int):eI a b=decide (a=b):=by
 cases a with
 | ofNat m=>
  cases b with
  |ofNat n=>
   show Nat.beq m n=_
   grind [yJ]
  |negSucc n=>exact(decide_eq_false fM).symm
 | negSucc m=>
  cases b with
  |ofNat n=>exact(decide_eq_false fM).symm
  |negSucc n=>
   show Nat.beq m n=_
   grind [yJ]
def PD (d:a<256) (f:b<256):UInt8.ofNat a=UInt8.ofNat b↔a=b:=by
 grind [UInt8.toNat,UInt8.toNat_ofNat']
theorem Qw:∀{a b:ip Nat},(∀c∈a,c<256)->(∀c∈b,c<256)->eU a b=decide (jI a=jI b)
 |[],[],_,_=>rfl
 |[],_::_,_,_=>rfl
 |_::_,[],_,_=>rfl
 | x::a,y::b,f,g=>by
  have m:eU (x::a) (y::b)=Bool.rec (motive:=λ_=>Bool) false (eU a b) (Nat.beq x y):=rfl;have t:=Qw (λc hc=>f c (qC _ hc)) (λc hc=>g c (qC _ hc));have n:=PD (f x iB) (g y iB);rw[m];rcases ko x y with⟨h1,d⟩|⟨h1,d⟩
  .rw[d]
   grind [eU,jI,List.cons.injEq]
  simp_all [UInt8.ofNat,decide_eq_false,jI]
theorem AL:∀{a b:ip Nat},(∀c∈a,c<256)->(∀c∈b,c<256)->ltU a b=Op.bytesLess (jI a) (jI b)
 |[],[],_,_=>rfl
 |[],_::_,_,_=>rfl
 |_::_,[],_,_=>rfl
 | x::a,y::b,f,g=>by
  have t:ltU (x::a) (y::b)=Bool.rec (motive:=λ_=>Bool) (Nat.ble (x+1) y) (ltU a b) (Nat.beq x y):=rfl;have v:=AL (λc hc=>f c (qC _ hc)) (λc hc=>g c (qC _ hc));have m:=f x iB;have n:=g y iB;have w:=PD m n
  have u:(UInt8.ofNat x<UInt8.ofNat y)=(x<y):=by
   rw[W8];simp only[wG];rw[uJ m,uJ n]
  rw[t];show _=(decide (UInt8.ofNat x<UInt8.ofNat y)||(UInt8.ofNat x==UInt8.ofNat y&&Op.bytesLess (jI a) (jI b)))
  simp only[u];rcases ko x y with⟨h1,d⟩|⟨h1,d⟩
  .rw[d];subst h1;show ltU a b=_
   rw[v];simp
  .rw[d]
   grind [Nat.ble,UInt8.ofNat,n2,beq_eq_false_iff_ne]
def rL (d:Mem) (c:Kt) (b:Bool):bK d c b=c (.v (.b b)) d:=by cases b<;>rfl
theorem xW (a b:Bool):eB a b=(a==b):=by cases a<;>cases b<;>rfl
section
variable {m:Nat} {ih:Cl} {e:En} {σ:Mem} {c:Kt} {res:Rs} {ρ:Pl} {Y:Env} {w0:Fm} {w:i5} {full:Array li} {d:Tmp} {R:i9} {pos:String} {af:Array Edge} (hr:res≠ .no)
include hr
theorem Fj {f:kw->Nat->Nat->Rs} {x y:AV} {u:i6} (d:AR ρ x u) (g:AR ρ y v) (h:nkK f x y=res):∃k,∃a b:Nat,u= .int k a/\v= .int k b/\a<=jx k/\b<=jx k/\f k a b=res:=by
 obtain⟨k,a,m,h1⟩:=iz hr h;obtain⟨B,b,n,w⟩:=iz hr h1;obtain⟨t,h3⟩:=iD hr w;subst m;subst n;subst t;exact⟨k,a,b,d.1,g.1,d.2,g.2,h3⟩
theorem Lh {f:kw->Nat->Nat->Rs} {x y:AV} {u:i6} (g:AR ρ x u) (w:AR ρ y v) (h:nnK f x y=res):∃k d,∃a b:Nat,u= .int k a/\v= .int d b/\a<=jx k/\f k a b=res:=by
 obtain⟨k,a,m,h1⟩:=iz hr h;obtain⟨d,b,n,t⟩:=iz hr h1;subst m;subst n;exact⟨k,d,a,b,g.1,w.1,g.2,t⟩
theorem MG {B:Int->Int->Bool} {D:ip Nat->ip Nat->Bool} {x y:AV} {u:i6} (C:AR ρ x u) (g:AR ρ y v) (h:cmK B D q σ c x y=res):
  (∃k a b,u= .int k a/\v= .int k b/\c (.v (.b (q==B a b))) σ=res)\/(∃a b,u= .U (jI a)/\v= .U (jI b)/\(∀c∈a,c<256)/\(∀c∈b,c<256)/\c (.v (.b (q==D a b))) σ=res)\/∃a b:Nat,u= .float .f64 (fw a)/\v= .float .f64 (fw b)/\a<=1099511627776/\b<=1099511627776/\c (.v (.b (q==B a b))) σ=res:=by
 cases x with
 | v x=>
  cases x with
  |n k a=>
   obtain⟨rfl,E⟩:=C;rcases oT hr (show N0 y (λw b=>tj k w (bK σ c (eB q (B (.ofNat a) b))))=res from h)with⟨w,b,d,h1⟩|⟨w,b,d,h1⟩
   .exact y9
   .exact y9
  |m k a=>
   obtain⟨rfl,_⟩:=C;rcases oT hr (show N0 y (λw b=>tj k w (bK σ c (eB q (B (.negSucc a) b))))=res from h)with⟨w,b,d,h1⟩|⟨w,b,d,h1⟩
   .exact y9
   .exact y9
  |s a=>
   obtain⟨b,d,h1⟩:=lG hr (show Kv y (λb=>bK σ c (eB q (D a b)))=res from h);rw[rL,xW]at h1;subst d;exact .inr (.inl ⟨a,b,C.1,g.1,C.2.1,g.2.1,h1⟩)
  |fl a=>
   obtain⟨b,d,h1⟩:=yQ hr (show Zs y (λb=>bK σ c (eB q (B (.ofNat a) (.ofNat b))))=res from h);rw[rL,xW]at h1;subst d;exact .inr (.inr ⟨a,b,C.1,g.1,C.2,g.2,h1⟩)
  |_=>exact absurd h.symm hr
 |_=>exact absurd h.symm hr
theorem Lc {x:AV} {f0:Rs} {f:Nat->Nat->Rs} (h:onQ x f0 f=res):(x= .v .p0/\f0=res)\/∃id o,x= .v (.p id o)/\f id o=res:=by
 cases x with
 |v x=>cases x<;>first|exact .inl ⟨rfl,h⟩|exact .inr ⟨_,_,rfl,h⟩|exact absurd h.symm hr
 |_=>exact absurd h.symm hr
theorem kS {x:AV} {f0:Rs} {fl:Nat->Nat->Nat->Nat->Rs} {g:Nat->Nat->Nat->Nat->Nat->Rs} {d:Rs} {fs:ip Nat->Rs} {f:Nat->Nat->Rs} (h:LQ x f0 fl g d fs f=res):
  (x= .v .l0/\f0=res)\/(∃id z j n,x= .v (.l id z j n)/\fl id z j n=res)\/(∃id z j n k,x= .v (.lx id z j n k)/\g id z j n k=res)\/(∃id z j a,x= .v (.le id z j a)/\d=res)\/(∃l,x= .v (.s l)/\fs l=res)\/∃id o,x= .v (.p id o)/\f id o=res:=by
 cases x with
 |v x=>
  cases x with
  |l0=>exact .inl ⟨rfl,h⟩
  |l id z j n=>exact .inr (.inl ⟨_,_,_,_,rfl,h⟩)
  |lx id z j n k=>exact .inr (.inr (.inl ⟨_,_,_,_,_,rfl,h⟩))
  |le id z j a=>exact .inr (.inr (.inr (.inl ⟨_,_,_,_,rfl,h⟩)))
  |s l=>exact .inr (.inr (.inr (.inr (.inl ⟨_,rfl,h⟩))))
  |p id o=>exact .inr (.inr (.inr (.inr (.inr ⟨_,_,rfl,h⟩))))
  |_=>exact absurd h.symm hr
 |_=>exact absurd h.symm hr
variable (hE:ER m ρ e Y) (hM:MR w0 ρ σ w)
include hE
theorem two {f:AV->AV->Rs} (h:((iG m x).f e λx=>(iG m y).f e λy=>f x y)=res):∃a b va d,gh Y x=some va/\gh Y y=some d/\AR ρ a va/\AR ρ b d/\f a b=res:=by
 obtain⟨a,va,h1,g,h⟩:=gq hr hE h;obtain⟨b,d,h3,n,h⟩:=gq hr hE h
 grind
include hM
theorem aeX {op:BinOp} {E:i9} {f:Nat->Nat->Nat} {g:Int->Int->Int} (B:∀k a b w',(binOp op t (.int k a) (.int k b)).run prog w'= .ok (.int k (k.wrap (g a b))) w') (D:∀a b:Nat,g a b=f a b)
  (h:(arW f g m x y).f ih e σ c=res):xs prog fD fC [] gr.gS full (Good w0 ρ c res Y (some d)) [⟨some d,.binOp op t x y E,R,pos,af,none⟩] Y w:=by
 obtain⟨a,b,va,F,h1,u,h3,C,h⟩:=two hr hE h;obtain⟨k,⟨a,b,rfl,rfl,_,_,h⟩|⟨a,b,rfl,rfl,h⟩⟩:=LX hr h3 C h
 .rw[gV]at h;obtain⟨v,h,n⟩:=yx (ρ:=ρ) hr h;exact jE h1 u (eqGuard_at_int ..) (λw'=>B k _ _ w') ⟨_,σ,ρ,_,h,Up.refl ρ,by rw[D];exact n,hM,rfl⟩
 .obtain⟨v,h,n⟩:=vE (ρ:=ρ) hr h;exact jE h1 u (eqGuard_at_int ..) (λw'=>B k _ _ w') ⟨_,σ,ρ,_,h,Up.refl ρ,n,hM,rfl⟩
theorem ZW {E:i9} (h:(suW m x y).f ih e σ c=res):xs prog fD fC [] gr.gS full (Good w0 ρ c res Y (some d)) [⟨some d,.binOp .sub t x y E,R,pos,af,none⟩] Y w:=by
 obtain⟨a,b,va,G,h1,n,h3,D,h⟩:=two hr hE h;have u:∀k a b w',(binOp .sub t (.int k a) (.int k b)).run prog w'= .ok (.int k (k.wrap (a-b))) w':=by simp_all [binOp,Op.intArith]
 obtain⟨k,⟨a,b,rfl,rfl,F,_,h⟩|⟨a,b,rfl,rfl,h⟩⟩:=LX hr h3 D h
 .unfold suK at h;rw[mc]at h;split at h
  .rename_i g;have g:=jg g;rw[gV]at h;refine jE h1 n (eqGuard_at_int ..) (λw'=>u k _ _ w') ⟨_,σ,ρ,_,h,Up.refl ρ,⟨?_,?_⟩,hM,rfl⟩
   .grind [sI]
   grind
  .rename_i g
   have g:a<b:=by
    rw[n2]at g;simpa using g
   rw[gV]at h;obtain⟨v,h,B⟩:=Md (ρ:=ρ) hr h;refine jE h1 n (eqGuard_at_int ..) (λw'=>u k _ _ w') ⟨_,σ,ρ,_,h,Up.refl ρ,?_,hM,rfl⟩
   have C:((a:Int)-(b:Int))=Int.negSucc (Nat.sub (Nat.sub b a) 1):=by
    show _= -(((b-a-1:Nat):Int)+1)
    omega
   rw[C];exact B
 .obtain⟨v,h,B⟩:=vE (ρ:=ρ) hr h;exact jE h1 n (eqGuard_at_int ..) (λw'=>u k _ _ w') ⟨_,σ,ρ,_,h,Up.refl ρ,B,hM,rfl⟩
theorem ZF (h:(dvW Nat.div m x y).f ih e σ c=res):xs prog fD fC [] gr.gS full (Good w0 ρ c res Y (some d)) [⟨some d,.binOp .quo t x y B,R,pos,af,none⟩] Y w:=by
 obtain⟨a,b,va,D,h1,u,h3,v,h⟩:=two hr hE h;obtain⟨k,a,b,rfl,rfl,g,C,h⟩:=Fj hr h3 v h;obtain⟨n,h⟩:=fS h hr;have n:=jg n;rw[gV]at h;have hle:a/b<=jx k:=ly (QQ _ _) g;refine xdv (r:=((a/b:Nat):Int)) h1 u ?_ fy fy (sI g) ⟨_,σ,ρ,_,h,Up.refl ρ,⟨rfl,hle⟩,hM,rfl⟩;simp[Xx]
theorem ZS (h:(dvW Nat.mod m x y).f ih e σ c=res):xs prog fD fC [] gr.gS full (Good w0 ρ c res Y (some d)) [⟨some d,.binOp .rem t x y B,R,pos,af,none⟩] Y w:=by
 obtain⟨a,b,va,D,h1,u,h3,v,h⟩:=two hr hE h;obtain⟨k,a,b,rfl,rfl,g,C,h⟩:=Fj hr h3 v h;obtain⟨n,h⟩:=fS h hr;have n:=jg n;rw[gV]at h;have hle:a% b<=jx k:=ly (Nat.mod_le _ _) g;refine xdv (r:=((a% b:Nat):Int)) h1 u ?_ fy fy (sI g) ⟨_,σ,ρ,_,h,Up.refl ρ,⟨rfl,hle⟩,hM,rfl⟩;simp[Xx]
theorem Lf {op:BinOp} {G:i9} {f:Nat->Nat->Nat} (g:op= .and\/op= .or\/op= .xor\/op= .andNot) (F:∀{k:kw} {a b:Nat},a<=jx k->b<=jx k->bits op k a b=(f a b:Int)/\f a b<=jx k)
  (h:(ZZ f m x y).f ih e σ c=res):xs prog fD fC [] gr.gS full (Good w0 ρ c res Y (some d)) [⟨some d,.binOp op t x y G,R,pos,af,none⟩] Y w:=by
 obtain⟨a,b,va,H,h1,u,h3,C,h⟩:=two hr hE h;obtain⟨k,a,b,rfl,rfl,D,E,h⟩:=Fj hr h3 C h;rw[gV]at h;obtain⟨n,B⟩:=F D E;have v:Good w0 ρ c res Y (some d) ((d,.int k (f a b:Int))::Y) w:=⟨_,σ,ρ,_,h,Up.refl ρ,⟨rfl,B⟩,hM,rfl⟩;rcases g with g|g|g|rfl
 .exact LI h1 u (.inl g) n v
 .exact LI h1 u (.inr (.inl g)) n v
 .exact LI h1 u (.inr (.inr g)) n v
 .exact adN h1 u (by rw[n];exact v)
theorem ZN {D:i9} (h:(shW m x y).f ih e σ c=res):xs prog fD fC [] gr.gS full (Good w0 ρ c res Y (some d)) [⟨some d,.binOp .shl t x y D,R,pos,af,none⟩] Y w:=by
 obtain⟨a,b,va,G,h1,u,h3,B,h⟩:=two hr hE h;obtain⟨k,F,a,b,rfl,rfl,E,h⟩:=Lh hr h3 B h;obtain⟨g,h⟩:=fS h hr;have g:=jg g;rw[Rz]at g;rw[gV]at h;obtain⟨v,h,C⟩:=yx (ρ:=ρ) hr h;refine JV h1 u fy fy fx ⟨_,σ,ρ,_,h,Up.refl ρ,?_,hM,rfl⟩
 have n:((a:Int)*2^(b:Int).toNat)=Int.ofNat (Nat.shiftLeft a b):=by
  show _=((a<<<b:Nat):Int)
  rw[Da];simp
 rw[n];exact C
theorem abK (h:(srW m x y).f ih e σ c=res):xs prog fD fC [] gr.gS full (Good w0 ρ c res Y (some d)) [⟨some d,.binOp .shr t x y C,R,pos,af,none⟩] Y w:=by
 obtain⟨a,b,va,E,h1,u,h3,v,h⟩:=two hr hE h;obtain⟨k,D,a,b,rfl,rfl,B,h⟩:=Lh hr h3 v h;obtain⟨g,h⟩:=fS h hr;have g:=jg g;rw[Rz]at g;rw[gV]at h;have n:Nat.shiftRight a b=a/2^b:=L7 a b;refine XA h1 u fy fy ⟨_,σ,ρ,_,h,Up.refl ρ,⟨?_,?_⟩,hM,rfl⟩
 .rw[n];simp
 .rw[n];exact ly (QQ _ _) B
theorem Zz {J:i9} (h:(adW m x y).f ih e σ c=res):xs prog fD fC [] gr.gS full (Good w0 ρ c res Y (some d)) [⟨some d,.binOp .add t x y J,R,pos,af,none⟩] Y w:=by
 obtain⟨a,b,va,M,h1,D,h3,E,h⟩:=two hr hE h;have G:∀k a b w',(binOp .add t (.int k a) (.int k b)).run prog w'= .ok (.int k (k.wrap (a+b))) w':=by simp_all [binOp,Op.intArith]
 cases a with
 | v a=>
  cases a with
  | n k a=>
   obtain⟨rfl,H⟩:=h3;cases b with
   | v b=>
    cases b with
    |n C b=>
     obtain⟨g,u⟩:=iD hr (show tj k C (fN (Nat.add a b) λs=>Zx σ c k s)=res from h);clear h;subst g;have h:=u;obtain⟨rfl,F⟩:=E;rw[gV]at h;obtain⟨v,h,B⟩:=yx (ρ:=ρ) hr h;exact jE h1 D (eqGuard_at_int ..) (λw'=>G k _ _ w') ⟨_,σ,ρ,_,h,Up.refl ρ,B,hM,rfl⟩
    |m C b=>
     obtain⟨g,u⟩:=iD hr (show tj k C (SO σ c k (Int.add (.ofNat a) (.negSucc b)))=res from h);clear h;subst g;have h:=u;obtain⟨rfl,F⟩:=E;exact y12
    |_=>exact absurd h.symm hr
   |_=>exact absurd h.symm hr
  |m k a=>
   obtain⟨rfl,H⟩:=h3;rcases oT hr (show N0 b (λC b=>tj k C (SO σ c k (Int.add (.negSucc a) b)))=res from h)with⟨C,b,rfl,h⟩|⟨C,b,rfl,h⟩
   .obtain⟨g,u⟩:=iD hr h;clear h;subst g;have h:=u;obtain⟨rfl,F⟩:=E;exact y12
   .obtain⟨g,u⟩:=iD hr h;clear h;subst g;have h:=u;obtain⟨rfl,F,_⟩:=E;exact y12
  | s a=>
   obtain⟨rfl,H,K⟩:=h3;obtain⟨b,rfl,h⟩:=lG hr (show Kv b (λb=>ji (Nat.ble (a++b).length maxLen) (fP (a++b) λs=>c (.v (.s s)) σ))=res from h);obtain⟨rfl,F,L⟩:=E;obtain⟨hq,h⟩:=fS h hr;have hq:=jg hq;rw[nQ]at h
   have I:(jI a).length+(jI b).length<=maxLen:=by
    have:(a++b).length<=maxLen:=hq;simpa[jI]using this
   refine qN h1 D I ⟨_,σ,ρ,_,h,Up.refl ρ,⟨by simp[jI],λq hq=>?_,hq⟩,hM,rfl⟩
   grind
  |_=>exact absurd h.symm hr
 |_=>exact absurd h.symm hr
theorem XH {op:BinOp} {g:Int->Int->Bool} {u:ip Nat->ip Nat->Bool} (D:∀k a b w',(binOp op t (.int k a) (.int k b)).run prog w'= .ok (.bool (q==g a b)) w') (E:∀a b:ip Nat,(∀c∈a,c<256)->(∀c∈b,c<256)->hG op (jI a) (jI b)=some (q==u a b)) (G:∀a b:Nat,a<=1099511627776->b<=1099511627776->∀w',(binOp op t (.float .f64 (fw a)) (.float .f64 (fw b))).run prog w'= .ok (.bool (q==g a b)) w')
  (h:(cmW g u q m x y).f ih e σ c=res):xs prog fD fC [] gr.gS full (Good w0 ρ c res Y (some d)) [⟨some d,.binOp op t x y F,R,pos,af,none⟩] Y w:=by
 obtain⟨a,b,va,H,h1,n,h3,C,h⟩:=two hr hE h;rcases MG hr h3 C h with⟨k,a,b,rfl,rfl,h⟩|⟨a,b,rfl,rfl,v,B,h⟩|⟨a,b,rfl,rfl,v,B,h⟩
 .exact jE h1 n (eqGuard_at_int ..) (λw'=>D k _ _ w') ⟨_,σ,ρ,_,h,Up.refl ρ,rfl,hM,rfl⟩
 .exact gk h1 n (E a b v B) ⟨_,σ,ρ,_,h,Up.refl ρ,rfl,hM,rfl⟩
 .exact jE h1 n (by cases op<;>rfl) fM ⟨_,σ,ρ,_,h,Up.refl ρ,rfl,hM,rfl⟩
theorem aaV {op:BinOp} {g:Int->Int->Bool} {u:ip Nat->ip Nat->Bool} (D:∀k a b w',(binOp op t (.int k a) (.int k b)).run prog w'= .ok (.bool (q==g b a)) w') (E:∀a b:ip Nat,(∀c∈a,c<256)->(∀c∈b,c<256)->hG op (jI a) (jI b)=some (q==u b a)) (G:∀a b:Nat,a<=1099511627776->b<=1099511627776->∀w',(binOp op t (.float .f64 (fw a)) (.float .f64 (fw b))).run prog w'= .ok (.bool (q==g b a)) w')
  (h:(cmW g u q m y x).f ih e σ c=res):xs prog fD fC [] gr.gS full (Good w0 ρ c res Y (some d)) [⟨some d,.binOp op t x y F,R,pos,af,none⟩] Y w:=by
 obtain⟨b,a,H,va,n,h1,C,h3,h⟩:=two hr hE h;rcases MG hr C h3 h with⟨k,b,a,rfl,rfl,h⟩|⟨b,a,rfl,rfl,B,v,h⟩|⟨b,a,rfl,rfl,B,v,h⟩
 .exact jE h1 n (eqGuard_at_int ..) (λw'=>D k _ _ w') ⟨_,σ,ρ,_,h,Up.refl ρ,rfl,hM,rfl⟩
 .exact gk h1 n (E a b v B) ⟨_,σ,ρ,_,h,Up.refl ρ,rfl,hM,rfl⟩
 .exact jE h1 n (by cases op<;>rfl) fM ⟨_,σ,ρ,_,h,Up.refl ρ,rfl,hM,rfl⟩
theorem ZY (h:(unW m .not x).f ih e σ c=res):xs prog fD fC [] gr.gS full (Good w0 ρ c res Y (some d)) [⟨some d,.unOp .not t x,R,pos,af,none⟩] Y w:=by
 obtain⟨q,v,h1,n,h⟩:=gq hr hE (show(iG m x).f e _=res from h);rcases uE hr h with⟨rfl,h⟩|⟨rfl,h⟩
 .have g:v= .bool true:=n;subst g;exact ti h1 ⟨_,σ,ρ,_,h,Up.refl ρ,rfl,hM,rfl⟩
 .have g:v= .bool false:=n;subst g;exact ti h1 ⟨_,σ,ρ,_,h,Up.refl ρ,rfl,hM,rfl⟩
theorem aaA (h:(unW m .neg x).f ih e σ c=res):xs prog fD fC [] gr.gS full (Good w0 ρ c res Y (some d)) [⟨some d,.unOp .neg t x,R,pos,af,none⟩] Y w:=by
 obtain⟨q,v,h1,u,h⟩:=gq hr hE (show(iG m x).f e _=res from h)
 have key:∀k (n:Int),v= .int k n->SO σ c k (Int.neg n)=res->xs prog fD fC [] gr.gS full (Good w0 ρ c res Y (some d)) [⟨some d,.unOp .neg t x,R,pos,af,none⟩] Y w:=λk n g h=>by
  subst g;obtain⟨v,h,g⟩:=vE (ρ:=ρ) hr h;refine gW fx (by grind [gd,Op.operands]) ⟨.int k (k.wrap (-n)),λw'=>?_,_,σ,ρ,_,h,Up.refl ρ,g,hM,rfl⟩;simp[execOp,fR h1,Op.unary,Op.intArith]
 rcases oT hr h with⟨k,a,rfl,h⟩|⟨k,a,rfl,h⟩
 .exact key k _ u.1 h
 .exact key k _ u.1 h
end
def LP (h:uns k=true):k.signed=false:=by cases k<;>first|rfl|cases h
def zh (h:k.signed=false) (z:Int):∃n:Nat,k.wrap z=n/\n<=jx k:=by
 cases k<;>first|cases h|skip
 .exact⟨(z% 256).toNat,by grind [IntKind.wrap,IntKind.signed,IntKind.bits],by simp[jx];omega⟩
 .exact⟨(z% 65536).toNat,by grind [IntKind.wrap,IntKind.signed,IntKind.bits],by simp[jx];omega⟩
 .exact⟨(z% 4294967296).toNat,by grind [IntKind.wrap,IntKind.signed,IntKind.bits],by simp[jx];omega⟩
 .exact⟨(z% 18446744073709551616).toNat,by grind [IntKind.wrap,IntKind.signed,IntKind.bits],by simp[jx];omega⟩
def MR.unk {d f:Mem} (h:MR w0 ρ d w) (b:Nat) (C:f.n=d.n+1/\f.mp=d.mp) (T:jF f d.n=some ⟨0,0,0,.nil⟩) (hk:∀k,k≠d.n->jF f k=jF d k):MR w0 (ρ++[⟨b,0,0⟩]) f w:=by
 have hu:=Up.snoc ρ ⟨b,0,0⟩
 have hold:∀id o p,(ig f id o).isSome=true->(ρ++[(⟨b,0,0⟩:At)])[id]? =some p->id≠d.n/\(ig d id o).isSome=true/\ρ[id]? =some p:=λid o p hs m=>by
  have g:id≠d.n:=by grind [ig,h8,kG]
  have H:ig f id o=ig d id o:=by unfold ig;rw[hk id g]
  rw[H]at hs;obtain⟨x,B⟩:=rB.1 hs;obtain⟨q,t,cs,v,h1,_⟩:=h.at_ B
  grind
 refine⟨by simp[h.len,C.1],λid t h1 I=>?_,h.old,λid o p hs m=>?_,λid t h1 o Q=>?_,λid D o o' p E O hs S m R=>?_,by rw[C.2];exact h.AH.to hu (λ_ _ y=>y) λ_ _ _ y=>y⟩
 .have g:id≠d.n:=by grind [kG]
  rw[hk id g]at h1;obtain⟨p,cs,h3,J,L,K⟩:=h.gO id t h1 I;refine⟨p,cs,hu _ _ h3,J,L,λo x B=>?_⟩;obtain⟨v,M,N⟩:=K o x B;exact⟨v,M,N.up hu⟩
 .obtain⟨_,u,a2⟩:=hold id o p hs m;exact h.xF id o p u a2
 .by_cases g:id=d.n
  .grind [kG]
  .rw[hk id g]at h1;exact h.pre id t h1 o Q
 .obtain⟨_,u,a2⟩:=hold id o p hs m;obtain⟨_,F,G⟩:=hold D o' E S R;exact h.apart id D o o' p E O u F a2 G
section
variable {m:Nat} {ih:Cl} {e:En} {σ:Mem} {c:Kt} {res:Rs} {ρ:Pl} {Y:Env} {w0:Fm} {w:i5} {full:Array li} {d:Tmp} {R:i9} {pos:String} {af:Array Edge} (hr:res≠ .no)
include hr
omit hr in
theorem ry {a:AV} (h:Xy a=some k) (d:AR ρ a v):∃n:Nat,v= .int k (n:Int)/\n<=jx k/\k.signed=false:=by
 unfold Xy at h;split at h
 .injection h with h;subst h
  obtain⟨p,_,f,h3,g⟩:=d
  grind
 .cases h
omit hr in
theorem F7 {a:AV} (h:nkO a=some k) (d:AR ρ a v):∃n:Nat,v= .int k (n:Int)/\n<=jx k:=by
 unfold nkO at h;split at h
 .injection h with h;subst h
  obtain⟨p,_,f,h3,g⟩:=d
  grind
 .injection h with h;subst h
  exact⟨_,d.1,d.2⟩
 .cases h
theorem Xf {x:AV} {f:kw->Nat->Rs} (h:uR x f=res) (d:AR ρ x v):∃k,∃n:Nat,v= .int k (n:Int)/\f k n=res:=by
 obtain⟨k,n,rfl,h⟩:=iz hr h;exact⟨k,n,d.1,h⟩
variable (hM:MR w0 ρ σ w)
include hM
theorem n5 (h:D5 σ c k=res) (n:Nat) (t:n<=jx k):Good w0 ρ c res Y (some d) ((d,.int k (n:Int))::Y) w:=by
 obtain⟨hk,h⟩:=fS h hr;obtain⟨u,f,h3,g,h⟩:=zX hr h;have m:(ρ++[(⟨n,0,0⟩:At)])[σ.n]? =some ⟨n,0,0⟩:=by rw[<-hM.len];simp
 exact⟨_,u,_,_,h,by grind [Up.snoc],⟨_,m,rfl,t,LP hk⟩,hM.unk n f h3 g,rfl⟩
omit hM in
theorem A9 (h:D5 σ c k=res):k.signed=false:=LP (fS h hr).1
variable (hE:ER m ρ e Y)
include hE
omit hM in
theorem K5 (h:(Y0 m x y W).f ih e σ c=res):
  (∃(k:kw) (a b:Nat),gh Y x=some (.int k (a:Int))/\gh Y y=some (.int k (b:Int))/\a<=jx k/\b<=jx k/\D5 σ c k=res)\/W.f ih e σ c=res:=by
 obtain⟨a,b,va,C,h1,B,h3,g,h⟩:=two hr hE h;unfold xuK at h;split at h
 .rename_i k hk;obtain⟨n,rfl,v,_⟩:=ry hk h3;split at h
  .rename_i w d;obtain⟨q,rfl,hq⟩:=F7 d g;obtain⟨t,u⟩:=iD hr h;grind
  grind
 .split at h
  .rename_i k hk;obtain⟨n,rfl,v,_⟩:=ry hk g;split at h
   .rename_i w d;obtain⟨q,rfl,hq⟩:=F7 d h3;obtain⟨t,u⟩:=iD hr h;grind
   grind
  .exact .inr h
theorem ab0 {op:BinOp} {g:Int->Int->Int} (D:∀k a b w',(binOp op t (.int k a) (.int k b)).run prog w'= .ok (.int k (k.wrap (g a b))) w')
  (old:W.f ih e σ c=res->xs prog fD fC [] gr.gS full (Good w0 ρ c res Y (some d)) [⟨some d,.binOp op t x y u,R,pos,af,none⟩] Y w)
  (h:(Y0 m x y W).f ih e σ c=res):xs prog fD fC [] gr.gS full (Good w0 ρ c res Y (some d)) [⟨some d,.binOp op t x y u,R,pos,af,none⟩] Y w:=by
 rcases K5 hr hE h with⟨k,a,b,h1,B,_,_,h⟩|h
 .obtain⟨n,v,C⟩:=zh (A9 hr h) (g a b);refine jE h1 B (eqGuard_at_int ..) (λw'=>D k _ _ w') ?_;rw[v];exact n5 hr hM h n C
 .exact old h
theorem VZ {op:BinOp} {f:Nat->Nat->Nat} (E:op= .and\/op= .or\/op= .xor) (C:∀{k:kw} {a b:Nat},a<=jx k->b<=jx k->bits op k a b=(f a b:Int)/\f a b<=jx k)
  (old:W.f ih e σ c=res->xs prog fD fC [] gr.gS full (Good w0 ρ c res Y (some d)) [⟨some d,.binOp op t x y g,R,pos,af,none⟩] Y w)
  (h:(Y0 m x y W).f ih e σ c=res):xs prog fD fC [] gr.gS full (Good w0 ρ c res Y (some d)) [⟨some d,.binOp op t x y g,R,pos,af,none⟩] Y w:=by
 rcases K5 hr hE h with⟨k,a,b,h1,u,v,B,h⟩|h
 .obtain⟨n,D⟩:=C v B;exact LI h1 u E n (n5 hr hM h _ D)
 .exact old h
theorem abp 
  (old:W.f ih e σ c=res->xs prog fD fC [] gr.gS full (Good w0 ρ c res Y (some d)) [⟨some d,.binOp .rem t x y B,R,pos,af,none⟩] Y w)
  (h:(xrW m x y W).f ih e σ c=res):xs prog fD fC [] gr.gS full (Good w0 ρ c res Y (some d)) [⟨some d,.binOp .rem t x y B,R,pos,af,none⟩] Y w:=by
 obtain⟨a,b,va,H,h1,D,h3,E,g⟩:=two hr hE (show((iG m x).f e λa=>(iG m y).f e λb=>xrK σ c (W.f ih e σ c) a b)=res from h);unfold xrK at g;split at g
 .rename_i k hk;obtain⟨n,rfl,v,_⟩:=ry hk h3;obtain⟨G,q,rfl,u⟩:=Xf hr g E;obtain⟨C,F⟩:=iD hr u;subst C;obtain⟨hq,u⟩:=fS F hr;have hq:=jg hq;have hle:n% q<=jx k:=ly (Nat.mod_le _ _) v;exact xdv (r:=((n% q:Nat):Int)) h1 D (by simp[Xx]) fy fy (sI v) (n5 hr hM u _ hle)
 .exact old g
omit hM in
theorem Lj (h:(xsW m x y W).f ih e σ c=res):
  (∃(k g:kw) (a b:Nat),gh Y x=some (.int k (a:Int))/\gh Y y=some (.int g (b:Int))/\a<=jx k/\b<=k.bits/\D5 σ c k=res)\/W.f ih e σ c=res:=by
 obtain⟨a,b,va,w,h1,u,h3,t,h⟩:=two hr hE h;unfold xsK at h;split at h
 .rename_i k hk;obtain⟨n,rfl,v,_⟩:=ry hk h3;obtain⟨g,q,rfl,d⟩:=Xf hr h t;obtain⟨hq,d⟩:=fS d hr;have hq:=jg hq
  grind [Rz]
 .exact .inr h
theorem abi 
  (old:W.f ih e σ c=res->xs prog fD fC [] gr.gS full (Good w0 ρ c res Y (some d)) [⟨some d,.binOp .shl t x y g,R,pos,af,none⟩] Y w)
  (h:(xsW m x y W).f ih e σ c=res):xs prog fD fC [] gr.gS full (Good w0 ρ c res Y (some d)) [⟨some d,.binOp .shl t x y g,R,pos,af,none⟩] Y w:=by
 rcases Lj hr hE h with⟨k,E,a,b,h1,v,C,D,h⟩|h
 .obtain⟨n,u,B⟩:=zh (A9 hr h) ((a:Int)*2^(b:Int).toNat);exact JV h1 v fy fy u (n5 hr hM h n B)
 .exact old h
theorem abj 
  (old:W.f ih e σ c=res->xs prog fD fC [] gr.gS full (Good w0 ρ c res Y (some d)) [⟨some d,.binOp .shr t x y g,R,pos,af,none⟩] Y w)
  (h:(xsW m x y W).f ih e σ c=res):xs prog fD fC [] gr.gS full (Good w0 ρ c res Y (some d)) [⟨some d,.binOp .shr t x y g,R,pos,af,none⟩] Y w:=by
 rcases Lj hr hE h with⟨k,C,a,b,h1,u,v,B,h⟩|h
 .refine XA h1 u fy fy ?_;have n:((a:Int)/2^(b:Int).toNat)=((a/2^b:Nat):Int):=by simp
  rw[n];exact n5 hr hM h _ (ly (QQ _ _) v)
 .exact old h
end
def HI {a:AV} {l:ip Nat} (h:slS a=some l) (d:AR ρ a v):v= .U (l.map (oP ρ))/\(∀q∈l,q<256\/∃p,ρ[q-256]? =some p/\p.b<256)/\l.length<=maxLen:=by
 unfold slS at h;split at h
 .injection h with h;subst h
  exact d
 .rename_i l';injection h with h;subst h
  obtain⟨h1,f,h3⟩:=d;refine⟨?_,fM,h3⟩;rw[h1];refine congrArg (λr=>Value.U r) (x5 λq hq=>?_)
  grind [oP]
 .cases h
def FO {a:AV} {l:ip Nat} (h:Ze a=some l):a= .v (.sl l):=by
 unfold Ze at h
 grind
section
variable {m:Nat} {ih:Cl} {e:En} {σ:Mem} {c:Kt} {res:Rs} {ρ:Pl} {Y:Env} {w0:Fm} {w:i5} {full:Array li} {d:Tmp} {R:i9} {pos:String} {af:Array Edge} (hr:res≠ .no) (hE:ER m ρ e Y) (hM:MR w0 ρ σ w)
include hr hE hM
theorem aeI 
  (old:W.f ih e σ c=res->xs prog fD fC [] gr.gS full (Good w0 ρ c res Y (some d)) [⟨some d,.binOp .add t x y g,R,pos,af,none⟩] Y w)
  (h:(laW m x y W).f ih e σ c=res):xs prog fD fC [] gr.gS full (Good w0 ρ c res Y (some d)) [⟨some d,.binOp .add t x y g,R,pos,af,none⟩] Y w:=by
 obtain⟨a,b,va,G,h1,n,h3,u,h⟩:=two hr hE (show((iG m x).f e λa=>(iG m y).f e λb=>laK σ c (W.f ih e σ c) a b)=res from h)
 have key:slK σ c a b=res->xs prog fD fC [] gr.gS full (Good w0 ρ c res Y (some d)) [⟨some d,.binOp .add t x y g,R,pos,af,none⟩] Y w:=λh=>by
  unfold slK at h;split at h
  .rename_i l r B C;obtain⟨rfl,D,a2⟩:=HI B h3;obtain⟨rfl,E,F⟩:=HI C u;obtain⟨hq,h⟩:=fS h hr;have hq:=jg hq;rw[nQ]at h;have v:(l.map (oP ρ)).length+(r.map (oP ρ)).length<=maxLen:=by simpa only[jv,ib]using hq
   refine qN h1 n v ⟨_,σ,ρ,_,h,Up.refl ρ,⟨by simp,λq hq=>?_,hq⟩,hM,rfl⟩
   grind
  .exact absurd h.symm hr
 unfold laK at h;split at h
 .exact old h
 .exact key h
end
def El {d:kw} {b:Bool} (h:eN k d b=some r):k=d/\b=r:=by
 unfold eN at h;cases f:Nat.beq (kn k) (kn d)with
 |false=>simp_all
 |true=>
  rw[f]at h;injection h with h
  refine⟨?_,h⟩;cases k<;>cases d<;>first|rfl|cases f
theorem Vl (a b:Nat):(Int.ofNat a==Int.ofNat b)=decide (a=b):=by
 grind
theorem S3 (a b:Nat):(Int.negSucc a==Int.negSucc b)=decide (a=b):=by
 grind
def Pg {f:Bool} {x y:SV} {u:i6} (h:eF f x y=some r) (B:SR ρ x u) (C:SR ρ y v) (ht:(f=true/\fC t=true)\/(f=false/\∃k,kindOf t=some k)) (D:Nat) (w':i5):(Op.equalIn (D+1) t u v).run prog w'= .ok r w':=by
 have hi:∀(k:kw) (a b:Int),(∃k,kindOf t=some k)->(Op.equalIn (D+1) t (.int k a) (.int k b)).run prog w'= .ok (a==b) w':=by simp_all [run_equalIn_int,iN]
 rcases ht with⟨rfl,ht⟩|⟨rfl,ht⟩
 .cases x with
  | s a=>
   cases y with
   |s b=>
    have h:some (eU a b)=some r:=h;injection h with h
    obtain⟨rfl,E,hm⟩:=B;obtain⟨rfl,F,G⟩:=C
    grind [run_equalIn_string,h7,jt,Qw]
   |_=>cases h
  |_=>cases h
 .cases x with
  | n k a=>
   cases y with
   |n w b=>
    obtain⟨d,g⟩:=El (show eN k w (Nat.beq a b)=some r from h);subst d;rw[B.1,C.1,hi k _ _ ht,<-g,yJ]
    grind [Vl]
   |m w b=>
    obtain⟨d,g⟩:=El (show eN k w (false)=some r from h);subst d;rw[B.1,C.1,hi k _ _ ht,<-g];rfl
   |_=>cases h
  | m k a=>
   cases y with
   |n w b=>
    obtain⟨d,g⟩:=El (show eN k w (false)=some r from h);subst d;rw[B.1,C.1,hi k _ _ ht,<-g];rfl
   |m w b=>
    obtain⟨d,g⟩:=El (show eN k w (Nat.beq a b)=some r from h);subst d;rw[B.1,C.1,hi k _ _ ht,<-g,yJ]
    grind [S3]
   |_=>cases h
  |_=>cases h
def Mb {f:Bool} {fl:ip Bool} {a b:ip SV} (h:eT (f::fl) a b=some r):∃x d y b' p q,a=x::d/\b=y::b'/\eF f x y=some p/\eT fl d b'=some q/\r=(p&&q):=by
 cases a with
 |nil=>cases b<;>cases h
 | cons x a=>
  cases b with
  |nil=>cases h
  | cons y b=>
   have g:(match eF f x y,eT fl a b with
    |some p,some q=>some (p&&q)
    |_,_=>none)=some r:=h
   grind
def sX {α:Type} {xs:ip α} {k:Nat} {v:α} {r:ip α} (h:xs.drop k=v::r):xs[k]? =some v/\xs.drop (k+1)=r:=by
 have h1:(xs.drop k)[0]? =some v:=by rw[h];rfl
 refine⟨by simpa using h1,?_⟩;rw[<-rU,h];rfl
theorem AG {ρ:Pl} {xs ys:ip i6} (u:Nat) (w':i5):∀{fs:ip Field} {k:Nat} {fl:ip Bool} {la lb:ip SV} {va t:ip i6} {r:Bool},flat fs k=some fl->j1 ρ la va->j1 ρ lb t->xs.drop k=va->ys.drop k=t->eT fl la lb=some r->(Op.eqFields (u+1) xs.toArray ys.toArray fs).run prog w'= .ok r w'
 | [],k,fl,la,lb,va,t,r,v,d,m,E,F,h=>by
  obtain rfl:=jb v;cases la with
  | nil=>
   cases lb with
   |nil=>
    have h:some true=some r:=h;obtain rfl:=jb h;simp[Op.eqFields]
   |cons _ _=>cases h
  |cons _ _=>cases lb<;>cases h
 | f ::fs,k,fl,la,lb,va,t,r,v,d,m,E,F,h=>by
  have n:(match Nat.beq f.offset k&&f.name != "_" &&prog.plainKey f.type,flat fs (Nat.add k 1)with
   |true,some r=>match kindOf f.type,fC f.type with
    |some _,_=>some (false::r)
    |none,true=>some (true::r)
    |none,false=>none
   |_,_=>none)=some fl:=v
  split at n
  .rename_i r0 hc L;simp only[iU,bne_iff_ne,ne_eq]at hc;obtain⟨⟨w,K⟩,D⟩:=hc;have w:=jq w
   have key:∃g,fl=g::r0/\((g=true/\fC f.type=true)\/(g=false/\∃k,kindOf f.type=some k)):=by
    split at n
    .grind
    .grind
    .cases n
   obtain⟨g,rfl,J⟩:=key;obtain⟨x,Q,y,b',p,q,rfl,rfl,h1,I,rfl⟩:=Mb h;cases d with
   | cons M d=>
    cases m with
    |cons N m=>
     obtain⟨B,G⟩:=sX E;obtain⟨C,H⟩:=sX F;rw[<-w]at B C;have O:=AG u w' (fs:=fs) (k:=k+1) L d m G H I;have he:=Pg h1 M.2 N.2 J u w';rw[Op.eqFields,if_pos K];simp only[tg,run_part_plain w' D (xs:=xs.toArray) (by simpa using B),run_part_plain w' D (xs:=ys.toArray) (by simpa using C),tp,he];cases p<;>simp[O]
  .cases n
theorem C0 {ρ:Pl} {xs ys:ip i6} {e:i9} (hk:∃k,kindOf e=some k) (t:prog.plainKey e=true) (m:Nat) (w':i5):∀{n k:Nat} {la lb:ip SV} {va g:ip i6} {r:Bool},j1 ρ la va->j1 ρ lb g->xs.drop k=va->ys.drop k=g->eT (List.replicate n false) la lb=some r->(Op.eqItems (m+1) e 1 xs.toArray ys.toArray (List.range' k n)).run prog w'= .ok r w'
 | 0,k,la,lb,va,g,r,d,f,u,v,h=>by
  cases la with
  | nil=>
   cases lb with
   |nil=>
    have h:some true=some r:=h;obtain rfl:=jb h;simp[Op.eqItems]
   |cons _ _=>cases h
  |cons _ _=>cases lb<;>cases h
 | n+1,k,la,lb,va,g,r,d,f,u,v,h=>by
  rw[Xd]at h;obtain⟨x,I,y,b',p,q,rfl,rfl,h1,E,rfl⟩:=Mb h;cases d with
  | cons F d=>
   cases f with
   |cons G f=>
    obtain⟨C,w⟩:=sX u;obtain⟨D,B⟩:=sX v;have H:=C0 hk t m w' (n:=n) (k:=k+1) d f w B E;have he:=Pg h1 F.2 G.2 (.inr ⟨rfl,hk⟩) m w';rw[K7];simp only[Op.eqItems,oR,tg,run_part_plain w' t (xs:=xs.toArray) (off:=k) (by simpa using C),run_part_plain w' t (xs:=ys.toArray) (off:=k) (by simpa using D),tp,he];cases p<;>simp[H]
def To {fl:ip Bool} (h:peq t=some fl) {la lb:ip SV} {va d:ip i6} (m:j1 ρ la va) (u:j1 ρ lb d) (he:eT fl la lb=some r) (w':i5):prog.eqGuardType prog.depth t=false/\(Op.equalIn 10000 t (.agg va.toArray) (.agg d.toArray)).run prog w'= .ok r w':=by
 unfold peq at h;split at h
 .cases h
 .rename_i h1;refine⟨h1,?_⟩;split at h
  .cases h
  .rename_i g;split at h
   .rename_i fs h3
    have f:prog.fieldsOf t=fs:=by
     unfold Program.fieldsOf;rw[h3]
    rw[run_equalIn_agg w' 9999 t _ _ (by rw[f];exact h3) g,f];exact AG 9998 w' (xs:=va) (ys:=d) h m u fx fx he
   .rename_i n e h3;split at h
    .rename_i hc;obtain rfl:=jb h;simp only[iU]at hc;obtain⟨⟨hk,w⟩,x⟩:=hc;obtain⟨_,i,hi,hs⟩:=nj w
     have v:prog.cellsOf e=1:=by
      unfold Program.cellsOf;rw[hi];exact hs
     rw[run_equalIn_array w' 9999 _ _ h3 hi,v,xE]
     grind [C0,Option.isSome_iff_exists]
    .cases h
   .cases h
def ptrEq:Option Addr->Option Addr->Option Bool
 |none,b=>some b.isNone
 |some _,none=>some false
 |some _,some _=>none
def K8 (ht:prog.underlying t=some (.pointer el)) (f:Nat) (a b:Option Addr) (d:ptrEq a b=some r) (w':i5):(Op.equalIn (f+1) t (.pointer a) (.pointer b)).run prog w'= .ok r w':=by
 cases a with
 |none=>
  obtain rfl:=jb d;cases b<;>simp[Op.equalIn,run_underlying ht]
 | some a=>
  cases b with
  |none=>
   obtain rfl:=jb d;simp[Op.equalIn,run_underlying ht]
  |some b=>cases d
theorem TX {ms:Array (String×i9)} (ht:prog.underlying t=some (.interface ms)) (d:Nat) (w:i5):(Op.equalIn (d+1) t .nilIface .nilIface).run prog w= .ok true w:=by simp[Op.equalIn,run_underlying ht]
theorem Ue (ht:prog.underlying t=some (.slice el)) (d:Nat) (A:Option Addr) (n k n' f:Nat) (w':i5):(Op.equalIn (d+1) t (.slice A n k) (.slice none n' f)).run prog w'= .ok A.isNone w':=by
 cases A<;>simp[Op.equalIn,run_underlying ht]
theorem uX {op:BinOp} (h:binOp op t (.float .f64 (fw a)) (.float .f64 (fw b))=pure (.bool r)) {d:Bool} (f:r=d) (w':i5):(binOp op t (.float .f64 (fw a)) (.float .f64 (fw b))).run prog w'= .ok (.bool d) w':=by
 rw[h,f];rfl
theorem u9 (d:a<=1099511627776) (f:b<=1099511627776):FloatKind.f64.format.order (fw a) (fw b)=some (compare a b):=by grind [zM]
theorem Rt:(compare a b== .lt)=decide ((a:Int)<(b:Int)):=by
 grind [Nat.lt_trichotomy,Nat.compare_eq_lt,decide_eq_true,Nat.compare_eq_eq,decide_eq_false,Nat.compare_eq_gt]
theorem Q9:(compare a b== .gt)=decide ((b:Int)<(a:Int)):=by
 grind [Nat.lt_trichotomy,Nat.compare_eq_lt,decide_eq_false,Nat.compare_eq_eq,Nat.compare_eq_gt,decide_eq_true]
theorem cmp_eq:(compare a b== .eq)=decide ((a:Int)=(b:Int)):=by
 grind
section
variable {m:Nat} {ih:Cl} {e:En} {σ:Mem} {c:Kt} {res:Rs} {ρ:Pl} {Y:Env} {w0:Fm} {w:i5} {full:Array li} {d:Tmp} {R:i9} {pos:String} {af:Array Edge} (hr:res≠ .no) (hE:ER m ρ e Y) (hM:MR w0 ρ σ w)
def qw (q:Bool):BinOp:=match q with
 |true=> .eql
 |false=> .neq
include hM
theorem PB {n:i9} {va f:i6} (h1:gh Y x=some va) (g:gh Y y=some f) (m:eqGuard (qw q) t x y va f=pure ()) (B:binOp .eql t va f=(do pure (.bool (<-Op.equal t va f)))) (C:binOp .neq t va f=(do pure (.bool (!(<-Op.equal t va f)))))
  (he:∀w',(Op.equalIn (9999+1) t va f).run prog w'= .ok r w') (h:c (.v (.b (q==r))) σ=res):xs prog fD fC [] gr.gS full (Good w0 ρ c res Y (some d)) [⟨some d,.binOp (qw q) t x y n,R,pos,af,none⟩] Y w:=by
 refine jE (v:= .bool (q==r)) h1 g m (λw'=>?_) ⟨_,σ,ρ,_,h,Up.refl ρ,rfl,hM,rfl⟩;have u:(Op.equal t va f).run prog w'= .ok r w':=he w';cases q with
 |true=>
  show(binOp .eql t va f).run prog w'=_
  simp_all
 |false=>
  show(binOp .neq t va f).run prog w'=_
  simp_all
include hr hE
theorem abh {D:i9} (ht:prog.underlying t=some .bool) (h:(T5 (eqC q) m x y).f ih e σ c=res):xs prog fD fC [] gr.gS full (Good w0 ρ c res Y (some d)) [⟨some d,.binOp (qw q) t x y D,R,pos,af,none⟩] Y w:=by
 obtain⟨a,b,va,F,h1,E,h3,u,h⟩:=two hr hE h
 have key:∀p r:Bool,va= .bool p->F= .bool r->c (.v (.b (q==(p==r)))) σ=res->xs prog fD fC [] gr.gS full (Good w0 ρ c res Y (some d)) [⟨some d,.binOp (qw q) t x y D,R,pos,af,none⟩] Y w:=λp r g n h=>by
  subst g;subst n;exact PB hM h1 E (eqGuard_at_bool ..) fx fx (by grind [run_equalIn_bool]) h
 rcases uE hr h with⟨g,C⟩|⟨g,C⟩<;>rcases uE hr C with⟨n,B⟩|⟨n,B⟩<;>rw[rL]at B<;>subst g<;>subst n
 .exact key true true h3 u lX
 .exact key true false h3 u (by cases q<;>exact B)
 .exact key false true h3 u (by cases q<;>exact B)
 .exact key false false h3 u lX
theorem aaM (ht:prog.underlying t=some (.pointer el)) (h:(T5 (eqQ q) m x y).f ih e σ c=res):xs prog fD fC [] gr.gS full (Good w0 ρ c res Y (some d)) [⟨some d,.binOp (qw q) t x y F,R,pos,af,none⟩] Y w:=by
 obtain⟨a,b,va,E,h1,v,h3,B,h⟩:=two hr hE h;rcases Lc hr h with⟨C,D⟩|⟨id,o,C,D⟩<;>rcases Lc hr D with⟨e4,g⟩|⟨G,o',e4,g⟩<;>subst C<;>subst e4
 .have n:va= .pointer none:=h3;have u:E= .pointer none:=B;subst n;subst u;rw[rL]at g;exact PB (r:=true) hM h1 v (by simp_all [eqGuard,qw]) fx fx (λw'=>K8 ht 9999 _ _ fx w') lX
 .obtain⟨p,_,rfl⟩:=B;have n:va= .pointer none:=h3;subst n;exact y43
 .obtain⟨p,_,rfl⟩:=h3;have u:E= .pointer none:=B;subst u;exact y43
 .exact absurd g.symm hr
theorem abH {ms:Array (String×i9)} (ht:prog.underlying t=some (.interface ms)) (h:(YJ q m x y).f ih e σ c=res):xs prog fD fC [] gr.gS full (Good w0 ρ c res Y (some d)) [⟨some d,.binOp (qw q) t x y C,R,pos,af,none⟩] Y w:=by
 unfold YJ at h;split at h
 .obtain⟨a,v,h1,u,h3⟩:=gq hr hE h;obtain⟨n,B⟩:=UG hr h3;subst n;have g:v= .nilIface:=u;subst g;rw[rL]at B;exact PB (r:=true) hM h1 fx (by cases q<;>cases x<;>rfl) fx fx (by grind [TX]) lX
 .exact absurd h.symm hr
theorem abB (ht:prog.underlying t=some (.slice el)) (h:(T5 (eqZ q) m x y).f ih e σ c=res):xs prog fD fC [] gr.gS full (Good w0 ρ c res Y (some d)) [⟨some d,.binOp (qw q) t x y C,R,pos,af,none⟩] Y w:=by
 obtain⟨a,b,va,H,h1,F,h3,G,h⟩:=two hr hE h;rcases kS hr h with⟨B,u⟩|⟨id,z,j,n,B,u⟩|⟨id,z,j,n,k,B,u⟩|⟨_,_,_,_,B,u⟩|⟨l,B,u⟩|⟨id,o,B,u⟩
 .subst B;have E:H= .slice none 0 0:=G;subst E
  have key:∀(A:Option Addr) (n k:Nat),va= .slice A n k->c (.v (.b (q==A.isNone))) σ=res->xs prog fD fC [] gr.gS full (Good w0 ρ c res Y (some d)) [⟨some d,.binOp (qw q) t x y C,R,pos,af,none⟩] Y w:=λA n k D h=>by
   subst D;exact PB (r:=A.isNone) hM h1 F (eqGuard_at_slice ..) fx fx (by grind [Ue]) h
  rcases kS hr u with⟨e4,g⟩|⟨id,z,j,n,e4,g⟩|⟨id,z,j,n,k,e4,g⟩|⟨_,_,_,_,e4,g⟩|⟨l,e4,g⟩|⟨id,o,e4,g⟩<;>subst e4
  .rw[rL]at g;exact key none 0 0 h3 lX
  .obtain⟨p,_,_,_,_,rfl⟩:=h3;rw[rL]at g;exact key _ _ _ fx (by cases q<;>exact g)
  .obtain⟨p,_,_,_,rfl⟩:=h3;rw[rL]at g;exact key _ _ _ fx (by cases q<;>exact g)
  .exact absurd g.symm hr
  .exact absurd g.symm hr
  .exact absurd g.symm hr
 .exact absurd u.symm hr
 .exact absurd u.symm hr
 .exact absurd u.symm hr
 .exact absurd u.symm hr
 .exact absurd u.symm hr
theorem Wj {I:i9} {fl:ip Bool} (ht:peq t=some fl) (h:(T5 (eqG fl q) m x y).f ih e σ c=res):xs prog fD fC [] gr.gS full (Good w0 ρ c res Y (some d)) [⟨some d,.binOp (qw q) t x y I,R,pos,af,none⟩] Y w:=by
 obtain⟨a,b,va,J,h1,D,h3,E,h⟩:=two hr hE h;obtain⟨la,g,u⟩:=ql hr h;obtain⟨lb,n,F⟩:=ql hr u;clear h u;subst g;subst n;have h:=F;obtain⟨B,G,rfl⟩:=h3;obtain⟨C,H,rfl⟩:=E;unfold oB at h;split at h
 .rename_i r he;rw[rL,xW]at h;have v:=λw'=>To ht G H he w'
  refine gW fx (by simp[gd,Op.operands,h1,D]) ⟨.bool (q==r),λw'=>?_,_,σ,ρ,_,h,Up.refl ρ,rfl,hM,rfl⟩;have g:=run_eqGuard_agg (P:=prog) w' (qw q) t x y B.toArray C.toArray (v w').1
  have n:(binOp (qw q) t (.agg B.toArray) (.agg C.toArray)).run prog w'= .ok (.bool (q==r)) w':=by
   cases q with
   |true=>
    show(binOp .eql t _ _).run prog w'=_
    rw[run_eql_struct w',(v w').2];cases r<;>rfl
   |false=>
    show(binOp .neq t _ _).run prog w'=_
    simp_all [run_neq_struct]
  simp_all [execOp,fR]
 .exact absurd h.symm hr
theorem aaD {v:i9} (h:(Zl q m t x y).f ih e σ c=res):xs prog fD fC [] gr.gS full (Good w0 ρ c res Y (some d)) [⟨some d,.binOp (qw q) t x y v,R,pos,af,none⟩] Y w:=by
 have B:(cmW eI eU q m x y).f ih e σ c=res->xs prog fD fC [] gr.gS full (Good w0 ρ c res Y (some d)) [⟨some d,.binOp (qw q) t x y v,R,pos,af,none⟩] Y w:=λh=>by
  refine XH hr hE hM (λk a b w'=>?_) (λa b n u=>?_) (λa b n u w'=>?_) h
  .rw[VT];cases q with
   |true=>simp[qw,binOp,Op.intCmp];grind
   |false=>simp[qw,binOp,Op.intCmp];grind
  .rw[Qw n u];cases q<;>simp_all [qw,hG]
  grind [VT,uX,compare,qw,binOp,Op.floatCmp,u9,cmp_eq,decide]
 unfold Zl at h;split at h
 .rename_i ht;exact abh hr hE hM ht h
 .rename_i el ht;exact aaM hr hE hM ht h
 .rename_i el ht;exact abB hr hE hM ht h
 .rename_i ms ht;exact abH hr hE hM ht h
 .split at h
  .rename_i g;exact Wj hr hE hM g h
  .exact absurd h.symm hr
 .split at h
  .rename_i g;exact Wj hr hE hM g h
  .exact absurd h.symm hr
 .exact B h
theorem aaY {op:BinOp} (h:(biW m t op x y).f ih e σ c=res):xs prog fD fC [] gr.gS full (Good w0 ρ c res Y (some d)) [⟨some d,.binOp op t x y B,R,pos,af,none⟩] Y w:=by
 cases op with
 |add=>exact ab0 (g:=λa b=>a+b) hr hM hE (by simp_all [binOp,Op.intArith]) (aeI hr hE hM (Zz hr hE hM)) h
 |sub=>exact ZW hr hE hM h
 |mul=>exact ab0 (g:=Int.mul) hr hM hE (by simp_all [binOp,Op.intArith]) (aeX hr hE hM (by simp_all [binOp,Op.intArith]) (λa b=>rfl)) h
 |quo=>exact ZF hr hE hM h
 |rem=>exact abp hr hM hE (ZS hr hE hM) h
 |and=>exact Lf hr hE hM (.inl rfl) (λn u=>⟨(xe n u).1,(xe n u).2.2.2.1⟩) h
 |or=>exact VZ hr hM hE (.inr (.inl rfl)) (λn u=>⟨(xe n u).2.1,(xe n u).2.2.2.2.1⟩) (Lf hr hE hM (.inr (.inl rfl)) (by simp_all [xe])) h
 |xor=>exact VZ hr hM hE (.inr (.inr rfl)) (λn u=>⟨(xe n u).2.2.1,(xe n u).2.2.2.2.2⟩) (Lf hr hE hM fM (by simp_all [xe])) h
 |andNot=>exact Lf hr hE hM fM (by grind [abw]) h
 |shl=>exact abi hr hM hE (ZN hr hE hM) h
 |shr=>exact abj hr hM hE (abK hr hE hM) h
 |eql=>
  have v:(Zl true m t x y).f ih e σ c=res:=h;exact aaD (q:=true) hr hE hM v
 |neq=>
  have v:(Zl false m t x y).f ih e σ c=res:=h;exact aaD (q:=false) hr hE hM v
 |lss=>
  refine XH hr hE hM (λk a b w'=>?_) (λa b n u=>?_) (λa b n u w'=>?_) h
  .rw[vv];simp[binOp,Op.intCmp]
  .simp_all [AL,hG]
  grind [vv,uX,compare,binOp,Op.floatCmp,u9,Rt]
 |geq=>
  refine XH hr hE hM (λk a b w'=>?_) (λa b n u=>?_) (λa b n u w'=>?_) h
  .rw[vv];simp[binOp,Op.intCmp];grind
  .simp_all [AL,hG]
  grind [vv,uX,compare,binOp,Op.floatCmp,u9,Q9,cmp_eq]
 |gtr=>
  refine aaV hr hE hM (λk a b w'=>?_) (λa b n u=>?_) (λa b n u w'=>?_) h
  .rw[vv];simp[binOp,Op.intCmp]
  .grind [AL,Kw,jI,hG]
  grind [vv,uX,compare,binOp,Op.floatCmp,u9,Q9]
 |leq=>
  refine aaV hr hE hM (λk a b w'=>?_) (λa b n u=>?_) (λa b n u w'=>?_) h
  .rw[vv];simp[binOp,Op.intCmp];grind
  .grind [AL,Kw,jI,hG]
  grind [vv,uX,compare,binOp,Op.floatCmp,u9,Rt,cmp_eq]
end
def kl {t:Nat} (h:size t=some z):(∃i,prog.info? t=some i/\i.size=z)/\((one t=true/\z=1)\/(one t=false/\get kA t=some z)):=by
 grind [size,Option.some.inj,nj,kJ]
def Fz {t:Nat} (h:arr t=some (n,z)):∃e,prog.underlying t=some (.array n e)/\size e=some z:=by
 unfold arr at h
 grind
def iZ (h:elemOf t=some (el,z)):prog.underlying t=some (.slice el)/\size el=some z:=by
 unfold elemOf at h
 grind
def C5 (h:one t=true) (w':i5):(isAgg t).run prog w'= .ok false w':=by
 obtain⟨⟨f,h1,d,h3⟩,_⟩:=nj h
 simp_all [isAgg,tg,tp,run_underlying,absurd]
def OT {t:Nat} (h:get kA t=some n) (w':i5):(isAgg t).run prog w'= .ok true w':=by
 obtain⟨h1|h1,_⟩:=kJ h
 .obtain⟨fs,h1⟩:=h1
  simp_all [isAgg,run_underlying]
 .obtain⟨m,e,h1⟩:=h1
  simp_all [isAgg,run_underlying]
def vJ (h:one u=true) {o:Nat} (d:cs[o]? =some v) (w':i5):(part u cs o).run prog w'= .ok v w':=by
 simp[part,C5 h,d]
def Iz {u:Nat} (h:get kA u=some n) (vs:ip i6) (o:Nat) (w':i5):(part u vs.toArray o).run prog w'= .ok (.agg ((vs.drop o).take n).toArray) w':=by
 obtain⟨_,i,d,h3⟩:=kJ h
 simp_all [G8,List.take_drop,part,sizeOf,typeInfo,OT]
def sa (h:zA t=some l):∃i v,prog.info? t=some i/\i.zero=some v/\j1 ρ l v.cells.toList:=by
 unfold zA at h;split at h
 .rename_i v g;cases hi:prog.info? t with
  |none=>grind
  | some i=>
   rw[hi]at g;refine⟨i,v,rfl,g,?_⟩;unfold cA at h;split at h
   .rename_i x d;obtain rfl:=jb h;split at d
    .grind
    .split at d
     .rename_i y f;injection d with d;injection d with d;subst d
      have h1:SR ρ y v:=yX f;rw[h1.cells];exact .cons ⟨VL f,h1⟩ .nil
     .cases d
   .rename_i x d;obtain rfl:=jb h;split at d
    .rename_i cs;split at d
     .rename_i l' m;injection d with d;injection d with d;subst d
      exact AF m
     .cases d
    grind
   .cases h
 .cases h
theorem D0 (off:Nat):∀(c:ip i6) (k:Nat) (xs:ip i6),off+k+c.length<=xs.length->(c.zipIdx k).foldl (λ(cs:ip i6) (p:i6×Nat)=>cs.set (off+p.2) p.1) xs=xs.take (off+k)++(c++xs.drop (off+k+c.length))
 |[],k,xs,h=>by simp
 | v::c,k,xs,h=>by
  have m:off+k<xs.length:=by simp at h;omega
  have e:xs.set (off+k) v=xs.take (off+k)++v::xs.drop (off+k+1):=by grind [List.set_eq_take_append_cons_drop]
  have d:(xs.take (off+k)).length=off+k:=by simp;omega
  rw[G9,wa,D0 off c (k+1) _ fM,e];generalize xs.take (off+k)=A at d|-
  have f:List.take (off+(k+1)) (A++v::xs.drop (off+k+1))=A++[v]:=by
   rw[RS,d,p8 fy,show off+(k+1)-(off+k)=1 by omega];rfl
  have g:List.drop (off+(k+1)+c.length) (A++v::xs.drop (off+k+1))=xs.drop (off+k+(c.length+1)):=by
   rw[Ho,d,zi fy,show off+(k+1)+c.length-(off+k)=c.length+1 by omega,RC,rU,tz]
   congr 1
   omega
  simp_all
def Nc (off:Nat) (c:ip i6) (xs:Array i6) (h:off+c.length<=xs.size):((c.zipIdx 0).foldl (λ(cs:Array i6) (p:i6×Nat)=>cs.setIfInBounds (off+p.2) p.1) xs).toList=xs.toList.take off++(c++xs.toList.drop (off+c.length)):=by
 have e:∀(l:ip (i6×Nat)) (xs:Array i6),(l.foldl (λ(cs:Array i6) (p:i6×Nat)=>cs.setIfInBounds (off+p.2) p.1) xs).toList=l.foldl (λ(cs:ip i6) (p:i6×Nat)=>cs.set (off+p.2) p.1) xs.toList:=λl=>by
  induction l<;>grind
 simp_all [D0]
theorem Nz {place:Nat->Option (Nat×Nat)} {i off size:Nat} {cells:ip i6} {ii:ip (Nat×i6)} (d:place i=some (off,size)) (hs:v.cells.size=size) (f:off+size<=cells.length):
  Instr.fill place cells.toArray ((i,v)::ii)=Instr.fill place (cells.take off++(v.cells.toList++cells.drop (off+size))).toArray ii:=by
 rw[Instr.fill,d];simp only;rw[if_neg (by simp[hs];omega)]
 congr 1
 have h:=Nc off v.cells.toList cells.toArray (by simp[hs];omega);apply G8;rw[<-Array.foldl_toList]
 grind
theorem CB {f g:Nat->Option (Nat×Nat)} (m:∀i p,f i=some p->g i=some p):∀{l:ip (Nat×i6)} {cs d:Array i6},Instr.fill f cs l=some d->Instr.fill g cs l=some d
 |[],cs,d,h=>h
 | (i,v)::l,cs,d,h=>by
  rw[Instr.fill]at h|-;split at h
  .cases h
  .rename_i off size hi;rw[m i _ hi];simp only;split at h
   .cases h
   .rename_i hc;rw[if_neg hc];exact CB m h
theorem G1 {α β:Type} {g:α->Option β}:∀{l:ip α} {r:ip β},l.mapM g=some r->∀{i:Nat} {x:α},l[i]? =some x->∀{p:β},g x=some p->r[i]? =some p
 |[],r,_,i,x,d,p,_=>by cases d
 | y::l,r,h,i,x,d,p,m=>by
  rw[List.mapM_cons]at h;simp only[bind,Option.bind_eq_some_iff,pure,CU]at h;obtain⟨b,h1,n,f,rfl⟩:=h;cases i with
  |zero=>
   grind
  |succ i=>exact G1 f (i:=i) d m
section
variable {m:Nat} {ih:Cl} {e:En} {σ:Mem} {c:Kt} {res:Rs} {ρ:Pl} {Y:Env} {w0:Fm} {w:i5} {full:Array li} {d:Tmp} {R:i9} {pos:String} {af:Array Edge} (hr:res≠ .no)
include hr
theorem pL {α:Type}:∀{l:ip α} {i:Nat} {c:α->Rs},M8 l i c=res->∃x,l[i]? =some x/\c x=res
 |[],_,_,h=>absurd h.symm hr
 |x::_,0,_,h=>⟨x,rfl,h⟩
 |_::l,i+1,_,h=>pL (l:=l) (i:=i) h
theorem yA {Y:Env} {off:Nat->Option (Nat×Nat)} (F:ER m ρ e Y):∀{ps:ip (Nat×i7)} {l:ip SV} {vs:ip i6} {k:ip SV->Rs},(Zd m off ps).f e l k=res->j1 ρ l vs->∃u l' n,W6 Y ps=some u/\Instr.fill off vs.toArray u=some n.toArray/\j1 ρ l' n/\n.length=vs.length/\k l'=res
 |[],l,vs,k,h,w=>⟨[],l,vs,rfl,rfl,w,rfl,h⟩
 | (i,x)::ps,l,vs,k,h,w=>by
  have d:(match off i with
   |some (o,z)=>(⟨λe l k=>(iG m x).f e λv=>S0 v (λx=>Y4 x (ji (Nat.beq z 1) (ji (Nat.ble (Nat.add o 1) l.length) (fP (put l o [x]) λl=>(Zd m off ps).f e l k)))) λg=>ji (Nat.beq g.length z) (ji (Nat.ble (Nat.add o z) l.length) (fP (put l o g) λl=>(Zd m off ps).f e l k))⟩:Wps)
   |none=>⟨λ_ _ _=> .no⟩).f e l k=res:=h
  split at d
  .rename_i o z R;obtain⟨a,v,h1,C,d⟩:=gq hr F d
   have key:∀(g:ip SV) (gs:ip i6),j1 ρ g gs->v.cells=gs.toArray->g.length=z->o+z<=l.length->(Zd m off ps).f e (put l o g) k=res->∃u l' n,W6 Y ((i,x)::ps)=some u/\Instr.fill off vs.toArray u=some n.toArray/\j1 ρ l' n/\n.length=vs.length/\k l'=res:=λg gs B Q t hle h=>by
    have O:=B.len;have S:=w.len
    have J:j1 ρ (put l o g) (vs.take o++(gs++vs.drop (o+z))):=by
     unfold put;rw[t];exact(w.take o).app (B.app (w.drop (o+z)))
    obtain⟨u,l',n,K,L,M,N,e4⟩:=yA F h J
    grind [List.length,List.length_append,List.length_take,List.length_drop,W6,Nz]
   rcases uD hr d with⟨y,rfl,d⟩|⟨g,rfl,d⟩
   .obtain⟨I,G⟩:=fS d hr;obtain⟨t,H⟩:=fS G hr;obtain⟨D,E⟩:=fS H hr;rw[nQ]at E;have t:=jq t;have D:o+1<=l.length:=lX;exact key [y] [v] (.cons ⟨I,C⟩ .nil) (SR.cells C) (by rw[t];rfl) (by rw[t];exact D) E
   .obtain⟨t,d⟩:=fS d hr;obtain⟨D,d⟩:=fS d hr;rw[nQ]at d;obtain⟨gs,B,rfl⟩:=C;exact key g gs B fx lX lX d
  grind
theorem Ti {l:ip AV}:∀{vs:ip i6} {k:ip SV->Rs},scK l k=res->Bz ρ l vs->∃g,j1 ρ g vs/\k g=res:=by
 induction l with
 |nil=>intro vs k h d;cases d;exact⟨[],.nil,h⟩
 | cons x l ih=>
  intro vs k h d;cases d with
  |cons h1 f=>
   rcases uD hr (show S0 x (λx=>Y4 x (scK l λl=>k (x::l))) (λ_=> .no)=res from h)with⟨y,rfl,h⟩|⟨g,rfl,h⟩
   .obtain⟨n,h⟩:=fS h hr;obtain⟨g,h3,m⟩:=ih h f;exact⟨y::g,.cons ⟨n,h1⟩ h3,m⟩
   grind
variable (hE:ER m ρ e Y) (hM:MR w0 ρ σ w)
include hE
theorem rX:∀{l:ip i7} {k:ip AV->Rs},(Sl m l).f e k=res->∃al vs,O2 Y l=some vs/\Bz ρ al vs/\k al=res
 |[],k,h=>⟨[],[],rfl,.nil,h⟩
 |x::l,k,h=>by
  obtain⟨a,v,h1,d,h⟩:=gq hr hE (show(iG m x).f e _=res from h);obtain⟨al,vs,h3,g,h⟩:=rX h;exact⟨a::al,v::vs,by grind [O2],.cons d g,h⟩
include hM
theorem ad1 {s:Nat} (h:(JG m (.fieldAddr s x f)).f ih e σ c=res):xs prog fD fC [] gr.gS full (Good w0 ρ c res Y (some d)) [⟨some d,.fieldAddr s x f,R,pos,af,none⟩] Y w:=by
 have g:(match Nat.blt f 100 with
  |true=>fdW m x (fo s f)
  |false=>gS).f ih e σ c=res:=h
 split at g
 .rename_i t;unfold fdW at g;split at g
  .rename_i off u;rw[iT]at g;obtain⟨a,v,h1,n,g⟩:=gq hr hE g;obtain⟨id,o,e0,h0⟩:=lI hr g;clear g;subst e0;have g:=h0;rw[gV]at g;obtain⟨p,h3,rfl⟩:=n;exact Ku h1 u t ⟨_,σ,ρ,_,g,Up.refl ρ,⟨p,h3,rfl⟩,hM,rfl⟩
  .exact absurd g.symm hr
 .exact absurd g.symm hr
theorem afv {i:i7} (h:(ixW m t x i).f ih e σ c=res):xs prog fD fC [] gr.gS full (Good w0 ρ c res Y (some d)) [⟨some d,.indexAddr t x i,R,pos,af,none⟩] Y w:=by
 unfold ixW at h;split at h
 .rename_i n z B;rw[iT,iT]at h;obtain⟨a,b,va,E,h1,u,h3,y,h⟩:=two hr hE h;obtain⟨id,o,rfl,h⟩:=lI hr h;obtain⟨k,j,rfl,h⟩:=iz hr h;obtain⟨C,h⟩:=fS h hr;have C:j+1<=n:=lX;rw[gV]at h;obtain⟨p,g,rfl⟩:=h3;obtain⟨rfl,_⟩:=y;obtain⟨el,hu,v⟩:=Fz B;obtain⟨⟨F,hi,D⟩,_⟩:=kl v;refine gW fx (by grind [gd,Op.operands]) ⟨.pointer (some ⟨p.b,o+j*z,none⟩),λw'=>?_,_,σ,ρ,_,h,Up.refl ρ,⟨p,g,rfl⟩,hM,rfl⟩;simp[execOp,fR h1,fR u,Instr.indexAt,asIntOf,Instr.sureAddr,run_underlying hu,sizeOf,typeInfo,hi,D,nE]
  grind
 .split at h
  .rename_i G v;rw[iT]at h;obtain⟨a,b,va,E,h1,u,h3,y,h⟩:=two hr hE h;obtain⟨k,q,rfl,h⟩:=iz hr h;obtain⟨rfl,_⟩:=y;rcases kS hr h with⟨rfl,h⟩|⟨id,z,j,n,rfl,h⟩|⟨id,z,j,n,k,rfl,h⟩|⟨_,_,_,_,rfl,h⟩|⟨l,rfl,h⟩|⟨id,o,rfl,h⟩
   .exact absurd h.symm hr
   .obtain⟨hq,h⟩:=fS h hr;have hq:q+1<=n:=lX;rw[gV]at h;obtain⟨p,g,_,_,_,rfl⟩:=h3;exact xix h1 u v fM fM ⟨_,σ,ρ,_,h,Up.refl ρ,⟨p,g,rfl⟩,hM,rfl⟩
   .obtain⟨hq,h⟩:=fS h hr;have hq:q+1<=n:=lX;rw[gV]at h;obtain⟨p,g,_,_,rfl⟩:=h3;exact xix h1 u v fM fM ⟨_,σ,ρ,_,h,Up.refl ρ,⟨p,g,rfl⟩,hM,rfl⟩
   .exact absurd h.symm hr
   .exact absurd h.symm hr
   .exact absurd h.symm hr
  .exact absurd h.symm hr
theorem aek {k:Nat} (h:(exW m x k).f ih e σ c=res):xs prog fD fC [] gr.gS full (Good w0 ρ c res Y (some d)) [⟨some d,.extract x k,R,pos,af,none⟩] Y w:=by
 obtain⟨a,v,h1,u,h⟩:=gq hr hE (show(iG m x).f e _=res from h);obtain⟨l,rfl,h⟩:=Tf hr h;obtain⟨y,B,h⟩:=pL hr h;obtain⟨vs,h3,rfl⟩:=u
 have key:∀{l:ip TV} {vs:ip i6},Tq ρ l vs->∀{k:Nat} {y:TV},l[k]? =some y->∃v,vs[k]? =some v/\TR ρ y v:=λ{l vs} h3=>by
  induction h3<;>grind
 obtain⟨v,t,n⟩:=key h3 B;cases y with
 |v y=>exact I2 h1 (by simpa using t) ⟨_,σ,ρ,_,h,Up.refl ρ,n,hM,rfl⟩
 |g l=>exact I2 h1 (by simpa using t) ⟨_,σ,ρ,_,h,Up.refl ρ,n,hM,rfl⟩
theorem aeE {k:Nat} (h:(flW m x (vj t k)).f ih e σ c=res):xs prog fD fC [] gr.gS full (Good w0 ρ c res Y (some d)) [⟨some d,.field t x k,R,pos,af,none⟩] Y w:=by
 unfold flW at h;split at h
 .rename_i o u B
  have D:∃fs f,prog.underlying t=some (.struct fs)/\fs[k]? =some f/\f.offset=o/\f.type=u:=by
   unfold vj at B;split at B
   .grind
   .cases B
  obtain⟨fs,f,hu,hk,rfl,rfl⟩:=D;split at h
  .rename_i G;rw[iT]at h;obtain⟨a,v,h1,g,h⟩:=gq hr hE h;obtain⟨l,rfl,h⟩:=ql hr h;obtain⟨y,E,h⟩:=pL hr h;obtain⟨vs,h3,rfl⟩:=g;obtain⟨v,H,C⟩:=h3.get _ _ E;refine gW fx (by grind [gd,Op.operands]) ⟨v,λw'=>?_,_,σ,ρ,_,h,Up.refl ρ,C.2,hM,rfl⟩
   simp_all [vJ,execOp,Instr.field,asAgg,fR,run_underlying]
  .split at h
   .rename_i n F;rw[iT,iT]at h;obtain⟨a,v,h1,g,h⟩:=gq hr hE h;obtain⟨l,rfl,h⟩:=ql hr h;obtain⟨_,h⟩:=fS h hr;rw[nQ]at h;obtain⟨vs,h3,rfl⟩:=g;refine gW fx (by grind [gd,Op.operands]) ⟨.agg ((vs.drop f.offset).take n).toArray,λw'=>?_,_,σ,ρ,_,h,Up.refl ρ,⟨_,(h3.drop _).take _,rfl⟩,hM,rfl⟩
    simp_all [Iz,execOp,Instr.field,asAgg,fR,run_underlying]
   .exact absurd h.symm hr
 .exact absurd h.symm hr
theorem adD {i:i7} (h:(elW m t x i).f ih e σ c=res):xs prog fD fC [] gr.gS full (Good w0 ρ c res Y (some d)) [⟨some d,.index t x i,R,pos,af,none⟩] Y w:=by
 unfold elW at h;split at h
 .rename_i n el hu;split at h
  .rename_i I;rw[iT]at h;obtain⟨a,b,va,J,h1,u,h3,g,h⟩:=two hr hE h;obtain⟨l,rfl,h⟩:=ql hr h;obtain⟨k,j,rfl,h⟩:=iz hr h;obtain⟨C,h⟩:=fS h hr;have C:j+1<=n:=lX;obtain⟨y,E,h⟩:=pL hr h;obtain⟨vs,h3,rfl⟩:=h3;obtain⟨rfl,_⟩:=g;obtain⟨v,L,g⟩:=h3.get _ _ E;obtain⟨_,M,hi,F⟩:=nj I;refine gW fx (by grind [gd,Op.operands]) ⟨v,λw'=>?_,_,σ,ρ,_,h,Up.refl ρ,g.2,hM,rfl⟩;have:=vJ I (cs:=vs.toArray) (o:=j) (by simpa using L) w';exact y51
  .split at h
   .rename_i z H;rw[iT,iT]at h;obtain⟨a,b,va,J,h1,u,h3,g,h⟩:=two hr hE h;obtain⟨l,rfl,h⟩:=ql hr h;obtain⟨k,j,rfl,h⟩:=iz hr h;obtain⟨C,h⟩:=fS h hr;have C:j+1<=n:=lX;obtain⟨_,h⟩:=fS h hr;rw[nQ]at h;obtain⟨vs,h3,rfl⟩:=h3;obtain⟨rfl,_⟩:=g;obtain⟨_,M,hi,F⟩:=kJ H;refine gW fx (by grind [gd,Op.operands]) ⟨.agg ((vs.drop (j*z)).take z).toArray,λw'=>?_,_,σ,ρ,_,h,Up.refl ρ,⟨_,(h3.drop _).take _,rfl⟩,hM,rfl⟩;have:=Iz H vs (j*z) w';exact y51
   .exact absurd h.symm hr
 .split at h
  .rename_i G;obtain⟨a,b,va,J,h1,u,h3,g,h⟩:=two hr hE h;split at h
   .rename_i l D;obtain⟨k,j,rfl,h⟩:=iz hr h;obtain⟨y,E,h⟩:=pL hr h;obtain rfl:=FO D;obtain⟨rfl,D,_⟩:=h3;obtain⟨rfl,_⟩:=g;have hq:=D y fM;refine QS (z:=oP ρ y) j G h1 u fx (by simp[E]) ?_;unfold byX at h;rw[mc]at h;split at h
    .rename_i B;have B:=jg B;rw[gV]at h;obtain⟨p,p1,p2⟩:=hq.resolve_left fy;refine⟨_,σ,ρ,_,h,Up.refl ρ,⟨p,p1,?_,by show p.b<=255;omega,rfl⟩,hM,rfl⟩
     have N:oP ρ y=UInt8.ofNat p.b:=by
      unfold oP;rw[if_neg fy,p1]
     simp_all [wG,uJ]
    .rename_i B
     have B:y<256:=by
      rw[n2]at B;simpa using B
     refine⟨_,σ,ρ,_,h,Up.refl ρ,⟨?_,by show y<=255;omega⟩,hM,rfl⟩
     grind [oP,UInt8.ofNat,UInt8.toNat_ofNat',Nat.mod_eq_of_lt]
   obtain⟨l,rfl,h⟩:=lG hr h;obtain⟨k,j,rfl,h⟩:=iz hr h;obtain⟨y,E,h⟩:=pL hr h;obtain⟨rfl,D,_⟩:=h3;obtain⟨rfl,_⟩:=g;have O:y<256:=D y fM;refine QS (z:=UInt8.ofNat y) j G h1 u fx (by simp[jI,E]) ⟨_,σ,ρ,_,h,Up.refl ρ,⟨?_,by show y<=255;omega⟩,hM,rfl⟩
   grind [UInt8.toNat_ofNat',Nat.mod_eq_of_lt]
  .exact absurd h.symm hr
 .exact absurd h.symm hr
theorem aez {ps:ip (Nat×i7)} (h:(buW m t ps).f ih e σ c=res):xs prog fD fC [] gr.gS full (Good w0 ρ c res Y (some d)) [⟨some d,.build t ps.toArray,R,pos,af,none⟩] Y w:=by
 have key:∀{off:Nat->Option (Nat×Nat)},(∀i z y,prog.info? t=some i->i.zero=some z->∀cells,Instr.fill off z.cells y=some cells->prog.built t y=some cells)->(bdW m off ps (zA t)).f ih e σ c=res->xs prog fD fC [] gr.gS full (Good w0 ρ c res Y (some d)) [⟨some d,.build t ps.toArray,R,pos,af,none⟩] Y w:=λ{off} qc0 h=>by
  unfold bdW at h;split at h
  .rename_i z x;rw[ru]at h;obtain⟨i,v,hi,T,H⟩:=sa (ρ:=ρ) x;obtain⟨y,l',J,h1,N,h3,_,h⟩:=yA hr hE h H;exact oQ h1 lX ⟨_,σ,ρ,_,h,Up.refl ρ,⟨J,h3,rfl⟩,hM,rfl⟩
  .exact absurd h.symm hr
 unfold buW at h;split at h
 .rename_i n z F;obtain⟨el,hu,x⟩:=Fz F;obtain⟨⟨U,G,I⟩,_⟩:=kl x;refine key (λi K y hi D cells C=>?_) h;unfold Program.built;simp only[hi,hu,D,G,I];exact C
 .split at h
  .rename_i fs hu;split at h
   .rename_i L B;refine key (λi K y hi D cells C=>?_) h;unfold Program.built at B|-;simp only[hi,hu,D]at B|-;split at B
    .rename_i W pl E M;obtain rfl:=jb E;refine CB (λj q hq=>?_) C;unfold aab at hq;split at hq
     .rename_i o u g;unfold vj at g;rw[hu]at g;simp only at g;split at g
      .rename_i f O;obtain⟨rfl,rfl⟩:=Prod.mk.inj (jb g);split at hq
       .rename_i z x;obtain rfl:=jb hq;obtain⟨⟨V,Q,S⟩,_⟩:=kl x
        grind [G1]
       .cases hq
      .cases g
     .cases hq
    .cases B
   .exact absurd h.symm hr
  .exact absurd h.symm hr
omit hr hE hM in
theorem abt {H:i5->Prop} {K:Env->i5->Prop} {f:FuncId} {g:ip i7} (hc:O2 Y g=some vs) (h:xs prog fD fC hs H full K ii ((d,.func (.func f) #[] vs.toArray)::Y) w):
  xs prog fD fC hs H full K (⟨some d,.makeFunc (.func f) #[] g.toArray,R,pos,af,none⟩::ii) Y w:=by
 obtain⟨h1,m⟩:=oh hc;refine gW fx (by grind [gd,Op.operands]) ⟨_,λw'=>?_,h⟩;simp[execOp,Instr.makeFunc,h1]
theorem ada {fn:Fn} {a b:ip i7} (h:(mfW m fn a b).f ih e σ c=res):xs prog fD fC [] gr.gS full (Good w0 ρ c res Y (some d)) [⟨some d,.makeFunc fn a.toArray b.toArray,R,pos,af,none⟩] Y w:=by
 unfold mfW at h;split at h
 .split at h
  .obtain⟨al,vs,h1,n,h⟩:=rX hr hE fy;obtain⟨g,h3,h⟩:=Ti hr h n;exact abt h1 ⟨_,σ,ρ,_,h,Up.refl ρ,⟨vs,h3,rfl⟩,hM,rfl⟩
  .exact absurd h.symm hr
 .exact absurd h.symm hr
end
def mnB:Bool->Builtin
 |true=> .max
 |false=> .min
def Bnd (Y:Env) (x:Option i7) (d b:Nat):Prop:=(x=none/\b=d)\/∃o k,x=some o/\gh Y o=some (.int k (b:Int))
def Yp {zs:fL} {lo hi:Option i6} {l h:Nat} (hu:prog.underlying t=some .string)
  (g:lo=none/\l=0\/∃k,lo=some (.int k (l:Int))) (f:hi=none/\h=zs.length\/∃k,hi=some (.int k (h:Int))) (h1:l<=h) (d:h<=zs.length) (w:i5):
  (Instr.sliceAt t (.string (su zs)) lo hi none).run prog w= .ok (.string (su ((zs.drop l).take (h-l)))) w:=by
 rw[<-wN]
 rcases g with⟨rfl,rfl⟩|⟨k,rfl⟩<;>rcases f with⟨rfl,rfl⟩|⟨m,rfl⟩<;>
  simp[Instr.sliceAt,Instr.slice,run_underlying hu,Instr.sliceBounds,Instr.sliceBound,asIntOf,ky,h1,d]
 rw[wN];simp
def Xs {o:Nat} {i:TypeInfo} {lo hi:Option i6} {l h:Nat} (hu:prog.underlying t=some (.array n el)) (g:prog.info? el=some i)
  (m:lo=none/\l=0\/∃k,lo=some (.int k (l:Int))) (f:hi=none/\h=n\/∃k,hi=some (.int k (h:Int))) (h1:l<=h) (d:h<=n) (w:i5):
  (Instr.sliceAt t (.pointer (some ⟨b,o,none⟩)) lo hi none).run prog w= .ok (.slice (some (if n=l then⟨b,o,none⟩else⟨b,o+l*i.size,none⟩)) (h-l) (n-l)) w:=by
 rcases m with⟨rfl,rfl⟩|⟨k,rfl⟩<;>rcases f with⟨rfl,rfl⟩|⟨u,rfl⟩<;>
  simp[Instr.sliceAt,run_underlying hu,Instr.sureAddr,Instr.sliceBounds,Instr.sliceBound,asIntOf,sizeOf,typeInfo,g,h1,d,nE]
def J7 {lo hi:Option i7} {n:i6} {d:Tmp} {db:Nat} (u:gh Y x=some n) (g:Bnd Y lo f a) (m:Bnd Y hi db b):gd Y ⟨some d,.slice t x lo hi none,R,pos,af,none⟩=true/\(lo.map (ev Y)=none/\a=f\/∃k,lo.map (ev Y)=some (.int k (a:Int)))/\(hi.map (ev Y)=none/\b=db\/∃k,hi.map (ev Y)=some (.int k (b:Int))):=by
 rcases g with⟨rfl,rfl⟩|⟨w,v,rfl,g⟩<;>rcases m with⟨rfl,rfl⟩|⟨y,kb,rfl,m⟩<;>grind [gd,Op.operands,fR]
section
variable {m:Nat} {ih:Cl} {e:En} {σ:Mem} {c:Kt} {res:Rs} {ρ:Pl} {Y:Env} {w0:Fm} {w:i5} {full:Array li} {d:Tmp} {R:i9} {pos:String} {af:Array Edge} (hr:res≠ .no)
include hr
theorem P6 (u:MR w0 ρ σ w) {id:Nat} (f:ρ[id]? =some p) (g:p.z=z) (hc:j+n<=p.c) (hm:p.c<=maxLen) (h:abd σ c id z j n a b=res):a<=b/\b<=p.c-j/\∃y,c (.v y) σ=res/\SR ρ y (.slice (if p.c-j=a then some ⟨p.b,j*z,none⟩else some ⟨p.b,j*z+a*z,none⟩) (b-a) (p.c-j-a)):=by
 obtain⟨h1,g1⟩:=fS h hr;have h1:=jg h1;refine⟨h1,?_⟩;have B:j*z+a*z=(j+a)*z:=by rw[oA]
 rw[mc]at g1;split at g1
 .rename_i t;have t:b<=n:=lX;refine⟨fy,?_⟩;rw[mc,mc,gV,gV]at g1;split at g1
  .rename_i d;have d:a+1<=n:=lX;refine⟨_,g1,p,f,g,by grind,hm,?_⟩
   grind
  .rename_i d
   have d:n=a:=by
    rw[n2]at d;have:¬Nat.add a 1<=n:=by simpa using d
    have:¬a+1<=n:=this;omega
   split at g1
   .rename_i h0;have h0:=jq h0;have C:b=0:=fy;refine⟨_,g1,p,f,g,fy,hm,?_⟩
    grind
   .refine⟨_,g1,p,f,hm,?_⟩
    grind
 .obtain⟨h3,g2⟩:=fS g1 hr;obtain⟨m,g3⟩:=fS g2 hr;have h3:a+1<=b:=lX;have m:1<=z:=lX;obtain⟨D,l,k1,k2,k3,g4⟩:=mn hr g3;have k4:=k3 0 fU;rw[kB]at k4;cases l with
  |nil=>cases k2
  |cons x l=>
   have k4:ig σ id ((j+b)*z-1)=some x:=k4;obtain⟨q,_,cs,v,q1,_,_,q2,q3,_⟩:=u.at_ k4;rw[f]at q1;obtain rfl:=jb q1;have q4:=(KE.1 q3).1;rw[<-q2,g]at q4;have q5:(j+b)*z<=p.c*z:=fy;have q6:j+b<=p.c:=Nat.le_of_mul_le_mul_right q5 m;refine⟨fy,?_⟩;rw[gV,gV]at g4;refine⟨_,g4,p,f,g,by grind,hm,?_⟩
   grind
theorem uB {id k:Nat} (g:ρ[id]? =some p) (hm:k<=maxLen) (h:Sj σ c id z j k a b=res):a<=b/\b<=k/\∃y,c (.v y) σ=res/\SR ρ y (.slice (if k=a then some ⟨p.b,j*z,none⟩else some ⟨p.b,j*z+a*z,none⟩) (b-a) (k-a)):=by
 obtain⟨h1,g1⟩:=fS h hr;obtain⟨f,g2⟩:=fS g1 hr;have h1:=jg h1;have f:=jg f;refine⟨h1,f,?_⟩;rw[mc,gV,gV,gV]at g2;have m:j*z+a*z=(j+a)*z:=by rw[oA]
 split at g2
 .rename_i d;have d:a+1<=k:=lX;refine⟨_,g2,p,g,by grind,by grind,?_⟩
  grind
 .rename_i d
  have d:k=a:=by
   rw[n2]at d;have:¬Nat.add a 1<=k:=by simpa using d
   have:¬a+1<=k:=this;omega
  refine⟨_,g2,p,g,gJ _,iF _,?_⟩
  grind
variable (hE:ER m ρ e Y) (hM:MR w0 ρ σ w)
include hE
theorem mo {x:Option i7} {d:Nat} {k:Nat->Rs} (h:(NL m x).f e d k=res):∃b,Bnd Y x d b/\k b=res:=by
 unfold NL at h;split at h
 .exact⟨d,.inl ⟨rfl,rfl⟩,h⟩
 .rename_i o;obtain⟨a,v,h1,g,h⟩:=gq hr hE h;obtain⟨n,b,e0,h0⟩:=iz hr h;subst e0;have h:=h0;exact⟨b,.inr ⟨o,n,rfl,by rw[h1,g.1];rfl⟩,h⟩
include hM
theorem aeL {lo hi ab:Option i7} (h:(slW m t x lo hi ab).f ih e σ c=res):xs prog fD fC [] gr.gS full (Good w0 ρ c res Y (some d)) [⟨some d,.slice t x lo hi ab,R,pos,af,none⟩] Y w:=by
 unfold slW at h;split at h
 .rename_i ad;split at h
  .obtain⟨q,v,h1,C,h⟩:=gq hr hE h;obtain⟨a,F,h⟩:=mo hr hE h;obtain⟨l,e0,h0⟩:=lG hr h;subst e0;have h:=h0;rw[gV]at h;obtain⟨b,g,h⟩:=mo hr hE h;obtain⟨u,h⟩:=fS h hr;obtain⟨V,h⟩:=fS h hr;rw[nQ]at h;have u:=jg u;have V:=jg V;obtain⟨rfl,h3,T⟩:=C;obtain⟨M,qc1,O⟩:=J7 (t:=t) (d:=d) (R:=R) (pos:=pos) (af:=af) h1 F g;have hlen:(jI l).length=l.length:=by simp[jI]
   refine gW fx M ⟨_,λw'=>?_,_,σ,ρ,_,h,Up.refl ρ,⟨rfl,fM,?_⟩,hM,rfl⟩
   .have:=Yp (zs:=jI l) (h7 ad) qc1 (by rw[hlen];exact O) u (by rw[hlen];exact V) w'
    simp_all [jI,List.take,List.drop,CN,Ru,execOp,fR]
   .rw[kv,lY];omega
  .exact absurd h.symm hr
 .split at h
  .rename_i ap qa1;rw[iT]at h;obtain⟨el,i,hu,H,X⟩:=mY qa1;split at h
   .obtain⟨q,v,h1,C,h⟩:=gq hr hE h;obtain⟨a,F,h⟩:=mo hr hE h
    have go:∀(A:Option Addr) (n k b:Nat) (y:SV),v= .slice A n k->Bnd Y hi n b->a<=b->b<=k->c (.v y) σ=res->SR ρ y (.slice (if k=a then A else A.map (·.add (a*i.size))) (b-a) (k-a))->xs prog fD fC [] gr.gS full (Good w0 ρ c res Y (some d)) [⟨some d,.slice t x lo hi none,R,pos,af,none⟩] Y w:=λA n k b y ag g u G hc E=>by
     subst ag;obtain⟨M,qc1,O⟩:=J7 (t:=t) (d:=d) (R:=R) (pos:=pos) (af:=af) h1 F g;refine gW fx M ⟨_,λw'=>?_,_,σ,ρ,_,hc,Up.refl ρ,E,hM,rfl⟩;have:=zz (A:=A) (n:=n) (c:=k) hu H qc1 O u G w'
     simp_all [execOp,fR]
    rcases kS hr h with⟨e0,h0⟩|⟨id,z,j,n,e0,h0⟩|⟨id,z,j,n,k,e0,h0⟩|⟨_,_,_,_,e0,h0⟩|⟨l,e0,h0⟩|⟨id,o,e0,h0⟩<;>(subst e0;have h:=h0)
    .obtain⟨b,g,h⟩:=mo hr hE h;obtain⟨h3,h⟩:=fS h hr;obtain⟨T,h⟩:=fS h hr;have h3:=jq h3;have T:=jq T;subst h3;subst T;exact go none 0 0 0 .l0 C g (gJ _) (gJ _) h fx
    .obtain⟨B,h⟩:=fS h hr;have B:=jq B;obtain⟨b,g,h⟩:=mo hr hE h;obtain⟨p,D,aa,Z,hm,rfl⟩:=C;obtain⟨u,U,y,h,E⟩:=P6 hr hM D aa Z hm h;refine go _ n (p.c-j) b y fx g u fy h ?_
     grind [Addr.add_lit]
    .obtain⟨B,h⟩:=fS h hr;have B:=jq B;obtain⟨b,g,h⟩:=mo hr hE h;obtain⟨p,D,ae,hm,rfl⟩:=C;obtain⟨u,U,y,h,E⟩:=uB hr D hm h;refine go _ n k b y fx g u U h ?_
     grind [Addr.add_lit]
    .exact absurd h.symm hr
    .exact absurd h.symm hr
    .exact absurd h.symm hr
   .rename_i ao;split at h
    .rename_i M;obtain⟨q,v,h1,C,h⟩:=gq hr hE h;obtain⟨a,F,h⟩:=mo hr hE h;obtain⟨b,g,h⟩:=mo hr hE h;obtain⟨k,hk,h⟩:=mo hr hE h;rcases kS hr h with⟨e0,h0⟩|⟨id,z,j,n,e0,h0⟩|⟨id,z,j,n,q0,e0,h0⟩|⟨_,_,_,_,e0,h0⟩|⟨l,e0,h0⟩|⟨id,o,e0,h0⟩<;>(subst e0;have h:=h0)
     .exact absurd h.symm hr
     .obtain⟨B,h⟩:=fS h hr;have B:=jq B;obtain⟨L,h⟩:=fS h hr;have L:=jg L;obtain⟨p,D,aa,Z,hm,rfl⟩:=C;obtain⟨u,G,y,N,E⟩:=uB hr D fy h;rcases g with⟨g,_⟩|⟨ak,kb,g,J⟩
      .cases g
      .injection g with g;subst g
       rcases hk with⟨hk,_⟩|⟨al,ai,hk,K⟩
       .cases hk
       .injection hk with hk;subst hk
        have S:SR ρ y (.slice (if k=a then some ⟨p.b,j*z,none⟩else(some (⟨p.b,j*z,none⟩:Addr)).map (·.add (a*i.size))) (b-a) (k-a)):=by
         rw[X,<-B];simpa[nE]using E
        have Q:k<=p.c-j:=fy;rcases F with⟨rfl,rfl⟩|⟨aj,ah,rfl,I⟩
        .refine gW fx (by grind [gd,Op.operands]) ⟨_,λw'=>?_,_,σ,ρ,_,N,Up.refl ρ,S,hM,rfl⟩;simp[execOp,fR h1,fR J,fR K,Instr.sliceAt,Instr.slice,run_underlying hu,Instr.sliceBounds,Instr.sliceBound,asIntOf,sizeOf,typeInfo,H,G,Q]
        .refine gW fx (by simp_all [gd,Op.operands]) ⟨_,λw'=>?_,_,σ,ρ,_,N,Up.refl ρ,S,hM,rfl⟩;simp[execOp,fR h1,fR I,fR J,fR K,Instr.sliceAt,Instr.slice,run_underlying hu,Instr.sliceBounds,Instr.sliceBound,asIntOf,sizeOf,typeInfo,H,u,G,Q]
     .obtain⟨B,h⟩:=fS h hr;have B:=jq B;obtain⟨L,h⟩:=fS h hr;have L:=jg L;obtain⟨p,D,ae,hm,rfl⟩:=C;obtain⟨u,G,y,N,E⟩:=uB hr D fy h;rcases g with⟨g,_⟩|⟨ak,kb,g,J⟩
      .cases g
      .injection g with g;subst g
       rcases hk with⟨hk,_⟩|⟨al,ai,hk,K⟩
       .cases hk
       .injection hk with hk;subst hk
        have S:SR ρ y (.slice (if k=a then some ⟨p.b,j*z,none⟩else(some (⟨p.b,j*z,none⟩:Addr)).map (·.add (a*i.size))) (b-a) (k-a)):=by
         rw[X,<-B];simpa[nE]using E
        have Q:k<=q0:=L;rcases F with⟨rfl,rfl⟩|⟨aj,ah,rfl,I⟩
        .refine gW fx (by grind [gd,Op.operands]) ⟨_,λw'=>?_,_,σ,ρ,_,N,Up.refl ρ,S,hM,rfl⟩;simp[execOp,fR h1,fR J,fR K,Instr.sliceAt,Instr.slice,run_underlying hu,Instr.sliceBounds,Instr.sliceBound,asIntOf,sizeOf,typeInfo,H,G,Q]
        .refine gW fx (by simp[gd,Op.operands,h1,I,J,K]) ⟨_,λw'=>?_,_,σ,ρ,_,N,Up.refl ρ,S,hM,rfl⟩;simp[execOp,fR h1,fR I,fR J,fR K,Instr.sliceAt,Instr.slice,run_underlying hu,Instr.sliceBounds,Instr.sliceBound,asIntOf,sizeOf,typeInfo,H,u,G,Q]
     .exact absurd h.symm hr
     .exact absurd h.symm hr
     .exact absurd h.symm hr
    .exact absurd h.symm hr
  .split at h
   .rename_i n I;rw[iT]at h;obtain⟨el,hu,qa1⟩:=Fz I;obtain⟨⟨an,H,X⟩,_⟩:=kl qa1;obtain⟨q,v,h1,C,h⟩:=gq hr hE h;obtain⟨a,F,h⟩:=mo hr hE h;obtain⟨b,g,h⟩:=mo hr hE h;obtain⟨id,o,e0,h0⟩:=lI hr h;subst e0;have h:=h0;obtain⟨W,h⟩:=fS h hr;have W:=jg W;obtain⟨p,D,rfl⟩:=C;obtain⟨u,U,y,h,E⟩:=uB hr D W h;obtain⟨M,qc1,O⟩:=J7 (t:=t) (d:=d) (R:=R) (pos:=pos) (af:=af) h1 F g;refine gW fx M ⟨_,λw'=>?_,_,σ,ρ,_,h,Up.refl ρ,E,hM,rfl⟩;have:=Xs (b:=p.b) (o:=o) hu H qc1 O u U w'
    by_cases am:n=a<;>simp_all [execOp,fR]
   .exact absurd h.symm hr
theorem ad6 (h:(lnW m t x).f ih e σ c=res):xs prog fD fC [] gr.gS full (Good w0 ρ c res Y (some d)) [⟨some d,.call {callee:= .builtin .len,args:=⟨[x]⟩,argTypes:=⟨[t]⟩},R,pos,af,none⟩] Y w:=by
 unfold lnW at h;split at h
 .rename_i B;obtain⟨q,v,h1,u,h⟩:=gq hr hE fy;split at h
  .rename_i l C;obtain rfl:=FO C;have h:=(gV _ _).symm.trans h;obtain⟨g,h⟩:=fS h hr;have g:=jg g;obtain⟨rfl,_⟩:=u;have hlen:(l.map (oP ρ)).length=l.length:=by simp
   exact iE h1 B ⟨_,σ,ρ,_,h,Up.refl ρ,⟨by rw[hlen];rfl,g⟩,hM,rfl⟩
  obtain⟨l,e0,h0⟩:=lG hr h;subst e0;have h:=h0;have h:=(gV _ _).symm.trans h;obtain⟨g,h⟩:=fS h hr;have g:=jg g;obtain⟨rfl,_⟩:=u;have hlen:(jI l).length=l.length:=by simp[jI]
  exact iE h1 B ⟨_,σ,ρ,_,h,Up.refl ρ,⟨by rw[hlen];rfl,g⟩,hM,rfl⟩
 .split at h
  .rename_i z F;obtain⟨q,v,h1,u,h⟩:=gq hr hE h
   have go:∀(A:Option Addr) (n k:Nat) (y:SV),v= .slice A n k->c (.v y) σ=res->SR ρ y (.I (n:Int))->xs prog fD fC [] gr.gS full (Good w0 ρ c res Y (some d)) [⟨some d,.call {callee:= .builtin .len,args:=⟨[x]⟩,argTypes:=⟨[t]⟩},R,pos,af,none⟩] Y w:=λA n k y D hc E=>by
    subst D;exact IV h1 (by simp only[lnV,F]) ⟨_,σ,ρ,_,hc,Up.refl ρ,E,hM,rfl⟩
   rcases kS hr h with⟨e0,h0⟩|⟨id,z,j,n,e0,h0⟩|⟨id,z,j,n,k,e0,h0⟩|⟨_,_,_,_,e0,h0⟩|⟨l,e0,h0⟩|⟨id,o,e0,h0⟩<;>(subst e0;have h:=h0)
   .exact go _ _ _ _ u h ⟨rfl,iF _⟩
   .obtain⟨g,h⟩:=fS h hr;obtain⟨p,_,_,_,_,rfl⟩:=u;exact go _ _ _ _ fx h ⟨rfl,jg g⟩
   .obtain⟨g,h⟩:=fS h hr;obtain⟨p,_,_,_,rfl⟩:=u;exact go _ _ _ _ fx h ⟨rfl,jg g⟩
   .obtain⟨A,k,rfl,_⟩:=SR.Ei u;exact go _ _ _ _ fx h ⟨rfl,iF _⟩
   .exact absurd h.symm hr
   .exact absurd h.symm hr
  .exact absurd h.symm hr
theorem aay {up:Bool} {t u:i9} (h:(mnW up m x y).f ih e σ c=res):xs prog fD fC [] gr.gS full (Good w0 ρ c res Y (some d)) [⟨some d,.call {callee:= .builtin (mnB up),args:=⟨[x,y]⟩,argTypes:=⟨[t,u]⟩},R,pos,af,none⟩] Y w:=by
 obtain⟨a,b,va,B,h1,n,h3,v,h⟩:=two hr hE h
 have key:∀(k:kw) (p q:Int),va= .int k p->B= .int k q->AR ρ a va->AR ρ b B->zB (eB up (bI p q)) (c b σ) (c a σ)=res->xs prog fD fC [] gr.gS full (Good w0 ρ c res Y (some d)) [⟨some d,.call {callee:= .builtin (mnB up),args:=⟨[x,y]⟩,argTypes:=⟨[t,u]⟩},R,pos,af,none⟩] Y w:=λk p q C D H I h=>by
  subst C;subst D;rw[mc,xW,vv]at h;cases up with
  |true=>
   by_cases g:p<q
   .rw[if_pos (by simp[g])]at h;exact Pk h1 n ⟨_,σ,ρ,_,h,Up.refl ρ,by grind,hM,rfl⟩
   .rw[if_neg (by simp[g])]at h;exact Pk h1 n ⟨_,σ,ρ,_,h,Up.refl ρ,by grind,hM,rfl⟩
  |false=>
   by_cases g:p<q
   .rw[if_neg (by simp[g])]at h;exact QJ h1 n ⟨_,σ,ρ,_,h,Up.refl ρ,by grind,hM,rfl⟩
   .rw[if_pos (by simp[g])]at h;exact QJ h1 n ⟨_,σ,ρ,_,h,Up.refl ρ,by grind,hM,rfl⟩
 rcases oT hr h with⟨k,p,rfl,h⟩|⟨k,p,rfl,h⟩<;>rcases oT hr h with⟨G,q,rfl,h⟩|⟨G,q,rfl,h⟩<;>(obtain⟨E,F⟩:=iD hr h;clear h;subst E;have h:=F)<;>exact key k _ _ h3.1 v.1 h3 v h
end
theorem Bk.put {g:Nat} {t:i9}:∀{vs:ip i6} {o:Nat} {w:i5} {cs:Array i6},Bk w g t cs->o+vs.length<=cs.size->∃d,Bk (w.setCells g o vs) g t d/\d.size=cs.size/\(∀k,d[k]? =if o<=k/\k<o+vs.length then vs[k-o]? else cs[k]?)/\Fr (λb=>b=g) w (w.setCells g o vs)
 |[],o,w,cs,h,_=>⟨cs,h,rfl,fM,Fr.refl _ _⟩
 | v::vs,o,w,cs,h,x=>by
  have B:o+(vs.length+1)<=cs.size:=x
  have h1:Bk (w.setCell ⟨g,o,none⟩ v) g t (cs.setIfInBounds o v):=by
   obtain⟨f,h,u⟩:=h;refine⟨f,?_,by simpa using u⟩;unfold World.setCell;simp[tP,h]
  obtain⟨d,m,h3,y,n⟩:=Bk.put (vs:=vs) (o:=o+1) h1 (by simp;omega);refine⟨d,m,by simpa using h3,λk=>?_,(Fr.setCell (λb=>b=g) w ⟨g,o,none⟩ v (λ_=>rfl)).t n⟩
  grind
def MR.cells {ρ:Pl} {g:Mem} {w0:Fm} {w:i5} (h:MR w0 ρ g w) {id:Nat} {p:At} (f:ρ[id]? =some p):∀{l:ip SV} {o:Nat},(∀i,i<l.length->ig g id (o+i)=l[i]?)->∃vs,j1 ρ l vs/\∀(j:Nat) u,vs[j]? =some u->gc w p.b (o+j) u/\w.frozen? ⟨p.b,o+j,none⟩=false
 |[],o,_=>⟨[],.nil,fM⟩
 | x::l,o,d=>by
  have h0:=d 0 iB;simp only[kB]at h0;obtain⟨v,h1,m,h3⟩:=h.cell (x:=x) h0 f
  obtain⟨vs,n,t⟩:=h.cells f (l:=l) (o:=o+1) (λi hi=>by
   have:=d (i+1) (by simp;omega);rw[show o+1+i=o+(i+1)by omega,this]
   rfl)
  refine⟨v::vs,.cons m n,λj u hu=>?_⟩
  grind
theorem BI (z:Array i6) (n i:Nat):(madeCells z n)[i]? =if i<n then some (z[i% z.size]!)else none:=by
 grind [madeCells]
def yq (l:ip SV) (n:Nat):(rep l n).length=n*l.length:=by
 induction n with
 |zero=>rw[tN];rfl
 |succ n d=>
  grind [rep,List.length_append,Nat.succ_mul]
theorem Mj (l:ip SV) (d:0<l.length):∀(n i:Nat),i<n*l.length->(rep l n)[i]? =l[i% l.length]?
 |0,i,h=>fy
 | n+1,i,h=>by
  show(l++rep l n)[i]? =_
  rw[sc]at h
  by_cases hi:i<l.length
  .grind [List.getElem?_append_left,Nat.mod_eq_of_lt]
  .rw[tk fy,Mj l d n _ fy]
   congr 1
   conv=>rhs;rw[show i=i-l.length+l.length by omega,Nat.add_mod_right]
def yF {zs:ip SV} {z:Array i6} (h:j1 ρ zs z.toList) (n:Nat):j1 ρ (rep zs n) (madeCells z (n*zs.length)).toList:=by
 have f:=h.len;simp only[py]at f;rcases yc zs.length with h0|h0
 .have e:rep zs n=[]:=by simp_all [BZ,yq]
  simp_all [madeCells]
 .refine j1.of (by rw[yq,py,size_madeCells]) λi x d=>?_
  have hi:i<n*zs.length:=by
   have:=(jR.1 d).1;rwa[yq]at this
  rw[Mj zs h0 n i hi]at d;obtain⟨v,m,g⟩:=h.get _ _ d
  grind [BI,getElem!_def]
theorem jr {a b:Bool} (h:an a b=true):a=true/\b=true:=by
 cases a with
 |true=>exact⟨rfl,h⟩
 |false=>cases h
section
variable {m:Nat} {ih:Cl} {e:En} {σ:Mem} {c:Kt} {res:Rs} {ρ:Pl} {Y:Env} {w0:Fm} {w:i5} {full:Array li} {d:Tmp} {R:i9} {pos:String} {af:Array Edge} (hr:res≠ .no)
theorem aed {K:Env->i5->Prop} {H:i5->Prop} {o:Nat} (B:gh Y x=some (.pointer (some ⟨b,o,none⟩))) (C:gh Y y=some v) (m:∃i,prog.info? t=some i/\i.size=vs.length) (n:v.cells=vs.toArray)
  (hc:∀j,j<vs.length->(w.cell? ⟨b,o+j,none⟩).isSome=true) (g:∀j,j<vs.length->w.frozen? ⟨b,o+j,none⟩=false) (h1:∀u∈vs,u.oneCell'=true)
  (h:xs prog fD fC hs H full K ii Y (w.setCells b o vs)) (hH:H (w.setCells b o vs)):xs prog fD fC hs H full K (⟨none,.store t x y,R,pos,af,none⟩::ii) Y w:=by
 obtain⟨i,d,f⟩:=m;refine gW fx (by grind [gd,Op.operands]) ?_;have hr:=run_storeCells_cells (P:=prog) b o vs 0 w (by simpa using hc) (by simpa using g) h1;simp only[kB]at hr;show out prog ((execOp (ev Y) ⟨none,.store t x y,R,pos,af,none⟩).run prog w) _
 have e:(execOp (ev Y) ⟨none,.store t x y,R,pos,af,none⟩).run prog w= .ok .skip (w.setCells b o vs):=by
  simp[execOp,fR B,fR C,Instr.storeAt,Instr.sureAddr,storeVar,n,sizeOf,typeInfo,d,f,hr]
 rw[e];exact⟨hH,h⟩
include hr
theorem sZ (m:MR w0 ρ σ w) {id o:Nat} {k:Mem->Rs} (h:SN σ id o l k=res) (t:ρ[id]? =some p) (B:j1 ρ l vs) (K:0<l.length):
  ∃d,k d=res/\(∀j,j<vs.length->(w.cell? ⟨p.b,o+j,none⟩).isSome=true)/\(∀j,j<vs.length->w.frozen? ⟨p.b,o+j,none⟩=false)/\MR w0 ρ d (w.setCells p.b o vs)/\Fr (λb=>b=p.b) w (w.setCells p.b o vs):=by
 obtain⟨R,m',d,h1,D,h3,E,F,G,H⟩:=Uu hr h;have hlen:=B.len;have C:∀j,j<vs.length->∃x,ig σ id (o+j)=some x:=by grind [ig,Option.isSome_iff_exists]
 have I:∀j,j<vs.length->∃v,w.cell? ⟨p.b,o+j,none⟩=some v/\w.frozen? ⟨p.b,o+j,none⟩=false:=λj n=>by
  obtain⟨x,L⟩:=C j n;obtain⟨v,f,_,a3⟩:=m.cell L t
  grind
 obtain⟨T,M⟩:=C 0 fy;obtain⟨q,S,cs,v,u,y,g,N,O,_⟩:=m.at_ M;rw[t]at u;obtain rfl:=jb u;rw[h1]at y;obtain rfl:=jb y
 have J:o+vs.length<=cs.size:=by
  obtain⟨v,f,_⟩:=I (vs.length-1) fy;rw[g.cell]at f;have:=(KE.1 f).1;omega
 obtain⟨Q,c1,c2,c3,c4⟩:=g.put (vs:=vs) J;refine⟨d,H,λj n=>?_,λj n=>?_,m.wr h1 D h3 E F G t g c1 c2 fM c4 B K,c4⟩
 .grind
 grind
theorem pN (B:MR w0 ρ σ w) {k:Nat->Mem->Rs} (n z:Nat) (h:rb σ el l k=res) (E:n*z=cs.size) (x:Bk w' w.heap.size el cs) (C:∀(o:Nat) v,vs[o]? =some v->cs[o]? =some v) (y:Ext w w') (D:j1 ρ l vs):
  ∃d,k σ.n d=res/\MR w0 (ρ++[⟨w.heap.size,n,z⟩]) d w'/\(ρ++[(⟨w.heap.size,n,z⟩:At)])[σ.n]? =some ⟨w.heap.size,n,z⟩:=by
 obtain⟨F,d,h1,f,h3,g,m,t,u⟩:=pB hr h;exact⟨d,u,B.new n z E h1 f h3 g m t x C y D,by grind [MR.len]⟩
variable (hE:ER m ρ e Y) (hM:MR w0 ρ σ w)
include hE hM
theorem adG (h:(ldW m t x).f ih e σ c=res):xs prog fD fC [] gr.gS full (Good w0 ρ c res Y (some d)) [⟨some d,.load t x,R,pos,af,none⟩] Y w:=by
 unfold ldW at h;split at h
 .rename_i ht;obtain⟨a,v,h1,g,g1⟩:=gq hr hE h;obtain⟨id,o,e0,g2⟩:=lI hr g1;obtain⟨E,g3,g4⟩:=pa hr g2;obtain⟨y,g5,g6⟩:=mm hr g4;subst e0;obtain⟨p,h3,rfl⟩:=g;have D:ig σ id o=some y:=by grind [kd]
  obtain⟨u,B,C,_⟩:=hM.cell D h3;exact Bw h1 ht B ⟨_,σ,ρ,_,g6,Up.refl ρ,C.2,hM,rfl⟩
 .split at h
  .rename_i n F;rw[iT]at h;obtain⟨a,v,h1,g,g1⟩:=gq hr hE h;obtain⟨id,o,e0,g2⟩:=lI hr g1;obtain⟨E,l,g3,g4,g5,g6⟩:=mn hr g2;subst e0;obtain⟨p,h3,rfl⟩:=g;obtain⟨vs,B,C⟩:=hM.cells h3 (l:=l) (o:=o) fM;exact hV h1 (by grind [j1.len]) fM ⟨_,σ,ρ,_,g6,Up.refl ρ,⟨vs,B,rfl⟩,hM,rfl⟩
  .exact absurd h.symm hr
theorem ae2 (h:(stW m t x y).f ih e σ c=res):xs prog fD fC [] gr.gS full (Good w0 ρ c res Y none) [⟨none,.store t x y,R,pos,af,none⟩] Y w:=by
 have key:∀(id o:Nat) (l:ip SV) (vs:ip i6) (I v:i6),gh Y x=some I->SR ρ (.p id o) I->gh Y y=some v->v.cells=vs.toArray->j1 ρ l vs->0<l.length->(∃i,prog.info? t=some i/\i.size=vs.length)->SN σ id o l (λσ=>c (.v .u) σ)=res->xs prog fD fC [] gr.gS full (Good w0 ρ c res Y none) [⟨none,.store t x y,R,pos,af,none⟩] Y w:=λid o l vs I v h1 B h3 g E L M h=>by
  obtain⟨p,O,rfl⟩:=B;obtain⟨Q,g1,g2,g3,g4,_⟩:=sZ hr hM h O E L;exact aed h1 h3 M g g2 g3 E.cells ⟨_,Q,ρ,undef,g1,Up.refl ρ,rfl,g4,rfl⟩ trivial
 unfold stW at h;split at h
 .rename_i ht;obtain⟨a,b,va,H,h1,B,h3,g,g1⟩:=two hr hE h;obtain⟨id,o,e0,g2⟩:=lI hr g1;rcases uD hr g2 with⟨G,D,g3⟩|⟨l,D,g3⟩
  .obtain⟨F,g4⟩:=fS g3 hr;subst e0;subst D;obtain⟨_,i,hi,hs⟩:=nj ht;refine key id o [G] [H] va H h1 h3 B (SR.cells g) (.cons ⟨F,g⟩ .nil) iB ⟨i,hi,hs⟩ ?_;have K:SN σ id o [G] (λσ=>c (.v .u) σ)=NM σ id λC=>zq C.d o G C.m λm=>fN (Nat.add o 1) λ_=>zq dI id ⟨C.e,C.d,C.n,m⟩ σ.h λh=>c (.v .u) ⟨σ.n,h,σ.mp⟩:=rfl
   rw[K];simp only[gV];exact g4
  .exact absurd g3.symm hr
 .split at h
  .rename_i n F;rw[iT]at h;obtain⟨a,b,va,H,h1,B,h3,g,g1⟩:=two hr hE h;obtain⟨id,o,e0,g2⟩:=lI hr g1;obtain⟨l,D,g3⟩:=ql hr g2;obtain⟨J,g4⟩:=fS g3 hr;obtain⟨N,g5⟩:=fS g4 hr;have J:=jq J;have N:1<=n:=lX;subst e0;subst D;obtain⟨vs,E,rfl⟩:=g;obtain⟨_,i,hi,hs⟩:=kJ F;exact key id o l vs va _ h1 h3 B fx E fy (by grind [j1.len]) g5
  .exact absurd h.symm hr
omit hE in
theorem aeg (h:(ZV t (zA t)).f ih e σ c=res):xs prog fD fC [] gr.gS full (Good w0 ρ c res Y (some d)) [⟨some d,.alloc t,R,pos,af,none⟩] Y w:=by
 unfold ZV at h;split at h
 .rename_i z x;rw[ru]at h;obtain⟨i,v,hi,u,n⟩:=sa (ρ:=ρ) x;refine gx (z:=v) (by rw[hi];exact u) (λw' g m _=>?_);obtain⟨y,g1,g2,g3⟩:=pN hr hM v.cells.size 1 h iB (fW.bk g) fM m n;exact⟨_,y,_,_,g1,Up.snoc _ _,⟨_,g3,rfl⟩,g2,rfl⟩
 .exact absurd h.symm hr
theorem afp (h:(bxW m t x).f ih e σ c=res):xs prog fD fC [] gr.gS full (Good w0 ρ c res Y (some d)) [⟨some d,.box t x,R,pos,af,none⟩] Y w:=by
 obtain⟨a,v,h1,n,g1⟩:=gq hr hE (show(iG m x).f e _=res from h)
 have key:∀(l:ip SV),j1 ρ l v.cells.toList->rb σ t l (λid σ=>c (.v (.p id 0)) σ)=res->xs prog fD fC [] gr.gS full (Good w0 ρ c res Y (some d)) [⟨some d,.box t x,R,pos,af,none⟩] Y w:=λl C h=>by
  refine hP h1 (λw' y B _=>?_);obtain⟨F,g1,g2,g3⟩:=pN hr hM v.cells.size 1 h iB (fW.bk y) fM B C;exact⟨_,F,_,_,g1,Up.snoc _ _,⟨_,g3,rfl⟩,g2,rfl⟩
 rcases uD hr g1 with⟨E,g,g3⟩|⟨l,g,g3⟩
 .obtain⟨D,g4⟩:=fS g3 hr;subst g;refine key [E] ?_ g4;rw[SR.cells n];exact .cons ⟨D,n⟩ .nil
 .subst g;obtain⟨vs,u,rfl⟩:=n;exact key l u g3
omit hE in
theorem ZA (h:(rw0 (elemOf t)).f ih e σ c=res):xs prog fD fC [] gr.gS full (Good w0 ρ c res Y (some d)) [⟨some d,.buildSlice t 0 #[],R,pos,af,none⟩] Y w:=by
 unfold rw0 at h;split at h
 .rename_i el z g;rw[iT]at h;obtain⟨hu,n⟩:=iZ g;obtain⟨⟨B,m,y⟩,_⟩:=kl n;have x:Array.map (λ_:Nat=>(default:i6)) (Array.range 0)= #[]:=by simp
  refine xw (by simp[gd,Op.operands]) fx (v:= .S w.heap.size 0 0 0) (w':=w.alloc (.cells #[] el)) ?_ ?_ trivial
  .simp[execOp,Instr.buildSlice,run_underlying hu,sizeOf,typeInfo,m,Instr.fill,newRow]
   grind
  .obtain⟨u,q1,q2,q3⟩:=pN hr hM 0 z fy iB (fW.bk (fW.new w el #[])) (vs:=[]) fM (Fr.alloc _ _ _) .nil;exact⟨_,u,_,_,q1,Up.snoc _ _,⟨_,q3,gJ _,iF _,by simp⟩,q2,rfl⟩
 .exact absurd h.symm hr
theorem ae6 {ps:ip (Nat×i7)} (h:(ZJ m n ps (elemOf t)).f ih e σ c=res):xs prog fD fC [] gr.gS full (Good w0 ρ c res Y (some d)) [⟨some d,.buildSlice t n ps.toArray,R,pos,af,none⟩] Y w:=by
 unfold ZJ at h;split at h
 .exact ZA hr hM h
 split at h
 .rename_i el z H;obtain⟨hu,K⟩:=iZ H;obtain⟨⟨N,D,C⟩,_⟩:=kl K;split at h
  .rename_i zs M;split at h
   .exact absurd h.symm hr
   .rename_i g;rw[iT,iT,ru]at h;obtain⟨k1,g⟩:=jr g;obtain⟨k2,g⟩:=jr g;obtain⟨k3,k4⟩:=jr g;have k1:=jq k1;have k2:=jg k2;have k3:=jg k3;have k4:n*z<=16777216:=lX;obtain⟨i,v,hi,L,I⟩:=sa (ρ:=ρ) M;rw[D]at hi;obtain rfl:=jb hi;have E:=yF I n;rw[k1]at E;obtain⟨S,l',y,h1,G,h3,B,g1⟩:=yA hr hE h E;obtain⟨he,Q⟩:=vx h1;have qc2:0<n*z:=Lq fy fy
    have J:=run_buildSlice (P:=prog) w t el n ((ps.map λp=>(p.1,ev Y p.2)).toArray) y.toArray N v hu D L (by rw[C];omega) (by rw[C];omega) (by
     show Instr.fill _ _ (ps.map λp=>(p.1,ev Y p.2))=_
     rw[he,C]
     exact G)
    have B:y.length=n*z:=by rw[B,py,size_madeCells]
    refine xw (by grind [gd,Op.operands,List.all_eq_true]) fx (v:= .S w.heap.size 0 n n) (w':=w.alloc (.cells y.toArray el)) ?_ ?_ trivial
    .have F:(ps.toArray.map λx=>match x with|(i,x)=>(i,ev Y x))=(ps.map λp=>(p.1,ev Y p.2)).toArray:=by simp
     simp only[execOp];rw[F];simp[J]
    .obtain⟨O,q1,q2,q3⟩:=pN hr hM n z g1 (by simp[B]) (fW.bk (fW.new w el y.toArray)) (λo u hu=>by simpa using hu) (Fr.alloc _ _ _) h3;exact⟨_,O,_,_,q1,Up.snoc _ _,⟨_,q3,gJ _,by have:=SF n k3;grind [maxLen],by simp⟩,q2,rfl⟩
  .exact absurd h.symm hr
 .exact absurd h.symm hr
theorem aeV (h:(mkW m x y (elemOf t)).f ih e σ c=res):xs prog fD fC [] gr.gS full (Good w0 ρ c res Y (some d)) [⟨some d,.makeSlice t x y,R,pos,af,none⟩] Y w:=by
 unfold mkW at h;split at h
 .rename_i el z H;obtain⟨hu,K⟩:=iZ H;obtain⟨⟨g,u,M⟩,_⟩:=kl K;split at h
  .rename_i zs C N;split at h
   .exact absurd h.symm hr
   .rename_i k1;have k1:=jq k1;rw[iT,ru]at h;obtain⟨a,b,va,T,h1,qc3,h3,F,g1⟩:=two hr hE h;obtain⟨k,n,e0,g2⟩:=iz hr g1;obtain⟨O,q,E,g3⟩:=iz hr g2;obtain⟨B,g4⟩:=fS g3 hr;obtain⟨hq,g5⟩:=fS g4 hr;rw[nQ]at g5;have B:=jg B;have hq:=jg hq;subst e0;subst E;obtain⟨rfl,_⟩:=h3;obtain⟨rfl,_⟩:=F;obtain⟨i,v,hi,L,I⟩:=sa (ρ:=ρ) N;rw[u]at hi;obtain rfl:=jb hi;have D:=yF I q;rw[k1]at D
    have G:g.bytes<=1000000:=by
     unfold ZQ at C;rw[u]at C;exact lX
    have S:g.bytes*q<=1000000*65536:=QF G hq
    have J:=run_make (P:=prog) w t el g v hu u L k O (n:Int) (q:Int) fy fy (by
     have:((g.bytes*q:Nat):Int)<=281474976710656:=fy
     rwa[Int.natCast_mul]at this) fy
    simp only[je,M]at J;refine xw (by grind [gd,Op.operands]) fx (v:= .S w.heap.size 0 n q) (w':=w.alloc (.cells (madeCells v.cells (q*z)) el)) ?_ ?_ trivial
    .simp_all [ev,fR,execOp]
    .obtain⟨Q,q1,q2,q3⟩:=pN hr hM q z g5 (by rw[size_madeCells]) (fW.bk (fW.new w el (madeCells v.cells (q*z)))) fM (Fr.alloc _ _ _) D;exact⟨_,Q,_,_,q1,Up.snoc _ _,⟨_,q3,B,by grind [maxLen],by simp⟩,q2,rfl⟩
  .exact absurd h.symm hr
 .exact absurd h.symm hr
end
section
open Go.Lib (strCells strCells_length run_firstCells_string run_append_grow_string)
inductive Src (w:World) (t:TypeId) (z:Nat):TypeId->Value->Nat->List Value->Prop where
 |sl {A:Option Addr} {q c:Nat} {news:List Value} (hl:news.length=q*z) (hc:∀a,A=some a->∀(j:Nat) u,news[j]? =some u->w.cell? (a.add j)=some u) (hn:A=none->q=0):Src w t z t (.slice A q c) q news
 |st {u:TypeId} {b:ByteArray} (hu:prog.underlying u=some .string) (hz:z=1):Src w t z u (.string b) b.size (strCells b)
theorem Src.len {q:Nat} {news:ip i6} (h:Src w t z u v q news):news.length=q*z:=by
 cases h<;>grind [sl,st,strCells_length]
def Grown (w:i5) (el:i9) (z n:Nat) (vs:ip i6) (v:i6) (w':i5):Prop:=∃g k cur,v= .S g 0 n k/\w.heap.size<=g/\fW w' g el cur/\Ext w w'/\n<=k/\k<=maxLen/\cur.size=k*z/\cur.toList.take (n*z)=vs
section
variable {w0:Fm} {w:i5} {t u R el:i9} {i:TypeInfo} {z q:Nat} {vy zv:i6} {news:ip i6} (hu:prog.underlying t=some (.slice el)) (hi:prog.info? el=some i) (hz:i.size=z) (hS:Src w t z u vy q news) (h1:∀u∈news,u.oneCell'=true) (hq:0<q)
include hu hi hz hS h1 hq
theorem HT {o k:Nat} (f:n+q<=k) (hc:∀j,j<news.length->(w.cell? ⟨b,o+n*z+j,none⟩).isSome=true) (d:∀j,j<news.length->w.frozen? ⟨b,o+n*z+j,none⟩=false):
  (Builtin.append_ #[t,u] R #[.S b o n k,vy]).run prog w= .ok (.S b o (n+q) k) (w.setCells b (o+n*z) news):=by
 cases hS with
 | @sl A _ c _ x m y=>
  cases A with
  |none=>exact absurd (y rfl) fy
  |some a=>
   subst hz;exact run_append_room_cells (P:=prog) w t R el i hu hi b o n k a q c news x (m a fx) h1 f hc d
 | @st _ s B C=>
  subst hz;have v:=run_firstCells_string (P:=prog) w i.size s;have g:=run_storeCells_cells (P:=prog) b (o+n*i.size) (strCells s) 0 w (by simpa using hc) (by simpa using d) h1;simp only[kB]at g;simp[Builtin.append_,run_underlying hu,run_underlying B,sizeOf,typeInfo,hi,Builtin.lenOf,f,v,nE,g]
variable (O0:i.zero=some zv) (SU:zv.cells.size=z) (Rm:0<z) (SI:i.bytes<=1000000)
include O0 SU Rm SI
theorem F6 {B:Addr} {k:Nat} {olds:ip i6} (x:olds.length=n*z) (holds:∀(j:Nat) u,olds[j]? =some u->w.cell? (B.add j)=some u) (m:k<n+q) (hm:n+q<=1000000):
  ∃d w',(Builtin.append_ #[t,u] R #[.slice (some B) n k,vy]).run prog w= .ok d w'/\Grown w el z (n+q) (olds++news) d w':=by
 have v:(n+q)*i.bytes<=140737488355328:=ly (QF hm SI) fU;have f:n+q<=maxLen:=by unfold maxLen;omega
 cases hS with
 | @sl A _ c _ J H qc4=>
  cases A with
  |none=>grind
  |some a=>
   obtain⟨d,w',M,K,Q⟩:=run_append_arg_grows (P:=prog) w t R el i zv z i.bytes hu hi O0 hz rfl SU Rm B n k olds x holds a q c news J (H a rfl) m f v;refine⟨d,w',M,?_⟩;rcases K.2 with⟨_,h0⟩|⟨g,O,cur,y,C,D,e4,E,F,G⟩
   .omega
   .exact⟨g,O,cur,y,C,D,by grind [Fr.grown],e4,E,F,G⟩
 | @st _ s N S=>
  have L:=run_append_grow_string (P:=prog) w t u R el i zv hu N hi O0 B n k olds (by rw[hz];exact x) holds s m (by unfold maxLen at f;omega) (growslice_fits m v);have I:=grownCap_ge w (n+s.size) k el;refine⟨_,_,L,w.heap.size,_,_,rfl,gJ _,heap_alloc_new w.drew _,(Fr.drew _ w).t (Fr.alloc _ _ _),I,grownCap_le_maxLen w _ k el f,?_,?_⟩
  .grind [Array.size_append,List.size_toArray,size_zeroCells,strCells_length]
  .simp only[Ww,kF];rw[<-kF,show(n+s.size)*z=(olds++strCells s).length by grind [List.length_append,strCells_length]]
   grind
theorem S6 (hm:q<=1000000):∃d w',(Builtin.append_ #[t,u] R #[.slice none 0 0,vy]).run prog w= .ok d w'/\Grown w el z q news d w':=by
 have G:(0+q)*i.bytes<=140737488355328:=ly (QF fy SI) (show 1000000*1000000<=_ by decide);have f:0+q<=maxLen:=by unfold maxLen;omega
 cases hS with
 | @sl A _ c _ N H m=>
  cases A with
  |none=>grind
  |some a=>
   obtain⟨d,w',Q,n,L,_⟩:=run_append_own (P:=prog) w w.heap.size t R el i zv z i.bytes hu hi O0 hz rfl SU Rm (.slice none 0 0) 0 [] (World.ownsRow_nil w w.heap.size el z) a q c news N (H a rfl) h1 f G (gJ _);refine⟨d,w',Q,?_⟩;rw[iM,tz]at n;rcases n.2 with⟨_,h0⟩|⟨g,S,cur,v,x,y,e4,B,C,D⟩
   .omega
   .exact⟨g,S,cur,v,x,y,Fr.grown L (λ_ M _=>by cases M),e4,B,C,D⟩
 | @st _ s qc5 V=>
  have m:¬s.size=0:=fy;have U:¬s.size<=0:=fy;have F:¬((9223372036854775807:Int)<(s.size:Int)):=by unfold maxLen at f;omega
  have T:=growslice_fits (need:=s.size) (old:=0) (bytes:=i.bytes) fy fM;have E:¬(281474976710656<Builtin.nextslicecap s.size 0*i.bytes):=fy;have I:=run_firstCells_string (P:=prog) w.drew i.size s;have K:=grownCap_ge w s.size 0 el;have J:(Builtin.firstCells i.size 0 (.slice none 0 0)).run prog w.drew= .ok #[] w.drew:=by simp[Builtin.firstCells]
  have O:(Builtin.append_ #[t,u] R #[.slice none 0 0,.string s]).run prog w= .ok (.S w.heap.size 0 s.size (grownCap w s.size 0 el)) (w.drew.alloc (.cells ((strCells s).toArray++Builtin.zeroCells zv.cells (grownCap w s.size 0 el-s.size)) el)):=by
   simp[Builtin.append_,run_underlying hu,run_underlying qc5,sizeOf,typeInfo,zeroValue,hi,O0,Builtin.lenOf,m,F,E,Question.forced,I,newRow,grownCap,J]
  refine⟨_,_,O,w.heap.size,_,_,rfl,gJ _,heap_alloc_new w.drew _,(Fr.drew _ w).t (Fr.alloc _ _ _),K,by grind [grownCap_le_maxLen],?_,?_⟩
  .grind [Array.size_append,List.size_toArray,size_zeroCells,strCells_length]
  grind [Array.toList_append,ByteArray.size,strCells,strCells_length,List.take_left]
end
section
variable {σ:Mem} {res:Rs} {ρ:Pl} {w0:Fm} {w:i5} (hr:res≠ .no)
include hr
theorem ES (B:MR w0 ρ σ w) {x:AV} {k:Nat->ip SV->Rs} (f:AR ρ x v) (h:Y9 σ z x k=res):∃q new news,k q new=res/\j1 ρ new news/\Src w t z t v q news:=by
 rcases kS hr h with⟨e0,g1⟩|⟨id,y,j,n,e0,g1⟩|⟨id,y,j,n,F,e0,g1⟩|⟨_,_,_,_,e0,g1⟩|⟨l,e0,g1⟩|⟨id,o,e0,g1⟩<;>subst e0
 .have C:v= .slice none 0 0:=f;subst C;exact⟨0,[],[],g1,.nil,.sl iB fM (λ_=>rfl)⟩
 .obtain⟨G,l,g3,g4,g5,g6⟩:=mn hr g1;obtain⟨p,m,_,_,_,rfl⟩:=f;obtain⟨vs,g,D⟩:=B.cells m (l:=l) (o:=Nat.mul j y) fM;refine⟨n,l,vs,g6,g,.sl (by grind [j1.len]) (λa d E u hu=>?_) (λd=>by cases d)⟩
  grind [Addr.add_lit]
 .obtain⟨G,l,g3,g4,g5,g6⟩:=mn hr g1;obtain⟨p,m,_,_,rfl⟩:=f;obtain⟨vs,g,D⟩:=B.cells m (l:=l) (o:=Nat.mul j y) fM;refine⟨n,l,vs,g6,g,.sl (by grind [j1.len]) (λa d E u hu=>?_) (λd=>by cases d)⟩
  grind [Addr.add_lit]
 .obtain⟨A,F,rfl,_⟩:=SR.Ei f;exact⟨0,[],[],g1,.nil,.sl iB fM (λ_=>rfl)⟩
 .grind
 grind
omit hr in
theorem z1 (ρ:Pl):∀{l:ip Nat},(∀c∈l,c<256)->j1 ρ (l.map λc=>SV.n .u8 c) ((jI l).map λb=>Value.int .u8 (b.toNat:Int))
 |[],_=> .nil
 |a::l,h=>by
  have d:=h a iB;refine .cons ⟨rfl,?_,by show a<=255;omega⟩ (z1 ρ fM)
  grind [UInt8.toNat_ofNat',Nat.mod_eq_of_lt]
theorem TY {x:AV} {d:i6} {k:Nat->ip SV->Rs} (hu:prog.underlying u=some .string) (n:AR ρ x d) (h:stK x k=res):∃q new news,k q new=res/\j1 ρ new news/\Src w t 1 u d q news:=by
 obtain⟨l,e0,g1⟩:=lG hr h;rw[gV,nQ]at g1;subst e0;obtain⟨rfl,m,_⟩:=n;refine⟨_,_,_,g1,z1 ρ m,?_⟩;have f:(jI l).map (λb=>Value.int .u8 (b.toNat:Int))=strCells (su (jI l)):=by simp[strCells,su]
 have g:l.length=(su (jI l)).size:=by rw[ky];simp[jI]
 rw[f,g];exact .st hu fx
theorem L9 (m:MR w0 ρ σ w) {r:Ws} {x:AV} {g:i6} {k:Nat->ip SV->Rs} (hs:scW el z t u=some r) (d:AR ρ x g) (h:r.f σ x k=res):∃q new news,k q new=res/\j1 ρ new news/\Src w t z u g q news:=by
 unfold scW at hs;split at hs
 .rename_i n;split at hs
  .rename_i h1 _;obtain rfl:=jb hs;have h1:=jq h1;subst h1;exact TY hr (h7 n) d h
  .cases hs
 .split at hs
  .rename_i h1;obtain rfl:=jb hs;have h1:=jq h1;subst h1;exact ES hr m d h
  .cases hs
end
section
variable {m:Nat} {ih:Cl} {e:En} {σ:Mem} {c:Kt} {res:Rs} {ρ:Pl} {Y:Env} {w0:Fm} {w:i5} {full:Array li} {d:Tmp} {R:i9} {pos:String} {af:Array Edge} (hr:res≠ .no)
include hr
theorem zj (m:MR w0 ρ σ w) (K:Grown w el z n vs v w') (L:j1 ρ l vs) (h:rb σ el l (λid σ=>c (.v (.l id z 0 n)) σ)=res):∃x f t,c x f=res/\Up ρ t/\AR t x v/\MR w0 t f w':=by
 obtain⟨g,k,cur,rfl,y,B,e4,C,D,E,N⟩:=K;obtain⟨R,f,h1,F,h3,G,H,I,J⟩:=pB hr h;refine⟨_,f,ρ++[⟨g,k,z⟩],J,Up.snoc _ _,⟨⟨g,k,z⟩,by grind [MR.len],rfl,by simpa using C,D,by simp⟩,?_⟩;refine m.more k z (by rw[E]) h1 F fM (λo x u=>?_) H I (fW.bk B) e4 (λid o p hs M=>⟨λd=>by have:=m.below id o p hs M;omega,λd=>d⟩) (λb d=>d.elim) (.inl (ly m.old.size y));rw[G o]at u;obtain⟨v,O,Q⟩:=L.get o x u
 grind
variable (hM:MR w0 ρ σ w) {t u el:i9} {i:TypeInfo} {z q:Nat} {vs0 vy zv:i6} {s:AV} {new:ip SV} {news:ip i6} (hu:prog.underlying t=some (.slice el)) (hi:prog.info? el=some i) (hz:i.size=z) (hS:Src w t z u vy q news) (hn:j1 ρ new news)
 (O0:i.zero=some zv) (SU:zv.cells.size=z) (Rm:0<z) (SI:i.bytes<=1000000)
include hM hu hi hz hS hn O0 SU Rm SI
theorem TN {id:Nat} (N:ρ[id]? =some p) (aG:p.z=z) (aF:n<=p.c) (aP:p.c<=maxLen) (hq:0<q) (hm:n+q<=1000000) (h:apL σ c el z id n q new=res):
  ∃C w' x am Y,(Builtin.append_ #[t,u] R #[.S p.b 0 n p.c,vy]).run prog w= .ok C w'/\c x am=res/\Up ρ Y/\AR Y x C/\MR w0 Y am w':=by
 have hlen:=hn.len;have aA:=hS.len;obtain⟨m,g1,g2⟩:=pa hr h;obtain⟨he,g3⟩:=fS g2 hr;have he:=jq he;obtain⟨aJ,g4,g5⟩:=mm hr g3;have X:ig σ id 0=some aJ:=by grind [kd]
 obtain⟨y,cs,aa,I,Q,ap⟩:=hM.gO id m g1 fM;rw[N]at aa;obtain rfl:=jb aa;rw[aG]at Q;have aN:=hM.xF id 0 p (by rw[X];rfl) N;have aO:n*z<=cs.size:=ly (qz z aF) (K2 Q)
 have aI:∃C w' g k cur S,(Builtin.append_ #[t,u] R #[.S p.b 0 n p.c,vy]).run prog w= .ok C w'/\C= .S g 0 (n+q) k/\Bk w' g el cur/\n+q<=k/\k<=maxLen/\k*z=cur.size/\Fr S w w'/\(∀a,(a≠p.b/\a<w.heap.size)->a≠g/\¬S a)/\(∀b,S b->w0.may b)/\w0.may g/\(∀o v,o<n*z->cs[o]? =some v->cur[o]? =some v)/\(∀(j:Nat) v,news[j]? =some v->cur[n*z+j]? =some v):=by
  by_cases al:n+q<=p.c
  .have aC:n*z+news.length<=cs.size:=by
    rw[aA,<-oA];exact ly (qz z al) (K2 Q)
   have D:=HT (R:=R) (b:=p.b) (o:=0) hu hi hz hS hn.cells hq al (λj W=>by rw[I.cell,iM];simp;omega) (λj W=>I.frozen fy);rw[iM]at D;obtain⟨aL,c1,c2,c3,c4⟩:=I.put (vs:=news) aC
   grind
  .obtain⟨C,w',D,g,k,cur,rfl,aq,ar,e4,au,av,aw,ab⟩:=F6 (R:=R) hu hi hz hS hn.cells hq O0 SU Rm SI (B:=⟨p.b,0,none⟩) (n:=n) (k:=p.c) (olds:=cs.toList.take (n*z)) (by simp;omega) (by grind [Addr.add_lit,Bk.cell]) fy hm;have ay:(cs.toList.take (n*z)).length=n*z:=by simp;omega
   refine⟨_,w',g,k,cur,_,D,rfl,fW.bk ar,au,av,by rw[aw],e4,λa aM=>⟨fy,λV=>V⟩,λb L=>L.elim,.inl (ly hM.old.size aq),λo v M aH=>?_,λj v W=>?_⟩
   .have ax:(cur.toList.take ((n+q)*z))[o]? =some v:=by
     rw[ab,rk fy,Ic,if_pos M];simpa using aH
    grind
   .have ax:(cur.toList.take ((n+q)*z))[n*z+j]? =some v:=by
     rw[ab,tk fy,ay,show n*z+j-n*z=j by omega];exact W
    grind
 obtain⟨C,w',g,k,cur,S,D,rfl,az,ai,aj,ak,ad,T,ae,ah,hold,aD⟩:=aI;have ag:∀b l,vO w b l->¬S b:=λb l L=>(T b ⟨λe=>I.Kc (e▸L),L.lt⟩).2
 rw[mc]at g5;split at g5
 .rename_i aB;obtain⟨aE,_⟩:=jr aB;have aE:m.n=n*z:=lX;obtain⟨t',f1,f2⟩:=sO hr g5;rw[gV]at f2;obtain⟨aK,k1,k2,k3,k4⟩:=Dn hr f2;obtain⟨E,qc6⟩:=hM.kill k1 k2 k3 N (by rw[X];rfl);obtain⟨Z,O,a2,a3,a4⟩:=zX hr k4;rw[gV]at a4;refine⟨_,w',_,Z,ρ++[⟨g,k,z⟩],D,a4,Up.snoc _ _,⟨⟨g,k,z⟩,by grind [MR.len],rfl,by simpa using ai,aj,by simp⟩,?_⟩;refine E.more k z ak O fx (λo M=>?_) (λo x f=>?_) a2 a3 fM ad (λH o y G F=>T y.b ⟨qc6 H o y G F,E.below H o y G F⟩) ae ah ag
  .have M:m.n+new.length<=o:=M;show h8 m.d o t'=none
   rw[f1 o,if_neg fy];exact hM.pre id m g1 o fy
  .have f:h8 m.d o t'=some x:=f;rw[f1 o]at f;split at f
   .rename_i V;obtain⟨v,J,K⟩:=hn.get _ _ f
    grind
   .rename_i V;obtain⟨v,J,K⟩:=ap o x f;refine⟨v,hold o v ?_ J,K⟩;rcases p9 o m.n with fY|U
    .omega
    .rw[hM.pre id m g1 o U]at f;cases f
 .obtain⟨old,f1,f2,f3⟩:=yK hr g5;rw[nQ]at f3;obtain⟨aK,k1,k2,k3,k4⟩:=Dn hr f3;obtain⟨E,qc6⟩:=hM.kill k1 k2 k3 N (by rw[X];rfl);obtain⟨aQ,Z,O,a2,a5,an,a3,ao,a4⟩:=pB hr k4;rw[gV]at a4;refine⟨_,w',_,Z,ρ++[⟨g,k,z⟩],D,a4,Up.snoc _ _,⟨⟨g,k,z⟩,by grind [MR.len],rfl,by simpa using ai,aj,by simp⟩,?_⟩;refine E.more k z ak O a2 fM (λo x f=>?_) a3 ao az ad (λH o y G F=>T y.b ⟨qc6 H o y G F,E.below H o y G F⟩) ae ah ag;rw[an o]at f;have f1:old.length=n*z:=f1;rcases p9 o old.length with fY|U
  .grind
  .rw[tk U]at f;obtain⟨v,J,K⟩:=hn.get _ _ f;refine⟨v,?_,K⟩;have:=aD _ v J
   simp_all
theorem UC {id k:Nat} (m:ρ[id]? =some p) (_:n<=k) (I:k<=maxLen) (hq:0<q) (hm:n+q<=1000000) (h:apX σ c el z id j n k q new=res):
  ∃y w' x f g,(Builtin.append_ #[t,u] R #[.S p.b (j*z) n k,vy]).run prog w= .ok y w'/\c x f=res/\Up ρ g/\AR g x y/\MR w0 g f w':=by
 have hlen:=hn.len;have H:=hS.len
 have J:0<new.length:=by
  rw[<-hlen,H];exact Lq hq Rm
 unfold apX at h;rw[mc]at h;split at h
 .rename_i d;have d:n+q<=k:=lX;rw[gV]at h;obtain⟨f,g1,g2,g3,g4,_⟩:=sZ hr hM h m hn J;rw[gV]at g1;have D:Nat.mul (Nat.add j n) z=j*z+n*z:=oA j n z;rw[D]at g2 g3 g4;have C:=HT (R:=R) (b:=p.b) (o:=j*z) hu hi hz hS hn.cells hq d g2 g3;exact⟨_,_,_,f,ρ,C,g1,Up.refl ρ,⟨p,m,d,I,rfl⟩,g4⟩
 .rename_i d;have d:¬n+q<=k:=lX;obtain⟨M,l,g3,g4,g5,g6⟩:=mn hr h;rw[nQ]at g6;obtain⟨vs,F,L⟩:=hM.cells m (l:=l) (o:=Nat.mul j z) fM;obtain⟨y,w',C,G⟩:=F6 (R:=R) hu hi hz hS hn.cells hq O0 SU Rm SI (B:=⟨p.b,j*z,none⟩) (n:=n) (k:=k) (olds:=vs) (by grind [j1.len]) (by grind [Addr.add_lit]) fy hm
  have g7:rb σ el (l++new) (λid σ=>c (.v (.l id z 0 (n+q))) σ)=res:=by
   have E:(λid σ=>fN (Nat.add n q) λn=>c (.v (.l id z 0 n)) σ)=(λid σ=>c (.v (.l id z 0 (n+q))) σ):=by
    funext id σ
    exact gV _ _
   rw[<-E];exact g6
  obtain⟨x,f,g,K,a2,a3,a4⟩:=zj hr hM G (F.app hn) g7
  grind
theorem Vw (hs:AR ρ s vs0) (h:apK σ c el z s q new=res):∃y w' x B m,(Builtin.append_ #[t,u] R #[vs0,vy]).run prog w= .ok y w'/\c x B=res/\Up ρ m/\AR m x y/\MR w0 m B w':=by
 have hzero:q=0->∀(A:Option Addr) (n k:Nat),n<=k->(Builtin.append_ #[t,u] R #[.slice A n k,vy]).run prog w= .ok (.slice A n k) w:=λv A n k g=>by
  have L:news.length=0:=by rw[hS.len,v,tN]
  have M:news=[]:=fM;cases hS with
  | @sl G _ S _ L T U=>
   subst v;cases A<;>cases G<;>simp[Builtin.append_,run_underlying hu,sizeOf,typeInfo,hi,Builtin.lenOf,Builtin.firstCells,g,storeCells,loadCells,loadCellsFrom]
  | @st _ b Q X=>
   have C:=run_firstCells_string (P:=prog) w i.size b;rw[M]at C;rw[v]at C;cases A<;>simp[Builtin.append_,run_underlying hu,run_underlying Q,sizeOf,typeInfo,hi,Builtin.lenOf,v,g,C,storeCells]
 rcases kS hr h with⟨e0,g1⟩|⟨id,qc7,j,n,e0,g1⟩|⟨id,qc7,j,n,Y,e0,g1⟩|⟨_,_,_,_,e0,g1⟩|⟨l,e0,g1⟩|⟨id,o,e0,g1⟩<;>subst e0
 .have I:vs0= .slice none 0 0:=hs;subst I;rcases yc q with h0|h0
  .subst h0;exact⟨_,w,_,σ,ρ,fM,g1,Up.refl ρ,rfl,hM⟩
  .obtain⟨d,rfl⟩:∃d,q=d+1:=⟨q-1,fy⟩;obtain⟨hm,g2⟩:=fS fy hr;have hm:=jg hm;obtain⟨y,w',W,J⟩:=S6 (R:=R) hu hi hz hS hn.cells h0 O0 SU Rm SI hm;obtain⟨x,B,m,H,a2,a3,a4⟩:=zj hr hM J hn g2
   grind
 .obtain⟨D,g2⟩:=fS g1 hr;obtain⟨f,g3⟩:=fS g2 hr;obtain⟨hm,g4⟩:=fS g3 hr;have D:=jq D;have f:=jq f;have hm:n+q<=1000000:=lX;subst D;subst f;have F:=hs;obtain⟨p,E,O,V,N,rfl⟩:=hs;rcases yc q with h0|h0
  .subst h0;exact⟨_,w,_,σ,ρ,fM,g4,Up.refl ρ,F,hM⟩
  .obtain⟨d,rfl⟩:∃d,q=d+1:=⟨q-1,fy⟩;obtain⟨y,w',x,B,m,a0,H,a2,a3,a4⟩:=TN (R:=R) (c:=c) hr hM hu hi hz hS hn O0 SU Rm SI E O fy N h0 hm g4
   grind
 .obtain⟨f,g3⟩:=fS g1 hr;obtain⟨hm,g4⟩:=fS g3 hr;have f:=jq f;have hm:n+q<=1000000:=lX;subst f;have F:=hs;obtain⟨p,E,g,K,rfl⟩:=hs;rcases yc q with h0|h0
  .subst h0;exact⟨_,w,_,σ,ρ,hzero fx _ n _ g,g4,Up.refl ρ,F,hM⟩
  .obtain⟨d,rfl⟩:∃d,q=d+1:=⟨q-1,fy⟩;exact UC (R:=R) (c:=c) hr hM hu hi hz hS hn O0 SU Rm SI E g K h0 hm g4
 .grind
 .grind
 grind
end
end
section
open Go.Lib (strCells strCells_length run_firstCells_string)
def Ps {i:TypeInfo} (hi:prog.info? t=some i) (h:zA t=some l):∃v,i.zero=some v/\v.cells.size=l.length:=by
 obtain⟨f,v,h1,d,h3⟩:=sa (ρ:=[]) h;rw[hi]at h1;obtain rfl:=jb h1;exact⟨v,d,by simpa using h3.len⟩
def Sr {i:TypeInfo} (hi:prog.info? t=some i) (h:ZQ t=true):i.bytes<=1000000:=by
 unfold ZQ at h
 simp_all
def XT {q:Nat} {f:i6} {news:ip i6} (g:Src w t z u f q news) (r:Nat) (x:r<=q):(Builtin.firstCells z r f).run prog w= .ok (news.take (r*z)).toArray w:=by
 cases g with
 | @sl A _ c _ n m B=>
  cases A with
  |none=>
   simp_all [Builtin.firstCells]
  | some a=>
   refine run_firstCells_some (P:=prog) w z r a q c (news.take (r*z)) ?_ (λj v d=>?_)
   .rw[kv,n];exact tD (qz z x)
   .rw[Ic]at d;split at d
    .exact m a fx j v d
    .cases d
 | @st _ b C y=>
  subst y;obtain⟨l,rfl⟩:=W3 b
  simp_all [wN,wK,Builtin.firstCells,strCells,su,CN]
section
variable {m:Nat} {ih:Cl} {e:En} {σ:Mem} {c:Kt} {res:Rs} {ρ:Pl} {Y:Env} {w0:Fm} {w:i5} {full:Array li} {d:Tmp} {dst:Option Tmp} {R:i9} {pos:String} {af:Array Edge} (hr:res≠ .no) (hE:ER m ρ e Y) (hM:MR w0 ρ σ w)
include hr hE hM
theorem ac7 (h:(apW m t u x y).f ih e σ c=res):xs prog fD fC [] gr.gS full (Good w0 ρ c res Y dst) [⟨dst,.call {callee:= .builtin .append,args:=⟨[x,y]⟩,argTypes:=⟨[t,u]⟩},R,pos,af,none⟩] Y w:=by
 unfold apW at h;split at h
 .rename_i el z B;obtain⟨hu,F⟩:=iZ B;obtain⟨⟨i,hi,G⟩,_⟩:=kl F;split at h
  .rename_i zs C I;split at h
   .rename_i r k1 k2 E;rw[iT]at h;have k1:=jq k1;have k2:=jg k2;obtain⟨a,b,va,Q,h1,N,h3,g,g1⟩:=two hr hE h;obtain⟨q,new,news,g2,D,n⟩:=L9 hr hM E g g1;obtain⟨qc8,J,H⟩:=Ps hi I;obtain⟨K,w',x',M,L,O,d,a2,a3,a4⟩:=Vw (R:=R) (c:=c) hr hM hu hi G n D J (by rw[H,k1]) fy (Sr hi C) h3 g2;refine xw (by grind [gd,Op.operands,Call.operands]) fx (v:=K) (w':=w') ?_ ⟨x',M,L,_,d,a2,a3,a4,rfl⟩ trivial
    simp_all [execOp,resolve,invoke,builtin,fR]
   .exact absurd h.symm hr
  .exact absurd h.symm hr
 .exact absurd h.symm hr
theorem adf (h:(cpW m t u x y).f ih e σ c=res):xs prog fD fC [] gr.gS full (Good w0 ρ c res Y dst) [⟨dst,.call {callee:= .builtin .copy,args:=⟨[x,y]⟩,argTypes:=⟨[t,u]⟩},R,pos,af,none⟩] Y w:=by
 unfold cpW at h;split at h
 .rename_i el z T;obtain⟨hu,X⟩:=iZ T;obtain⟨⟨i,hi,K⟩,_⟩:=kl X;split at h
  .rename_i r L W;rw[iT]at h;have L:=jg L;obtain⟨a,b,va,N,h1,O,h3,Q,g1⟩:=two hr hE h;obtain⟨q,new,news,g2,G,E⟩:=L9 hr hM W Q g1;have hlen:∀w',(Builtin.lenOf N).run prog w'= .ok q w':=λw'=>by cases E<;>simp[Builtin.lenOf]
   have go:∀(A:Option Addr) (n k r:Nat) (I:SV) (B:Mem) (w':i5),va= .slice A n k->Nat.min q n=r->(match A with|some a=>(storeCells a (news.take (r*z))).run prog w= .ok () w'|none=>w'=w)->c (.v I) B=res->SR ρ I (.I (r:Int))->MR w0 ρ B w'->xs prog fD fC [] gr.gS full (Good w0 ρ c res Y dst) [⟨dst,.call {callee:= .builtin .copy,args:=⟨[x,y]⟩,argTypes:=⟨[t,u]⟩},R,pos,af,none⟩] Y w:=λA n k r I B w' D F g hc qa2 qc9=>by
    subst D;have J:=XT E r (by rw[<-F];exact Nat.min_le_left _ _)
    have V:(Builtin.copy_ #[t,u] R #[.slice A n k,N]).run prog w= .ok (.I (r:Int)) w':=by
     cases A with
     |none=>
      have g:w'=w:=g;subst g;simp[Builtin.copy_,run_underlying hu,sizeOf,typeInfo,hi,K,hlen,F,J,goInt]
     |some a=>
      have g:(storeCells a (news.take (r*z))).run prog w= .ok () w':=g;simp[Builtin.copy_,run_underlying hu,sizeOf,typeInfo,hi,K,hlen,F,J,g,goInt]
    refine xw (by grind [gd,Op.operands,Call.operands]) fx (v:= .I (r:Int)) (w':=w') ?_ ⟨_,B,ρ,_,hc,Up.refl ρ,qa2,qc9,rfl⟩ trivial;simp[execOp,resolve,invoke,builtin,fR h1,fR O,V]
   have gt:∀(id d j n k:Nat) (p:At),va= .S p.b (j*d) n k->ρ[id]? =some p->cpT σ c z id d j n q new=res->xs prog fD fC [] gr.gS full (Good w0 ρ c res Y dst) [⟨dst,.call {callee:= .builtin .copy,args:=⟨[x,y]⟩,argTypes:=⟨[t,u]⟩},R,pos,af,none⟩] Y w:=λid d j n k p D C h=>by
    obtain⟨M,g3⟩:=fS h hr;have M:=jq M;rw[gV]at g3;rcases yc (Nat.min q n)with h0|h0
    .rw[h0]at g3;refine go _ n k 0 (.n .i64 0) σ w D h0 ?_ g3 ⟨rfl,iF _⟩ hM;rw[tN];rfl
    .obtain⟨r,H⟩:∃r,Nat.min q n=r+1:=lX;have U:r+1<=q:=by rw[<-H];exact Nat.min_le_left _ _
     rw[H]at g3;have g4:(fP (new.take (Nat.mul (r+1) z)) λl=>fN (Nat.mul j z) λo=>SN σ id o l λσ=>lnK σ c (r+1))=res:=g3;rw[nQ,gV]at g4;have Z:=E.len;have aa:=G.len;have hle:(r+1)*z<=q*z:=qz z U;have ab:0<(r+1)*z:=fM
     .obtain⟨B,g5,g6,g7,g8,_⟩:=sZ hr hM g4 C (G.take ((r+1)*z)) fM;obtain⟨S,g9⟩:=fS g5 hr;refine go _ n k (r+1) _ B _ D H ?_ g9 ⟨rfl,jg S⟩ g8;have g:=run_storeCells_cells (P:=prog) p.b (j*d) (news.take ((r+1)*z)) 0 w fM fM ((G.take _).cells)
      grind
   rcases kS hr g2 with⟨e0,g3⟩|⟨id,d,j,n,e0,g3⟩|⟨id,d,j,n,ad,e0,g3⟩|⟨_,_,_,_,e0,g3⟩|⟨l,e0,g3⟩|⟨id,o,e0,g3⟩<;>subst e0
   .exact go none 0 0 0 _ σ w h3 fM fx g3 ⟨rfl,iF _⟩ hM
   .obtain⟨p,C,_,_,_,rfl⟩:=h3;exact gt id d j n _ p fx C g3
   .obtain⟨p,C,_,_,rfl⟩:=h3;exact gt id d j n _ p fx C g3
   .obtain⟨A,k,rfl,_⟩:=SR.Ei h3;refine go A 0 k 0 _ σ w fx fM ?_ g3 ⟨rfl,iF _⟩ hM;cases A with
    |none=>rfl
    |some a=>
     rw[tN];rfl
   .exact absurd g3.symm hr
   .exact absurd g3.symm hr
  .exact absurd h.symm hr
 .exact absurd h.symm hr
theorem ado (h:(clW m t x).f ih e σ c=res):xs prog fD fC [] gr.gS full (Good w0 ρ c res Y dst) [⟨dst,.call {callee:= .builtin .clear,args:=⟨[x]⟩,argTypes:=⟨[t]⟩},R,pos,af,none⟩] Y w:=by
 unfold clW at h;split at h
 .rename_i el z G;obtain⟨hu,N⟩:=iZ G;split at h
  .rename_i zs K;split at h
   .rename_i k1 k2;rw[iT,ru]at h;have k1:=jq k1;have k2:=jg k2;obtain⟨i,v,hi,I,E⟩:=sa (ρ:=ρ) K;obtain⟨a,va,h1,y,g1⟩:=gq hr hE h
    have none:∀(A:Option Addr) (k:Nat),va= .slice A 0 k->c (.t []) σ=res->xs prog fD fC [] gr.gS full (Good w0 ρ c res Y dst) [⟨dst,.call {callee:= .builtin .clear,args:=⟨[x]⟩,argTypes:=⟨[t]⟩},R,pos,af,none⟩] Y w:=λA k B hc=>by
     subst B
     have D:(Builtin.clear_ #[t] R #[.slice A 0 k]).run prog w= .ok (.tuple #[]) w:=by
      cases A<;>simp[Builtin.clear_,run_underlying hu]
     refine xw (v:= .tuple #[]) (w':=w) (by grind [gd,Op.operands,Call.operands]) fx ?_ ⟨_,σ,ρ,_,hc,Up.refl ρ,⟨[],.nil,rfl⟩,hM,rfl⟩ trivial;simp[execOp,resolve,invoke,builtin,fR h1,D]
    have gt:∀(id d j n k:Nat) (p:At),va= .slice (some ⟨p.b,j*d,Option.none⟩) n k->ρ[id]? =some p->clT σ c z zs id d j n=res->xs prog fD fC [] gr.gS full (Good w0 ρ c res Y dst) [⟨dst,.call {callee:= .builtin .clear,args:=⟨[x]⟩,argTypes:=⟨[t]⟩},R,pos,af,Option.none⟩] Y w:=λid d j n k p B g h=>by
     obtain⟨u,g3⟩:=fS h hr;have u:=jq u;cases n with
     |zero=>exact none _ k B g3
     | succ n=>
      have g4:(fP (rep zs (n+1)) λl=>fN (Nat.mul j z) λo=>SN σ id o l λσ=>c (.t []) σ)=res:=g3;rw[nQ,gV]at g4;have C:=yF E (n+1);rw[k1]at C;have hlen:(rep zs (n+1)).length=(n+1)*z:=by rw[yq,k1]
      have M:0<(n+1)*z:=fM;obtain⟨L,g5,g6,g7,g8,_⟩:=sZ hr hM g4 g C fy;subst B;have F:=run_storeCells_cells (P:=prog) p.b (j*d) (madeCells v.cells ((n+1)*z)).toList 0 w (by rw[u];simpa using g6) (by rw[u];simpa using g7) C.cells;rw[kB]at F;have H:v.cells.size=z:=by rw[<-k1,<-py,E.len]
      have J:Builtin.zeroCells v.cells (n+1)=madeCells v.cells ((n+1)*z):=by
       unfold Builtin.zeroCells madeCells;rw[H]
      have D:(Builtin.clear_ #[t] R #[.slice (some ⟨p.b,j*d,Option.none⟩) (n+1) k]).run prog w= .ok (.tuple #[]) (w.setCells p.b (j*d) (madeCells v.cells ((n+1)*z)).toList):=by
       simp[Builtin.clear_,run_underlying hu,zeroValue,typeInfo,hi,I,J,F]
      rw[u]at D;refine xw (v:= .tuple #[]) (by grind [gd,Op.operands,Call.operands]) fx (w':=w.setCells p.b (j*z) (madeCells v.cells ((n+1)*z)).toList) ?_ ⟨_,L,ρ,_,g5,Up.refl ρ,⟨[],.nil,rfl⟩,g8,rfl⟩ trivial
      simp_all [execOp,resolve,invoke,builtin,fR]
    rcases kS hr g1 with⟨e0,g3⟩|⟨id,d,j,n,e0,g3⟩|⟨id,d,j,n,O,e0,g3⟩|⟨_,_,_,_,e0,g3⟩|⟨l,e0,g3⟩|⟨id,o,e0,g3⟩<;>subst e0
    .exact none Option.none 0 y g3
    .obtain⟨p,g,_,_,_,rfl⟩:=y;exact gt id d j n _ p fx g g3
    .obtain⟨p,g,_,_,rfl⟩:=y;exact gt id d j n _ p fx g g3
    .obtain⟨A,k,rfl,_⟩:=SR.Ei y;exact none A k fx g3
    .exact absurd g3.symm hr
    .exact absurd g3.symm hr
   .exact absurd h.symm hr
  .exact absurd h.symm hr
 .exact absurd h.symm hr
omit hr hE hM in
theorem Wz {k0 k1:kw} {a:Int} (g:gh Y x=some (.int k1 a)) (f:kindOf s=some k0) (ht:kindOf t=some k) {K:Env->i5->Prop} {H:i5->Prop} 
  (h:xs prog fD fC hs H full K ii ((d,.int k (k.wrap a))::Y) w):xs prog fD fC hs H full K (⟨some d,.convert s t x,R,pos,af,none⟩::ii) Y w:=by
 exact y16
end
end
theorem ON {d:i9} (hs:w.shape? b=some (d,n)) {g:Nat} (h:Bk w g t cs):Bk (w.freeze ⟨b,n,none⟩ 1) g t cs:=by
 obtain⟨f,h,u⟩:=h;unfold World.freeze;rw[if_neg fU]
 by_cases m:b=g
 .subst m
  have v:n=cs.size:=by
   unfold World.shape? at hs;rw[h]at hs;have:=jb hs;exact fM
  refine⟨if f.1==f.2 then(n,n+1)else(min f.1 n,max f.2 (n+1)),?_,.inl ?_⟩<;>grind
 .refine⟨f,?_,u⟩
  grind
def R6 (P:Program) (a:Addr) (w:i5):∃w',(markStringish a).run P w= .ok () w'/\Fr (λk=>k=a.block) w w'/\(∀g t cs,Bk w g t cs->Bk w' g t cs)/\∀g l,vO w g l->vO w' g l:=by
 cases hs:w.shape? a.block with
 |none=>simp_all [markStringish,Fr.refl]
 |some p=>
  obtain⟨f,n⟩:=p;have d:Fr (λk=>k=a.block) w (w.freeze ⟨a.block,n,none⟩ 1):=⟨rfl,rfl,rfl,by simp[World.freeze],by grind [World.freeze]⟩;refine⟨w.freeze ⟨a.block,n,none⟩ 1,by simp[markStringish,hs],d,by grind [ON],λg l h=>h.fr d λe=>?_⟩;have e:g=a.block:=e;subst e;obtain⟨es,clock,h1,_⟩:=h
  grind [World.shape?]
section
variable {m:Nat} {ih:Cl} {e:En} {σ:Mem} {c:Kt} {res:Rs} {ρ:Pl} {Y:Env} {w0:Fm} {w:i5} {full:Array li} {d:Tmp} {dst:Option Tmp} {R:i9} {pos:String} {af:Array Edge} (hr:res≠ .no)
include hr
theorem yB {ρ:Pl}:∀{l:ip SV} {vs:ip i6} {k:ip Nat->Rs},byK l k=res->j1 ρ l vs->∃r,r.length=l.length/\(∀c∈r,c<256)/\vs=(jI r).map (λb=>Value.int .u8 (b.toNat:Int))/\k r=res
 |[],vs,k,h,d=>by
  cases d;exact⟨[],rfl,fM,rfl,h⟩
 | x::l,vs,k,h,d=>by
  cases d with
  |cons h1 t=>
   obtain⟨q,a,e0,g1⟩:=iz hr (show uR (.v x) (λq a=>tj q .u8 (byK l λr=>k (a::r)))=res from h);obtain⟨g,g2⟩:=iD hr g1;obtain⟨r,g3,g4,g5,g6⟩:=yB g2 t;have m:x= .n q a:=by injection e0
   subst m;subst g;obtain⟨_,h3,f⟩:=h1;have u:a<256:=by have f:a<=255:=f;omega
   grind [jI,UInt8.toNat_ofNat',Nat.mod_eq_of_lt]
theorem LW {r:Rs} (h:rvK c r=res):∃v e' d,r= .mk (.val v) e' d/\c v d=res:=by
 cases r with
 |no=>exact absurd h.symm hr
 |mk x e' d=>
  cases x with
  |val v=>exact⟨v,e',d,rfl,h⟩
  |_=>exact absurd h.symm hr
variable (hE:ER m ρ e Y) (hM:MR w0 ρ σ w)
include hE hM
theorem aeo (h:(YE m s t x).f ih e σ c=res):xs prog fD fC [] gr.gS full (Good w0 ρ c res Y (some d)) [⟨some d,.convert s t x,R,pos,af,none⟩] Y w:=by
 unfold YE at h;split at h
 .rename_i k hk;split at h
  .rename_i k0 F;obtain⟨a,v,h1,g,g1⟩:=gq hr hE (show(iG m x).f e _=res from h);rcases oT hr g1 with⟨k1,b,e0,g2⟩|⟨k1,b,e0,g2⟩<;>subst e0
   .exact y44
   .exact y44
  .rename_i F;split at h
   .rename_i hu;obtain⟨a,v,h1,g,g1⟩:=gq hr hE fy;obtain⟨n,e0,g2⟩:=yQ hr g1;subst e0;obtain⟨rfl,B⟩:=g
    have M:floatToIntVal .f64 (fw n) .i64=some (n:Int):=by
     unfold floatToIntVal;rw[Ra fy];dsimp only;rw[if_pos (by grind [IntKind.min,IntKind.max,IntKind.signed,IntKind.bits])]
    have E:fD s=false:=by unfold fD;rw[F];rfl
    have u:fC t=false:=by
     cases L:fC t with
     |false=>rfl
     |true=>
      have ao:=h7 L
      simp_all [iN]
    refine xw (v:= .I (n:Int)) (w':=w) (by grind [gd,Op.operands]) (by simp[cls,E,u]) ?_ ⟨_,σ,ρ,_,g2,Up.refl ρ,⟨rfl,by show n<=9223372036854775807;omega⟩,hM,rfl⟩ trivial;simp[execOp,fR h1,run_convert_float_int (P:=prog) w s t .f64 .i64 (fw n) n (by rw[hu];rfl) (iN hk) M]
   .exact absurd h.symm hr
 .rename_i hk;have E:fD t=false:=by unfold fD;rw[hk];rfl
  split at h
  .rename_i u
   have S:ja fD fC [] ⟨some d,.convert s t x,R,pos,af,none⟩= .r:=by
    simp[ja,cls,E,u,n4]
   split at h
   .rename_i Q;obtain⟨a,v,h1,g,g1⟩:=gq hr hE h;obtain⟨l,e0,g2⟩:=lG hr g1;subst e0;have D:=g;obtain⟨rfl,_⟩:=g;refine gW fx (by grind [gd,Op.operands]) ?_;rw[S];refine⟨_,?_,_,σ,ρ,_,g2,Up.refl ρ,D,hM,rfl⟩
    simp_all [execOp,convert,fR,run_underlying,h7]
   .split at h
    .rename_i el J;split at h
     .rename_i G;obtain⟨hu,ak⟩:=iZ J;obtain⟨a,v,h1,g,g1⟩:=gq hr hE h;obtain⟨q,new,news,g2,B,qd0⟩:=ES (t:=s) hr hM g g1;obtain⟨r,f1,f2,f3,f4⟩:=yB hr g2 B;obtain⟨I,f5⟩:=fS f4 hr;have I:=jg I
      have hlen:(jI r).length=q:=by
       have:=qd0.len;rw[B.len]at this;simp[jI];omega
      refine gW fx (by grind [gd,Op.operands]) ?_;rw[S];refine⟨.U (jI r),?_,_,σ,ρ,_,f5,Up.refl ρ,⟨rfl,f2,I⟩,hM,rfl⟩
      have H:(convert s t v).run prog w= .ok (.U (jI r)) w:=by
       cases qd0 with
       | @sl A _ V _ aq ae aj=>
        cases A with
        |none=>
         have h0:=aj rfl;have C:jI r=[]:=fM;rw[run_convert_bytes_nil w s el hu (iN G) _ _ t (h7 u),C];rfl
        | some O=>
         have:=run_convert_bytes_back (P:=prog) w s t el O V (jI r) hu (iN G) (h7 u) (λj ah=>by
          refine ae O fx j _ ?_;rw[f3,qX,j9 ah]
          rfl)
         rw[hlen]at this;exact this
       |st au _=>
        grind
      simp_all [execOp,fR]
     .exact absurd h.symm hr
    .exact absurd h.symm hr
  .rename_i u;split at h
   .rename_i el J;obtain⟨hu,ak⟩:=iZ J;split at h
    .rename_i G;have T:cls fD fC (.convert s t x)= .w:=by simp[cls,E,u]
     split at h
     .rename_i Q;obtain⟨a,v,h1,g,g1⟩:=gq hr hE h;obtain⟨l,e0,g2⟩:=lG hr g1;rw[gV]at g2;obtain⟨ar,g3⟩:=fS g2 hr;rw[nQ]at g3;subst e0;obtain⟨rfl,h3,X⟩:=g;have H:=run_bytes_of_string (P:=prog) w s t el (su (jI l)) (h7 Q) hu (iN G);have U:(su (jI l)).size=l.length:=by rw[ky];simp[jI]
      have ag:=grownCap_ge w (su (jI l)).size 0 el;have hle:=grownCap_le_maxLen w (su (jI l)).size 0 el (by rw[U];exact X);generalize grownCap w (su (jI l)).size 0 el=k at H ag hle
      have ap:(bytesRow (su (jI l)) k).size=k:=by
       simp only[bytesRow,IN,Array.size_map,Array.size_replicate];show(su (jI l)).size+_=_
       omega
      refine xw (by grind [gd,Op.operands]) T (v:= .S w.heap.size 0 (su (jI l)).size k) (w':=w.drew.alloc (.cells (bytesRow (su (jI l)) k) el ((bytesRow (su (jI l)) k).size,(bytesRow (su (jI l)) k).size+1))) ?_ ?_ trivial
      .simp_all [execOp,fR]
      .have Z:Bk (w.drew.alloc (.cells (bytesRow (su (jI l)) k) el ((bytesRow (su (jI l)) k).size,(bytesRow (su (jI l)) k).size+1))) w.heap.size el (bytesRow (su (jI l)) k):=⟨_,heap_alloc_new w.drew _,.inl (gJ _)⟩;obtain⟨an,q1,q2,q3⟩:=pN hr hM k 1 g3 fy Z (by grind [List.getElem?_eq_some_iff,bytesRow,Array.getElem?_append_left,su]) ((Fr.drew _ w).t (Fr.alloc _ _ _)) (z1 ρ h3);refine⟨_,an,_,_,q1,Up.snoc _ _,⟨⟨w.heap.size,k,1⟩,q3,rfl,by grind,hle,by rw[U];simp⟩,q2,rfl⟩
     .split at h
      .rename_i ad;have L:=jq ad;subst L;obtain⟨a,v,h1,g,g1⟩:=gq hr hE h
       have go:∀(A:Addr) (n k:Nat),v= .slice (some A) n k->w0.may A.block->c a σ=res->xs prog fD fC [] gr.gS full (Good w0 ρ c res Y (some d)) [⟨some d,.convert s s x,R,pos,af,none⟩] Y w:=λA n k M qa3 hc=>by
        obtain⟨w',H,aa,ab,ai⟩:=R6 prog A w;refine xw (by grind [gd,Op.operands]) T (v:=v) (w':=w') ?_ ⟨_,σ,ρ,_,hc,Up.refl ρ,g,hM.as aa qa3 ab ai,rfl⟩ trivial;subst M;simp[execOp,fR h1,convert,run_underlying hu,run_underlying (iN G),H]
       rcases kS hr g1 with⟨e0,g3⟩|⟨id,am,j,n,e0,g3⟩|⟨id,am,j,n,av,e0,g3⟩|⟨_,_,_,_,e0,g3⟩|⟨l,e0,g3⟩|⟨id,o,e0,g3⟩<;>subst e0
       .exact absurd g3.symm hr
       .have D:=g;obtain⟨p,K,_,_,_,C⟩:=D;exact y35
       .have D:=g;obtain⟨p,K,_,_,C⟩:=D;exact y35
       .exact absurd g3.symm hr
       .exact absurd g3.symm hr
       .exact absurd g3.symm hr
      .exact absurd h.symm hr
    .exact absurd h.symm hr
   .split at h
    .rename_i k0 hu F;obtain⟨a,v,h1,g,g1⟩:=gq hr hE fy;obtain⟨k1,n,e0,g2⟩:=iz hr g1;obtain⟨B,g3⟩:=fS g2 hr;have B:=jg B;subst e0;obtain⟨rfl,_⟩:=g;refine xw (v:= .float .f64 (fw n)) (w':=w) (by simp[gd,Op.operands,h1]) (by simp[cls,E,u]) ?_ ⟨_,σ,ρ,_,g3,Up.refl ρ,⟨rfl,B⟩,hM,rfl⟩ trivial;have W:ev Y x= .int k1 (n:Int):=fR h1;simp[execOp,W,run_convert_int_float (P:=prog) w s t k1 .f64 (n:Int) (by simp_all [iN]) hu,floatOfInt,fw]
    .exact absurd h.symm hr
def kz (w0:Fm) (ih:Cl):Prop:=∀f al σ v e' g (ρ:Pl) vs w,ih f al σ= .mk (.val v) e' g->Bz ρ al vs->MR w0 ρ σ w->fQ prog f vs.toArray w (λval w'=>∃d,Up ρ d/\AR d v val/\MR w0 d g w')
omit hr hE hM in
theorem Ix {al:ip AV} {cl:ip SV} {cs:ip i6} (d:Bz ρ al vs) (hc:j1 ρ cl cs):Bz ρ (al++cl.map AV.v) (vs++cs):=by
 induction d with
 |nil=>
  show Bz ρ (cl.map AV.v) cs
  induction hc with
  |nil=>exact .nil
  |cons h1 _ ih=>exact .cons h1.2 ih
 |cons h1 _ ih=>exact .cons h1 ih
omit hE hM in
theorem Vh {al:ip AV} (d:Bz ρ al vs) (h:ad3 σ c al=res):∃a b q,vs=[.int .u64 (a:Nat),.int .u64 (b:Nat),.int .u64 (q:Nat)]/\a<18446744073709551616/\b<18446744073709551616/\q<=1/\c (.t [.v (.n .u64 ((a+b+q)% 18446744073709551616)),.v (.n .u64 ((a+b+q)/18446744073709551616))]) σ=res:=by
 cases d with
 |nil=>exact absurd h.symm hr
 | cons h1 d=>
  cases d with
  |nil=>exact absurd h.symm hr
  | cons f d=>
   cases d with
   |nil=>exact absurd h.symm hr
   | cons h3 d=>
    cases d with
    |cons _ _=>exact absurd h.symm hr
    |nil=>
     obtain⟨k1,a,g,q1⟩:=iz hr (show adR σ c _ _ _=res from h);obtain⟨p1,q2⟩:=iD hr q1;obtain⟨k2,b,m,q3⟩:=iz hr q2;obtain⟨p2,q4⟩:=iD hr q3;obtain⟨k3,q,u,q5⟩:=iz hr q4;obtain⟨w,q6⟩:=iD hr q5;obtain⟨g2,g1⟩:=fS q6 hr;clear q1 q2 q3 q4 q5 q6 h;subst g;subst m;subst u;rw[gV,gV,gV]at g1;subst p1;subst p2;subst w;obtain⟨rfl,h1⟩:=h1;obtain⟨rfl,f⟩:=f;obtain⟨rfl,h3⟩:=h3;have h1:a<=18446744073709551615:=h1;have f:b<=18446744073709551615:=f;exact⟨a,b,q,rfl,fy,by omega,lX,g1⟩
def aeb (f:Nat):Prop:=∀(a b q:Nat) (w:i5),a<18446744073709551616->b<18446744073709551616->q<=1->(callFunc f #[.int .u64 (a:Int),.int .u64 (b:Int),.int .u64 (q:Int)]).run prog w= .ok (.value (.tuple #[.int .u64 (((a+b+q)% 18446744073709551616:Nat):Int),.int .u64 (((a+b+q)/18446744073709551616:Nat):Int)])) w
omit hr hE hM in
theorem ZG (h:Rg=some f):aeb f:=by
 have e:246=f:=jb h;subst e;intro a b q w d g hq;rw[run_callFunc_extern func246 fE fE fE (e:=add64Entry) fE,run_add64 a b q fy fy fy fy];simp only[Result.andThen]
 congr 5<;>omega
theorem RR (D:kz w0 ih) {k:Callee} {a:ip i7} {ts:ip i9} (h:(caW m k a ts).f ih e σ c=res) (K:∀b,k≠ .builtin b):xs prog fD fC [] gr.gS full (Good w0 ρ c res Y dst) [⟨dst,.call {callee:=k,args:=a.toArray,argTypes:=ts.toArray},R,pos,af,none⟩] Y w:=by
 unfold caW at h;split at h
 .rename_i f;split at h
  .rename_i B;obtain⟨al,vs,h1,d,g1⟩:=rX hr hE fy;obtain⟨v,e',n,g2,g3⟩:=LW hr g1;refine fI h1 B (D f al σ v e' n ρ vs w g2 d hM) (λval w' u=>?_);obtain⟨C,r1,r2,r3⟩:=u;exact⟨v,n,C,val,g3,r1,r2,r3,rfl⟩
  .split at h
   .rename_i q hq;split at h
    .rename_i M;obtain rfl:=jq M;obtain⟨al,vs,h1,d,g1⟩:=rX hr hE fy;obtain⟨x,y,z,rfl,E,F,G,g2⟩:=Vh hr d g1;obtain⟨k1,k2⟩:=oh h1;refine xw (v:= .tuple #[.int .u64 (((x+y+z)% 18446744073709551616:Nat):Int),.int .u64 (((x+y+z)/18446744073709551616:Nat):Int)]) (by grind [gd,Op.operands,Call.operands,gh]) fx (w':=w) ?_ ?_ trivial
     .have N:ev Y (.func q)= .func (.func q) #[] #[]:=rfl;have Q:=ZG hq x y z w E F G
      grind [execOp,resolve,Deferred.ofValue,invoke]
     .refine⟨_,σ,ρ,_,g2,Up.refl ρ,?_,hM,rfl⟩;exact⟨_,.cons ⟨rfl,by show _<=18446744073709551615;omega⟩ (.cons ⟨rfl,by show _<=18446744073709551615;omega⟩ .nil),rfl⟩
    .exact absurd h.symm hr
   .exact absurd h.symm hr
 .rename_i t;obtain⟨q,h1,g1⟩:=qu hr fy;obtain⟨O,d,h3⟩:=hE t q h1;obtain⟨al,vs,H,I,g2⟩:=rX hr hE g1;obtain⟨g,cl,e0,g3⟩:=T3 hr g2;obtain⟨B,g4⟩:=fS g3 hr;rw[nQ]at g4;obtain⟨v,e',n,g5,g6⟩:=LW hr g4;subst e0;obtain⟨cs,J,rfl⟩:=h3;have L:=D g _ σ v e' n ρ (vs++cs) w g5 (Ix I J) hM;refine xa (cap:=cs.toArray) d H B (by rw[List.append_toArray];exact L) (λval w' u=>?_);obtain⟨C,r1,r2,r3⟩:=u;exact⟨v,n,C,val,g6,r1,r2,r3,rfl⟩
 .rename_i b;exact absurd fx (K b)
 .exact absurd h.symm hr
end
def G3 (h:mpT t=true):∃g f,prog.underlying t=some (.map g f)/\prog.underlying g=some (.int .i64)/\∀w:i5,(zeroValue f).run prog w= .ok (.I 0) w:=by
 unfold mpT at h;split at h
 .rename_i g f hu;split at h
  .rename_i hk;refine⟨g,f,hu,iN hk,λw=>?_⟩;unfold ZP at h;split at h
   .rename_i n d;have h:=jq h;subst h;cases hi:prog.info? f with
    |none=>rw[hi]at d;cases d
    |some i=>
     rw[hi]at d;have d:i.zero=some (.I (Int.ofNat 0)):=d;simp[zeroValue,typeInfo,hi,d]
   .cases h
  .cases h
 .cases h
theorem RK {f:i9} (h:ZP ((prog.info? f).bind (·.zero))=true) (w:i5):(zeroValue f).run prog w= .ok (.I 0) w:=by
 unfold ZP at h;split at h
 .rename_i n d;have h:=jq h;subst h;cases hi:prog.info? f with
  |none=>rw[hi]at d;cases d
  |some i=>
   rw[hi]at d;have d:i.zero=some (.I (Int.ofNat 0)):=d;simp[zeroValue,typeInfo,hi,d]
 .cases h
def Sn (h:mpS t=true):∃f d,prog.underlying t=some (.map f d)/\prog.underlying f=some .string/\∀w:i5,(zeroValue d).run prog w= .ok (.I 0) w:=by
 unfold mpS at h
 grind [RK]
def TK {g:Nat} (m:vO w g []) (t d f:i9) (hu:prog.underlying t=some (.map d f)) (hk:prog.underlying d=some .string) (v:(zeroValue f).run prog w= .ok (.I 0) w) (s:ByteArray):
  (Instr.lookup t (.map (some g)) (.string s) false).run prog w= .ok (.I 0) w:=by
 obtain⟨es,clock,h1,x⟩:=m;have he:es.toList=[]:=lX;have hc:(Instr.checkKey es.isEmpty 10000 d (.string s)).run prog w= .ok () w:=by grind [MapKept.run_checkKey,MapKept.IsKey]
 have u:(getObj g).run prog w= .ok (.map es clock) w:=by simp[getObj,Sem.run,h1]
 have n:(Instr.findKey d (.string s) es.toList).run prog w= .ok none w:=by
  rw[he];simp[Instr.findKey,run_underlying hk,Instr.findNow]
 simp only[Instr.lookup,tg,run_underlying hu,tp,u,hc,P7,n];simp[v]
def RU {l:ip (Nat×Nat)} {r:Rs} (d:res≠ .no) (h:aa3 l r=res):l=[]/\r=res:=by
 cases l with
 |nil=>exact⟨rfl,h⟩
 |cons _ _=>exact absurd h.symm d
def Ed {x:AV} {f:Nat->Rs} (d:res≠ .no) (h:onM x f=res):∃id,x= .v (.mp id)/\f id=res:=by
 cases x with
 |v x=>cases x<;>first|exact⟨_,rfl,h⟩|exact absurd h.symm d
 |_=>exact absurd h.symm d
def Ec {α:Type} {x:Option α} {f:α->Rs} (d:res≠ .no) (h:asK x f=res):∃a,x=some a/\f a=res:=by
 cases x with
 |none=>exact absurd h.symm d
 |some a=>exact⟨a,rfl,h⟩
theorem Ba (a:Nat):∀l:ip (Nat×Nat),Bv (a:Int) (ints l)=(Io a l).map Int.ofNat
 |[]=>rfl
 |(i,x)::l=>by
  rw[sk];show(if((i:Nat):Int)=(a:Int)then some (x:Int)else Bv (a:Int) (ints l))=_
  rw[Ba a l]
  grind
def MR.YH {d:Mem} (h:MR w0 ρ d w) (t:Ext w w') (L:vO w' w.heap.size []):MR w0 (ρ++[⟨w.heap.size,0,0⟩]) ⟨d.n+1,d.h,(d.n,[])::d.mp⟩ w':=by
 have hu:=Up.snoc ρ ⟨w.heap.size,0,0⟩;have N:(ρ++[(⟨w.heap.size,0,0⟩:At)])[d.n]? =some ⟨w.heap.size,0,0⟩:=by rw[<-h.len];simp
 have old:∀id o p,(ig d id o).isSome=true->(ρ++[(⟨w.heap.size,0,0⟩:At)])[id]? =some p->ρ[id]? =some p:=λid o p hs C=>by
  obtain⟨x,B⟩:=rB.1 hs;obtain⟨q,_,_,_,h1,_⟩:=h.at_ B
  grind
 have hm:=h.AH.to (w0':=w0) hu (λ_ _ u=>u.ext t) λ_ _ _ u=>u
 refine⟨by simp[h.len],λid O h1 F=>?_,h.old.te t,λid o p hs C=>h.xF id o p hs (old id o p hs C),h.pre,λid g o o' p m y f a2 a3 a4=>h.apart id g o o' p m y f a2 (old id o p f a3) (old g o' m a2 a4),λid l h1=>?_,λid g l l' p m y f a2 a3 a4=>?_⟩
 .obtain⟨p,cs,h3,G,H,I⟩:=h.gO id O h1 F;refine⟨p,cs,hu _ _ h3,G.ext t,H,λo x B=>?_⟩;obtain⟨v,J,K⟩:=I o x B;exact⟨v,J,K.up hu⟩
 .rw[sk]at h1;split at h1
  .rename_i M;subst M;obtain rfl:=jb h1;exact⟨_,N,L,.inl h.old.size⟩
  .exact hm.1 id l h1
 .have xF:∀id l p,Io id d.mp=some l->(ρ++[(⟨w.heap.size,0,0⟩:At)])[id]? =some p->p.b<w.heap.size:=λid l p D E=>by
   obtain⟨q,c1,c2,_⟩:=h.AH.1 id l D;have:=hu _ _ c1;rw[E]at this;rw[jb this];exact c2.lt
  rw[sk]at f a2;split at f
  .grind
  .split at a2
   .grind
   .exact hm.2 id g l l' p m y f a2 a3 a4
def MR.YB {d:Mem} {id:Nat} {l l':ip (Nat×Nat)} (h:MR w0 ρ d w) (m:Io id d.mp=some l) (t:ρ[id]? =some p) (f:Fr (· =p.b) w w') (G:vO w' p.b (ints l')):MR w0 ρ ⟨d.n,d.h,(id,l')::d.mp⟩ w':=by
 obtain⟨q,h1,x,h3⟩:=h.AH.1 id l m;rw[t]at h1;obtain rfl:=jb h1;refine⟨h.len,λi E g1 g2=>?_,h.old.trans f λj H e=>?_,h.xF,h.pre,h.apart,λi k g1=>?_,λi u k g q F D v a2 a3 a4=>?_⟩
 .obtain⟨q,cs,g3,g4,g5⟩:=h.gO i E g1 g2;exact⟨q,cs,g3,g4.fr f λe=>g4.Kc (by rw[show q.b=p.b from e];exact x),g5⟩
 .have e:j=p.b:=e;subst e;exact h3.resolve_left fy
 .rw[sk]at g1;split at g1
  .grind
  .rename_i C;obtain⟨q,g2,g3,g4⟩:=h.AH.1 i k g1;exact⟨q,g2,g3.fr f λe=>h.AH.2 id i l k p q C m g1 t g2 fy,g4⟩
 .have get:∀i k,Io i ((id,l')::d.mp)=some k->∃g,Io i d.mp=some g:=by grind [sk]
  obtain⟨b,y⟩:=get i k v;obtain⟨b',B⟩:=get u g a2;exact h.AH.2 i u b b' q F D y B a3 a4
section
variable {m:Nat} {ih:Cl} {e:En} {σ:Mem} {c:Kt} {res:Rs} {ρ:Pl} {Y:Env} {w0:Fm} {w:i5} {full:Array li} {d:Tmp} {R:i9} {pos:String} {af:Array Edge} (hr:res≠ .no)
include hr
theorem aaZ (u:MR w0 ρ σ w) (h:(mkM t).f ih e σ c=res):xs prog fD fC [] gr.gS full (Good w0 ρ c res Y (some d)) [⟨some d,.makeMap t none,R,pos,af,none⟩] Y w:=by
 unfold mkM at h;split at h
 .have h:fN (Nat.add σ.n 1) (λn=>c (.v (.mp σ.n)) ⟨n,σ.h,(σ.n,[])::σ.mp⟩)=res:=h;rw[gV]at h;exact ZT λw' g m hs=>⟨_,_,_,_,h,Up.snoc ρ ⟨w.heap.size,0,0⟩,⟨⟨w.heap.size,0,0⟩,by grind [MR.len],rfl⟩,u.YH m g,rfl⟩
 .exact absurd h.symm hr
variable (hE:ER m ρ e Y) (hM:MR w0 ρ σ w)
include hE hM
theorem adY (h:(lkW m t x y).f ih e σ c=res):xs prog fD fC [] gr.gS full (Good w0 ρ c res Y (some d)) [⟨some d,.lookup t x y true,R,pos,af,none⟩] Y w:=by
 unfold lkW at h;split at h
 .rename_i ht;obtain⟨L,K,hu,hk,J⟩:=G3 ht;obtain⟨a,va,h1,D,q0⟩:=gq hr hE h;clear h;obtain⟨b,M,h3,E,q1⟩:=gq hr hE q0;clear q0;obtain⟨id,u,q2⟩:=Ed hr q1;clear q1;obtain⟨k,n,B,q3⟩:=iz hr q2;clear q2;obtain⟨C,q4⟩:=iD hr q3;clear q3;obtain⟨l,H,h⟩:=Ec hr q4;clear q4;subst u;subst B;subst C;obtain⟨p,I,rfl⟩:=D;obtain⟨rfl,_⟩:=E;obtain⟨q,hq,F,_⟩:=hM.AH.1 id l H;rw[I]at hq;obtain rfl:=jb hq;refine xlk hu hk J F h1 h3 ?_;have G:=Ba n l;show Good w0 ρ c res Y (some d) ((d,.tuple #[.I ((Bv (n:Int) (ints l)).getD 0),.bool (Bv (n:Int) (ints l)).isSome])::Y) w
  rw[G];unfold lkK at h;split at h
  .rename_i v g;obtain⟨hle,h⟩:=fS h hr;rw[g];exact⟨_,σ,ρ,_,h,Up.refl ρ,⟨_,.cons (x:= .v (.n .i64 v)) ⟨rfl,jg hle⟩ (.cons (x:= .v (.b true)) fx .nil),rfl⟩,hM,rfl⟩
  .rename_i g;rw[g];exact⟨_,σ,ρ,_,h,Up.refl ρ,⟨_,.cons (x:= .v (.n .i64 0)) ⟨rfl,iF _⟩ (.cons (x:= .v (.b false)) fx .nil),rfl⟩,hM,rfl⟩
 .exact absurd h.symm hr
theorem aey (h:(leW m t x y).f ih e σ c=res):xs prog fD fC [] gr.gS full (Good w0 ρ c res Y (some d)) [⟨some d,.lookup t x y false,R,pos,af,none⟩] Y w:=by
 unfold leW at h;split at h
 .rename_i ht;obtain⟨I,C,hu,hk,H⟩:=Sn ht;obtain⟨a,va,h1,D,q0⟩:=gq hr hE h;clear h;obtain⟨b,J,h3,E,q1⟩:=gq hr hE q0;clear q0;obtain⟨id,n,q2⟩:=Ed hr q1;clear q1;obtain⟨s,u,q3⟩:=lG hr q2;clear q2;obtain⟨l,F,h⟩:=Ec hr q3;clear q3;obtain⟨B,h⟩:=RU hr h;subst n;subst u;subst B;obtain⟨p,G,rfl⟩:=D;obtain⟨rfl,_⟩:=E;obtain⟨q,hq,g,_⟩:=hM.AH.1 id [] F;rw[G]at hq;obtain rfl:=jb hq;have g:vO w p.b []:=g;refine xw (v:= .I 0) (w':=w) (by grind [gd,Op.operands]) fx ?_ ⟨_,σ,ρ,_,h,Up.refl ρ,⟨rfl,iF _⟩,hM,rfl⟩ True.intro;simp[execOp,fR h1,fR h3,TK g t I C hu hk (H w)]
 .exact absurd h.symm hr
theorem aeJ {z:i7} (h:(muW m t x y z).f ih e σ c=res):xs prog fD fC [] gr.gS full (Good w0 ρ c res Y none) [⟨none,.mapUpdate t x y z,R,pos,af,none⟩] Y w:=by
 unfold muW at h;split at h
 .rename_i ht;obtain⟨Q,K,hu,hk,N⟩:=G3 ht;obtain⟨a,va,h1,E,q0⟩:=gq hr hE h;clear h;obtain⟨b,qd1,h3,F,q1⟩:=gq hr hE q0;clear q0;obtain⟨g,S,G,H,q2⟩:=gq hr hE q1;clear q1;obtain⟨id,v,q3⟩:=Ed hr q2;clear q2;obtain⟨k,n,B,q4⟩:=iz hr q3;clear q3;obtain⟨C,q5⟩:=iD hr q4;clear q4;obtain⟨O,n',e4,q6⟩:=iz hr q5;clear q5;obtain⟨D,q7⟩:=iD hr q6;clear q6;obtain⟨l,d,h⟩:=Ec hr q7;clear q7;subst v;subst B;subst C;subst e4;subst D;obtain⟨p,u,rfl⟩:=E;obtain⟨rfl,_⟩:=F;obtain⟨rfl,_⟩:=H;obtain⟨q,hq,I,_⟩:=hM.AH.1 id l d;rw[u]at hq;obtain rfl:=jb hq;unfold muK at h;split at h
  .exact absurd h.symm hr
  .rename_i M;rw[nQ]at h;refine aaa hu hk I (by grind [Bv,ints,Ba]) h1 h3 G λw' L J=>?_
   refine⟨_,_,ρ,undef,h,Up.refl ρ,rfl,hM.YB d u J ?_,rfl⟩
   grind [ints]
 .exact absurd h.symm hr
end
def XU {op:Op} (h:∀s t x,op≠ .convert s t x):Zi m op=JG m op:=by
 unfold Zi;split
 .exact absurd fx (h _ _ _)
 .rfl
section
variable {m:Nat} {ih:Cl} {e:En} {σ:Mem} {c:Kt} {res:Rs} {ρ:Pl} {Y:Env} {w0:Fm} {w:i5} {full:Array li} {d:Tmp} {R:i9} {pos:String} {af:Array Edge} (hr:res≠ .no)
include hr
theorem Tb {x:SV} {f:Nat->Rs} (h:bz1 x f=res) (u:CR ρ x v):∃q,f q=res/\(q<256\/∃p,ρ[q-256]? =some p/\p.b<256)/\v= .int .u8 ((oP ρ q).toNat:Int):=by
 unfold bz1 at h;split at h
 .rename_i a;obtain⟨_,h3,d⟩:=u;have g:a<256:=by have d:a<=255:=d;omega
  refine⟨a,h,.inl g,?_⟩;rw[h3];unfold oP;rw[if_pos g];simp only[wG,uJ g];rfl
 .rename_i id;obtain⟨_,p,h3,d,n,_⟩:=u;have t:p.b<256:=by have n:p.b<=255:=n;omega
  rw[gV]at h;have m:Nat.add 256 id-256=id:=by show 256+id-256=id;omega
  refine⟨_,h,.inr ⟨p,by rw[m];exact h3,t⟩,?_⟩;rw[d];unfold oP;rw[if_neg (by show ¬(256+id<256);omega),m,h3];simp only[wG,uJ t];rfl
 .exact absurd h.symm hr
theorem Mn:∀{l:ip SV} {vs:ip i6} {k:ip Nat->Rs},bzK l k=res->j1 ρ l vs->∃r,r.length=l.length/\(∀q∈r,q<256\/∃p,ρ[q-256]? =some p/\p.b<256)/\vs=(r.map (oP ρ)).map (λb=>Value.int .u8 (b.toNat:Int))/\k r=res
 |[],vs,k,h,d=>by
  cases d;exact⟨[],rfl,(by intro c hc;cases hc),rfl,h⟩
 | x::l,vs,k,h,d=>by
  cases d with
  | cons h1 f=>
   obtain⟨q,g1,g2,g3⟩:=Tb hr (show bz1 x (λq=>bzK l λr=>k (q::r))=res from h) h1;obtain⟨r,g4,g5,g6,g7⟩:=Mn g1 f;refine⟨q::r,by simp[g4],λc hc=>?_,?_,g7⟩
   .rcases iu.1 hc with rfl|hc
    .exact g2
    .exact g5 c hc
   .rw[g3,g6];rfl
variable (hE:ER m ρ e Y) (hM:MR w0 ρ σ w)
include hE hM
theorem adH (old:W.f ih e σ c=res->xs prog fD fC [] gr.gS full (Good w0 ρ c res Y (some d)) [⟨some d,.convert s t x,R,pos,af,none⟩] Y w)
  (h:(cuW m s t x W).f ih e σ c=res):xs prog fD fC [] gr.gS full (Good w0 ρ c res Y (some d)) [⟨some d,.convert s t x,R,pos,af,none⟩] Y w:=by
 unfold cuW at h;split at h
 .rename_i k k0 hk O;obtain⟨a,v,h1,B,h⟩:=gq hr hE (show(iG m x).f e _=res from h);unfold cuN at h;split at h
  .rename_i k1 Q;obtain⟨n,rfl,D,_⟩:=ry Q B;obtain⟨n',y,qd2⟩:=zh (A9 hr h) (n:Int);refine Wz h1 O hk ?_;rw[y];exact n5 hr hM h n' qd2
  .exact old h
 .rename_i hk;split at h
  .rename_i g;obtain⟨a,v,h1,B,g1⟩:=gq hr hE (show(iG m x).f e _=res from h);obtain⟨q,new,news,g2,D,F⟩:=ES (t:=s) hr hM B g1;unfold cuK at g2;split at g2
   .obtain⟨r,f1,f2,f3,f4⟩:=Mn hr g2 D;obtain⟨C,f5⟩:=fS f4 hr;have C:=jg C;unfold cuB at g;split at g
    .rename_i el u U M;split at g
     .rename_i G;have J:fD t=false:=by unfold fD;rw[hk];rfl
      have L:ja fD fC [] ⟨some d,.convert s t x,R,pos,af,none⟩= .r:=by
       simp[ja,cls,J,u,n4]
      obtain⟨hu,X⟩:=iZ M
      have hlen:(r.map (oP ρ)).length=q:=by
       have:=F.len;rw[D.len]at this;simp;omega
      refine gW fx (by simp[gd,Op.operands,h1]) ?_;rw[L];refine⟨.U (r.map (oP ρ)),?_,_,σ,ρ,_,f5,Up.refl ρ,⟨rfl,f2,C⟩,hM,rfl⟩
      have T:(convert s t v).run prog w= .ok (.U (r.map (oP ρ))) w:=by
       cases F with
       | @sl A _ I _ V K S=>
        cases A with
        |none=>
         have h0:=S rfl;have y:r.map (oP ρ)=[]:=BZ fy;rw[run_convert_bytes_nil w s el hu (iN G) _ _ t (h7 u),y];rfl
        | some E=>
         have:=run_convert_bytes_back (P:=prog) w s t el E I (r.map (oP ρ)) hu (iN G) (h7 u) (λj N=>by
          refine K E fx j _ ?_;rw[f3,qX,j9 N]
          rfl)
         rw[hlen]at this;exact this
       |st H _=>
        have:=h7 u;rw[hu]at H;cases H
      simp[execOp,fR h1,T]
     .cases g
    .cases g
   .exact old g2
  .exact old h
 .exact old h
end
theorem ER.put {m:Nat} {ρ:Pl} {e e':En} {Y:Env} {v:AV} {val:i6} {d:Option Nat} (h:ER m ρ e Y) (w:AR ρ v val) (he:∀t a,CO m e' t=some a->(d=some t/\a=v)\/(d≠some t/\CO m e t=some a)):ER m ρ e' (gr.put Y d val):=λt a f=>by
 rcases he t a f with⟨rfl,rfl⟩|⟨u,f⟩
 .grind [gr.put,kj]
 .obtain⟨g,h1,n⟩:=h t a f;cases d with
  |none=>exact⟨g,h1,n⟩
  |some d=>
   refine⟨g,?_,n⟩;show look ((d,val)::Y) t=some g
   grind [kj]
section
variable {m:Nat} {ih:Cl} {e:En} {σ:Mem} {res:Rs} {ρ:Pl} {Y:Env} {w0:Fm} {w:i5} (hr:res≠ .no)
include hr
omit hr in
theorem lJ {d:Option Nat} {v:AV} {c:En->Rs} (h:(Ig m d).f e v c=res):∃e',c e'=res/\e'.hs=e.hs/\e'.ms=e.ms/\∀t a,CO m e' t=some a->(d=some t/\a=v)\/(d≠some t/\CO m e t=some a):=by
 unfold Ig at h;cases d with
 |none=>grind
 | some d=>
  cases hk:kept m d with
  | true=>
   have n:JM d v e.vs (λvs=>c ⟨vs,e.ts,e.hs,e.ms⟩)=res:=by
    have g:(match kept m d with
     |true=>(⟨λe v c=>JM d v e.vs λvs=>c ⟨vs,e.ts,e.hs,e.ms⟩⟩:Wd)
     |false=>⟨λe v c=>c ⟨e.vs,(d,v)::e.ts,e.hs,e.ms⟩⟩).f e v c=res:=h
    rw[hk]at g;exact g
   obtain⟨l',h1,u⟩:=FL (t:=d) (v:=v) (l:=e.vs) (c:=λvs=>c ⟨vs,e.ts,e.hs,e.ms⟩)
   grind [CO,lC,Option.some.inj,kept]
  |false=>
   grind [kept,JM,CO,lC,Option.some.inj]
theorem Un {x:AV} {want:Bool} {a b:Rs} (h:bqK x want a b=res):(∃q,x= .v (.b q)/\((q==want)=true/\a=res\/(q==want)=false/\b=res))\/(x= .v .u/\b=res):=by
 cases x with
 | v x=>
  cases x with
  |b q=>
   have d:zB (eB q want) a b=res:=h
   grind [mc,xW]
  |u=>exact .inr ⟨rfl,h⟩
  |_=>exact absurd h.symm hr
 |_=>exact absurd h.symm hr
variable (ud:kz w0 ih) (hE:ER m ρ e Y) (hM:MR w0 ρ σ w)
include ud hE hM
omit ud in
theorem aaI {full:Array li} {c:Kt} {R:i9} {pos:String} {af:Array Edge} {b:Builtin} {a:ip i7} {ts:ip i9} (g:W7 d (.call {callee:= .builtin b,args:=a.toArray,argTypes:=ts.toArray})=true) (h:(bfW m b a ts).f ih e σ c=res):
  xs prog fD fC [] gr.gS full (Good w0 ρ c res Y d) [⟨d,.call {callee:= .builtin b,args:=a.toArray,argTypes:=ts.toArray},R,pos,af,none⟩] Y w:=by
 unfold bfW at h;split at h
 .cases d with
  |none=>cases g
  |some d=>exact ad6 hr hE hM h
 .exact ac7 hr hE hM h
 .exact adf hr hE hM h
 .exact ado hr hE hM h
 .cases d with
  |none=>cases g
  |some d=>
   obtain⟨p,q,y,E,h1,D,h3,C,g1⟩:=two hr hE h;obtain⟨u,e0,g2⟩:=yQ hr g1;obtain⟨x,B,g3⟩:=yQ hr g2;subst e0;subst B;obtain⟨rfl,n⟩:=h3;obtain⟨rfl,t⟩:=C;refine xw (v:= .complex .f64 (fw u) (fw x)) (w':=w) (by grind [gd,Op.operands,Call.operands]) fx ?_ ⟨_,σ,ρ,_,g3,Up.refl ρ,⟨rfl,n,t⟩,hM,rfl⟩ trivial
   simp_all [execOp,resolve,invoke,builtin,run_complex,fR]
 .cases d with
  |none=>cases g
  |some d=>
   obtain⟨p,y,h1,h3,g1⟩:=gq hr hE fy;obtain⟨u,x,e0,g2⟩:=LY hr g1;subst e0;obtain⟨rfl,n,t⟩:=h3;refine xw (v:= .float .f64 (fw u)) (w':=w) (by grind [gd,Op.operands,Call.operands]) fx ?_ ⟨_,σ,ρ,_,g2,Up.refl ρ,⟨rfl,n⟩,hM,rfl⟩ trivial;simp[execOp,resolve,invoke,builtin,fR h1,run_real]
 .cases d with
  |none=>cases g
  |some d=>
   obtain⟨p,y,h1,h3,g1⟩:=gq hr hE fy;obtain⟨u,x,e0,g2⟩:=LY hr g1;subst e0;obtain⟨rfl,n,t⟩:=h3;refine xw (v:= .float .f64 (fw x)) (w':=w) (by grind [gd,Op.operands,Call.operands]) fx ?_ ⟨_,σ,ρ,_,g2,Up.refl ρ,⟨rfl,t⟩,hM,rfl⟩ trivial;simp[execOp,resolve,invoke,builtin,fR h1,run_imag]
 .cases d with
  |none=>cases g
  |some d=>exact aay (up:=false) hr hE hM h
 .cases d with
  |none=>cases g
  |some d=>exact aay (up:=true) hr hE hM h
 .exact absurd h.symm hr
theorem Tw {full:Array li} {c:Kt} {op:Op} (g:W7 d op=true) (h:(JG m op).f ih e σ c=res):xs prog fD fC [] gr.gS full (Good w0 ρ c res Y d) [⟨d,op,R,pos,af,none⟩] Y w:=by
 cases d with
 | none=>
  cases op with
  |store t x y=>exact ae2 hr hE hM h
  |mapUpdate t x y z=>exact aeJ hr hE hM h
  |call cl=>
   obtain⟨k,a,ts⟩:=cl
   by_cases u:∃b,k= .builtin b
   .obtain⟨b,rfl⟩:=u;exact aaI (a:=a.toList) (ts:=ts.toList) hr hE hM g h
   .exact RR (a:=a.toList) (ts:=ts.toList) hr hE hM ud h fM
  |_=>cases g
 | some d=>
  cases op with
  |move x=>exact YV hr hE hM h
  |assign x=>exact QP hr hE hM h
  |pick x a b=>exact X6 hr hE hM h
  |alloc t=>exact aeg hr hM h
  |box t x=>exact afp hr hE hM h
  |build t ps=>exact aez (ps:=ps.toList) hr hE hM h
  |buildSlice t n ps=>exact ae6 (ps:=ps.toList) hr hE hM h
  |load t x=>exact adG hr hE hM h
  |nilCheck x=>exact KK hr hE hM h
  |binOp op t x y C=>exact aaY hr hE hM h
  |unOp op t x=>
   cases op with
   |not=>exact ZY hr hE hM h
   |neg=>exact aaA hr hE hM h
   |_=>exact absurd h.symm hr
  |convert s t x=>exact aeo hr hE hM h
  |makeFunc fn a b=>
   have v:(mfW m fn a.toList b.toList).f ih e σ c=res:=h;exact ada (a:=a.toList) (b:=b.toList) hr hE hM v
  |makeSlice t n q=>exact aeV hr hE hM h
  |slice t x lo hi B=>exact aeL hr hE hM h
  |fieldAddr s x f=>exact ad1 hr hE hM h
  |field t x k=>exact aeE hr hE hM h
  |indexAddr t x i=>exact afv hr hE hM h
  |index t x i=>exact adD hr hE hM h
  |extract x k=>exact aek hr hE hM h
  |call cl=>
   obtain⟨k,a,ts⟩:=cl
   by_cases u:∃b,k= .builtin b
   .obtain⟨b,rfl⟩:=u;exact aaI (a:=a.toList) (ts:=ts.toList) hr hE hM fx h
   .exact RR (a:=a.toList) (ts:=ts.toList) hr hE hM ud h fM
  |store t x y=>cases g
  |mapUpdate t x y z=>cases g
  |makeMap t q=>
   cases q with
   |none=>exact aaZ hr hM h
   |some q=>exact absurd h.symm hr
  |lookup t x y q=>
   cases q with
   |true=>exact adY hr hE hM h
   |false=>exact aey hr hE hM h
  |_=>exact absurd h.symm hr
omit hr ud hE hM in
theorem Hn:∀(l:ip li) (j:Nat),Sk l j=Hx l j
 |[],_=>rfl
 |_::_,0=>rfl
 |_::r,j+1=>Hn r j
def UH (w0:Fm) (m:Nat) (ρ:Pl) (hs:ip Nt) (ms:ip Mem) (c:Kr) (res:Rs):Env->i5->Prop:=λg w'=>∃e' f d,c e' f=res/\e'.hs=hs/\e'.ms=ms/\Up ρ d/\ER m d e' g/\MR w0 d f w'
omit hr ud hE hM in
theorem wZ {full:Array li} {K K':Env->i5->Prop} (h:xs prog fD fC [] gr.gS full K' [o] Y w) (hk:∀f w',K' f w'->xs prog fD fC [] gr.gS full K ii f w'):xs prog fD fC [] gr.gS full K (o::ii) Y w:=by
 obtain⟨g,n,h1,m⟩:=h;exact⟨g,n,λd=>⟨(h1 d).1,kp trivial (λv w' _ hs=>hk _ _ hs) (h1 d).2⟩,λd=>hk _ _ (m d)⟩
omit ud hM in
theorem kT {H:i5->Prop} {K:Env->i5->Prop} {B:Wo} {op:Op} {n:Option (Nat×Bool)} (h:(Td m full ⟨d,op,R,pos,af,n⟩ B).f ih e σ c=res)
  (go:B.f ih e σ c=res->xs prog fD fC hs H full.toArray K [⟨d,op,R,pos,af,none⟩] Y w)
  (no:∀e',c e' σ=res->e'.hs=e.hs->e'.ms=e.ms->ER m ρ e' (gr.put Y d undef)->K (gr.put Y d undef) w):xs prog fD fC hs H full.toArray K [⟨d,op,R,pos,af,n⟩] Y w:=by
 unfold Td at h;cases n with
 |none=>exact go h
 | some E=>
  obtain⟨j,want⟩:=E
  have t:(match Sk full j with
   |some g=>(⟨λih e σ c=>(QX m g).f e λq=>bqK q want (B.f ih e σ c) ((Ig m d).f e (.v .u) λe=>c e σ)⟩:Wo)
   |none=>noO).f ih e σ c=res:=h
  split at t
  .rename_i g I;obtain⟨q,h1,g1⟩:=qu hr t;obtain⟨val,C,h3⟩:=hE g q h1
   have x:∀r,(match look Y g with
    |some (.bool true)=>some want
    |some (.bool false)=>some (!want)
    |some _=>some false
    |none=>none)=some r->gv full.toArray Y (some (j,want))=some r:=by grind [KW,Z6,Hn]
   have D:(Ig m d).f e (.v .u) (λe=>c e σ)=res->gv full.toArray Y (some (j,want))=some false->xs prog fD fC hs H full.toArray K [⟨d,op,R,pos,af,some (j,want)⟩] Y w:=λG F=>by
    obtain⟨e',k1,k3,k4,k2⟩:=lJ G;exact xgn F (no e' k1 k3 k4 (hE.put (v:= .v .u) (val:=undef) fx k2))
   rcases Un hr g1 with⟨y,e0,⟨hq,g2⟩|⟨hq,g2⟩⟩|⟨e0,g2⟩
   .subst e0;have h3:val= .bool y:=h3;subst h3;refine xgy (x true ?_) (go g2);rw[C];cases y<;>cases want<;>first|rfl|cases hq
   .subst e0;have h3:val= .bool y:=h3;subst h3;refine D g2 (x false ?_)
    grind
   .subst e0;have h3:val=undef:=h3;subst h3;refine D g2 (x false ?_);rw[C];rfl
  .exact absurd t.symm hr
theorem WI {full:Array li} {c:Kt} {op:Op} (g:W7 d op=true) (h:(Zi m op).f ih e σ c=res):xs prog fD fC [] gr.gS full (Good w0 ρ c res Y d) [⟨d,op,R,pos,af,none⟩] Y w:=by
 cases op with
 |convert s t x=>
  cases d with
  |none=>cases g
  |some d=>exact adH hr hE hM (λh=>Tw hr ud hE hM g h) h
 |_=>
  rw[XU fM]at h;exact Tw hr ud hE hM g h
theorem adU (h:(orW m full o).f ih e σ c=res):xs prog fD fC [] gr.gS full.toArray (UH w0 m ρ e.hs e.ms c res) [o] Y w:=by
 obtain⟨d,op,R,pos,af,y⟩:=o;unfold orW at h;split at h
 .exact absurd h.symm hr
 .rename_i g;refine kT hr hE h (λh=>?_) (λe' k1 k3 k4 k2=>⟨e',σ,ρ,k1,k3,k4,Up.refl ρ,k2,hM⟩);refine wZ (WI hr ud hE hM g h) (λx w' n=>?_);obtain⟨v,u,t,val,g1,g2,g3,g4,rfl⟩:=n;obtain⟨e',k1,k3,k4,k2⟩:=lJ g1;exact⟨e',u,t,k1,k3,k4,g2,(hE.up g2).put g3 k2,g4⟩
end
theorem yz {full:Array li} {K K':Env->i5->Prop} (hk:∀Y w,K Y w->K' Y w):∀{l:ip li} {Y:Env} {w:i5},xs prog fD fC [] gr.gS full K l Y w->xs prog fD fC [] gr.gS full K' l Y w
 |[],_,_,h=>hk _ _ h
 |_::_,_,_,⟨g,m,h1,f⟩=>⟨g,m,λd=>⟨(h1 d).1,kp trivial (λ_ _ _ hs=>yz hk hs) (h1 d).2⟩,λd=>yz hk (f d)⟩
theorem HX {w0:Fm} {m:Nat} {g:Cl} {res:Rs} (v:res≠ .no) (u:kz w0 g) {full:ip li} {c:Kr}:∀{l:ip li} {e:En} {d:Mem} {ρ:Pl} {Y:Env} {w:i5},ER m ρ e Y->MR w0 ρ d w->(tS m full l).f g e d c=res->xs prog fD fC [] gr.gS full.toArray (UH w0 m ρ e.hs e.ms c res) l Y w
 |[],e,d,ρ,Y,w,n,t,h=>⟨e,d,ρ,h,rfl,rfl,Up.refl ρ,n,t⟩
 |o::l,e,d,ρ,Y,w,n,t,h=>by
  have y:(orW m full o).f g e d (λe d=>(tS m full l).f g e d c)=res:=h;refine wZ (adU v u n t y) (λF w' B=>?_);obtain⟨e',J,I,g1,g5,g6,g2,g3,g4⟩:=B;have:=HX v u (l:=l) g3 g4 g1;refine yz (λG H C=>?_) this;obtain⟨x,E,D,k1,k5,k6,k2,k3,k4⟩:=C;exact⟨x,E,D,k1,k5.trans g5,k6.trans g6,g2.trans k2,k3,k4⟩
theorem Jw {d:kw} (h:Nat.beq (kn k) (kn d)=true):k=d:=by
 cases k<;>cases d<;>first|rfl|cases h
theorem I7:∀{a b:ip Nat},eU a b=true->a=b
 |[],[],_=>rfl
 |[],_::_,h=>by cases h
 |_::_,[],h=>by cases h
 |x::a,y::b,h=>by
  have d:Bool.rec (motive:=λ_=>Bool) false (eU a b) (Nat.beq x y)=true:=h;rcases ko x y with⟨h1,f⟩|⟨h1,f⟩
  .rw[f]at d;rw[h1,I7 (a:=a) (b:=b) d]
  simp_all
def Q7 {x y:SV} (h:sE x y=true):x=y:=by
 cases x with
 |n k a=>
  cases y<;>try cases h
  obtain⟨h1,f⟩:=jr h
  grind [Jw,Nat.eq_of_beq_eq_true]
 |m k a=>
  cases y<;>try cases h
  obtain⟨h1,f⟩:=jr h
  grind [Jw,Nat.eq_of_beq_eq_true]
 | b q=>
  cases y with
  |b g=>
   have h:eB q g=true:=h
   grind [xW]
  |_=>cases h
 | s l=>
  cases y with
  |s l'=>
   have h:eU l l'=true:=h;rw[I7 h]
  |_=>cases h
 |p0=>cases y<;>first|exact rfl|cases h
 |p i a=>
  cases y<;>try cases h
  obtain⟨h1,f⟩:=jr h
  simp_all
 |l0=>cases y<;>first|exact rfl|cases h
 |l i a b c=>
  cases y<;>try cases h
  obtain⟨h1,f⟩:=jr h
  grind [jr,Nat.eq_of_beq_eq_true]
 |lx i a b c d=>
  cases y<;>try cases h
  obtain⟨h1,f⟩:=jr h
  grind [jr,Nat.eq_of_beq_eq_true]
 |fl a=>
  cases y<;>try cases h
  rw[jq h]
 |i0=>cases y<;>first|exact rfl|cases h
 |x k i=>
  cases y<;>try cases h
  obtain⟨h1,f⟩:=jr h
  grind [Jw,Nat.eq_of_beq_eq_true]
 | sl l=>
  cases y with
  |sl l'=>
   have h:eU l l'=true:=h;rw[I7 h]
  |_=>cases h
 |mp a=>
  cases y<;>try cases h
  rw[jq h]
 |cx a b=>
  cases y<;>try cases h
  obtain⟨h1,f⟩:=jr h
  simp_all
 |le i a b c=>
  cases y<;>try cases h
  obtain⟨h1,f⟩:=jr h
  grind [jr,Nat.eq_of_beq_eq_true]
 |u=>cases y<;>cases h
theorem Cn:∀{a b:ip SV},lE a b=true->a=b
 |[],[],_=>rfl
 |[],_::_,h=>by cases h
 |_::_,[],h=>by cases h
 |x::a,y::b,h=>by
  have d:an (sE x y) (lE a b)=true:=h;obtain⟨h1,f⟩:=jr d;rw[Q7 h1,Cn f]
def j1.one {ρ:Pl} {l:ip SV} {us vs:ip i6} (h:j1 ρ l us) (d:j1 ρ l vs):us=vs:=by
 induction h generalizing vs with
 |nil=>cases d;rfl
 |cons h1 _ g=>
  cases d with
  |cons h3 f=>rw[SR.one h1.2 h3.2,g f]
def B3 (d:Mem) (ms:ip Mem) (n:Nt):Prop:=n.1<d.n/\∀s∈d::ms,∀i,i<n.2.2.length->ig s n.1 (n.2.1+i)=n.2.2[i]?
section
variable {res:Rs} (hr:res≠ .no)
include hr
theorem Lo {n:Nt} {r:Rs}:∀{ms:ip Mem},ckM ms n r=res->r=res/\∀s∈ms,∀i,i<n.2.2.length->ig s n.1 (n.2.1+i)=n.2.2[i]?
 |[],h=>⟨h,λs hs=>by cases hs⟩
 |m::ms,h=>by
  obtain⟨x,l,h1,u,h3,d⟩:=mn hr (show Jk m n.1 n.2.1 n.2.2.length (λl=>ji (lE n.2.2 l) (ckM ms n r))=res from h);obtain⟨f,g⟩:=fS d hr;have v:=Cn f;obtain⟨w,t⟩:=Lo g
  grind
theorem qp {d:Mem} {ms:ip Mem} {r:Rs}:∀{hs:ip Nt},Js d ms hs r=res->r=res/\∀n∈hs,B3 d ms n
 |[],h=>⟨h,λs hs=>by cases hs⟩
 |n::hs,h=>by
  obtain⟨h1,f⟩:=fS (show ji (Nat.ble (Nat.add n.1 1) d.n) (ckM (d::ms) n (Js d ms hs r))=res from h) hr;obtain⟨h3,g⟩:=Lo hr f;obtain⟨m,t⟩:=qp h3;refine⟨m,λk hk=>?_⟩;rcases iu.1 hk with rfl|hk
  .exact⟨jg h1,λs hs=>g s hs⟩
  .exact t k hk
end
def HH (d:Pl) (f:ip Nt) (w':i5):Prop:=∀n∈f,∀p vs,d[n.1]? =some p->j1 d n.2.2 vs->∀(j:Nat) u,vs[j]? =some u->w'.cell? ⟨p.b,n.2.1+j,none⟩=some u
def yu {f:Pl} {g s:Mem} {ms:ip Mem} {d:ip Nt} (t:MR w0 ρ s w') (hu:Up f ρ) (hs:s∈g::ms) (v:∀n∈d,B3 g ms n):HH f d w':=λn w p vs x y j u D=>by
 obtain⟨_,B⟩:=v n w;obtain⟨E,m,C⟩:=t.cells (hu _ _ x) (l:=n.2.2) (o:=n.2.1) fM;have:=j1.one (y.up hu) m
 grind
section
variable {w0:Fm} {m:Nat} {ih:Cl} {e:En} {σ:Mem} {res:Rs} {ρ:Pl} {Y:Env} {w:i5} (hr:res≠ .no)
include hr
theorem ML (w:ER m ρ e Y) {k:AV->Nt->Rs} (h:(ldH m t x).f e σ k=res):∃id o l d p,gh Y x=some (.pointer (some ⟨p.b,o,none⟩))/\ρ[id]? =some p/\(∀i,i<l.length->ig σ id (o+i)=l[i]?)/\k d (id,o,l)=res/\((one t=true/\∃y,l=[y]/\d= .v y)\/(get kA t=some l.length/\d= .g l)):=by
 unfold ldH at h;split at h
 .rename_i ht;obtain⟨a,v,h1,u,g1⟩:=gq hr w h;obtain⟨id,o,e0,g2⟩:=lI hr g1;obtain⟨B,g3,g4⟩:=pa hr g2;obtain⟨y,g5,g6⟩:=mm hr g4;subst e0;obtain⟨p,h3,rfl⟩:=u
  grind [kd]
 .split at h
  .rename_i n C;rw[iT]at h;obtain⟨a,v,h1,u,g1⟩:=gq hr w h;obtain⟨id,o,e0,g2⟩:=lI hr g1;obtain⟨B,l,g3,g4,g5,g6⟩:=mn hr g2;subst e0;obtain⟨p,h3,rfl⟩:=u
   grind
  grind
omit hr in
theorem Dz (h:n4 hs none=true):False:=by
 cases hs<;>cases h
omit hr in
theorem E3 (h:fC t=true):fD t=false:=by
 unfold fD;cases hk:kindOf t with
 |none=>rfl
 |some k=>
  have h1:=h7 h
  simp_all [iN]
theorem UT (g:MR w0 ρ σ w) {id:Nat} (m:ρ[id]? =some p) {k:AV->Nt->Rs} (h:cvN σ k id z j n=res):∃r l vs,z=1/\l.length=n/\r.length=n/\(∀c∈r,c<256)/\r.length<=maxLen/\(∀i,i<l.length->ig σ id (j+i)=l[i]?)/\j1 ρ l vs/\vs=(jI r).map (λb=>Value.int .u8 (b.toNat:Int))/\(∀(i:Nat) u,vs[i]? =some u->gc w p.b (j+i) u)/\k (.v (.s r)) (id,j,l)=res:=by
 obtain⟨d,h1⟩:=fS (show ji (Nat.beq z 1) _=res from h) hr;have d:=jq d;obtain⟨y,l,g3,g4,g5,g6⟩:=mn hr h1;have hc:∀i,i<l.length->ig σ id (j+i)=l[i]? :=fM;obtain⟨vs,f,t⟩:=g.cells m hc;obtain⟨r,f1,f2,f3,f4⟩:=yB hr g6 f;obtain⟨x,f5⟩:=fS f4 hr
 grind [Nat.le_of_ble_eq_true]
theorem Le (E:ER m ρ e Y) (B:MR w0 ρ σ w) {op:Op} {k:AV->Nt->Rs} (h:(rdH m op).f e σ k=res):∃s t x el id j l vs r p c,op= .convert s t x/\prog.underlying s=some (.slice el)/\prog.underlying el=some (.int .u8)/\gh Y x=some (.S p.b j (jI r).length c)/\ρ[id]? =some p/\(∀c∈r,c<256)/\r.length<=maxLen/\(∀i,i<l.length->ig σ id (j+i)=l[i]?)/\j1 ρ l vs/\vs=(jI r).map (λb=>Value.int .u8 (b.toNat:Int))/\(∀(i:Nat) u,vs[i]? =some u->gc w p.b (j+i) u)/\k (.v (.s r)) (id,j,l)=res:=by
 have hu:∀r:ip Nat,(jI r).length=r.length:=λr=>jv _
 unfold rdH at h;split at h
 .rename_i s t x;split at h
  .rename_i el _ F;split at h
   .rename_i C;obtain⟨D,_⟩:=iZ F;obtain⟨a,v,h1,y,g1⟩:=gq hr E h;rcases kS hr g1 with⟨d,q⟩|⟨id,z,j,n,d,q⟩|⟨id,z,j,n,c,d,q⟩|⟨_,_,_,_,d,q⟩|⟨l,d,q⟩|⟨id,o,d,q⟩
    .grind
    .subst d;obtain⟨p,g,h3,hc,G,rfl⟩:=y;exact y23
    .subst d;obtain⟨p,g,h3,G,rfl⟩:=y;exact y23
    .grind
    .grind
    grind
   .exact absurd h.symm hr
  .exact absurd h.symm hr
 .exact absurd h.symm hr
omit hr in
theorem VY (h:cls fD fC (.convert s t x)= .r):fC t=true:=by
 grind [cls]
omit hr in
theorem LM {c:Nat} {r:ip UInt8} (h1:prog.underlying s=some (.slice el)) (d:prog.underlying el=some (.int .u8)) (h3:fC t=true) (hc:∀(i:Nat) u,(r.map (λb=>Value.int .u8 (b.toNat:Int)))[i]? =some u->gc w p.b (j+i) u):(convert s t (.S p.b j r.length c)).run prog w= .ok (.U r) w:=
 run_convert_bytes_back (P:=prog) w s t el ⟨p.b,j,none⟩ c r h1 d (h7 h3) (by grind [List.getElem?_eq_getElem,Addr.add_lit])
def ZO (w0:Fm) (m:Nat) (ρ:Pl) (e:En) (c:Kr) (res:Rs):Env->i5->Prop:=λg w'=>∃e' f d,c e' f=res/\Up ρ d/\ER m d e' g/\MR w0 d f w'/\(∀n∈e.hs,n∈e'.hs)/\∀s∈e.ms,s∈e'.ms
omit hr in
theorem ER.same {e':En} (h:ER m ρ e Y) (h1:e'.vs=e.vs) (d:e'.ts=e.ts):ER m ρ e' Y:=λt a f=>by
 refine h t a ?_
 grind [CO]
variable (ud:kz w0 ih) (hE:ER m ρ e Y) (hM:MR w0 ρ σ w)
include ud hE hM
theorem WT {op:Op} (x:W7 d op=true) (h:(JG m op).f ih e σ (λv σ=>(Ig m d).f e v λe=>c ⟨e.vs,e.ts,e.hs,σ::e.ms⟩ σ)=res):
  xs prog fD fC [] gr.gS full.toArray (λu w'=>∃e' t g,c e' t=res/\Up ρ g/\ER m g e' u/\MR w0 g t w'/\(∀n∈e.hs,n∈e'.hs)/\(∀s∈e.ms,s∈e'.ms)/\t∈e'.ms) [⟨d,op,R,pos,af,none⟩] Y w:=by
 refine wZ (Tw hr ud hE hM x h) (λu w' y=>?_);obtain⟨v,t,g,val,g1,g2,g3,g4,rfl⟩:=y;obtain⟨e',k1,k3,k4,k2⟩:=lJ g1;refine⟨_,t,g,k1,g2,((hE.up g2).put g3 k2).same fx fx,g4,λn B=>?_,λs hs=>?_,j0⟩
 .grind
 grind
theorem LD {op:Op} (t:W7 d op=true) (h:(JG m op).f ih e σ (λv g=>(Ig m d).f e v λe=>c e g)=res):
  xs prog fD fC [] gr.gS full.toArray (ZO w0 m ρ e c res) [⟨d,op,R,pos,af,none⟩] Y w:=by
 refine wZ (Tw hr ud hE hM t h) (λB w' u=>?_);obtain⟨v,g,y,val,g1,g2,g3,g4,rfl⟩:=u;obtain⟨e',k1,k3,k4,k2⟩:=lJ g1;refine⟨_,g,y,k1,g2,(hE.up g2).put g3 k2,g4,λn x=>?_,λs hs=>?_⟩
 .rw[k3];exact x
 grind
theorem PA {op:Op} (t:W7 d op=true) (h:(Zi m op).f ih e σ (λv g=>(Ig m d).f e v λe=>c e g)=res):
  xs prog fD fC [] gr.gS full.toArray (ZO w0 m ρ e c res) [⟨d,op,R,pos,af,none⟩] Y w:=by
 refine wZ (WI hr ud hE hM t h) (λB w' u=>?_);obtain⟨v,g,y,val,g1,g2,g3,g4,rfl⟩:=u;obtain⟨e',k1,k3,k4,k2⟩:=lJ g1;refine⟨_,g,y,k1,g2,(hE.up g2).put g3 k2,g4,λn x=>?_,λs hs=>?_⟩
 .rw[k3];exact x
 grind
theorem LN (h:(qn m hs full o).f ih e σ c=res):xs prog fD fC [] gr.gS full.toArray (ZO w0 m ρ e c res) [o] Y w:=by
 obtain⟨d,op,R,pos,af,T⟩:=o;unfold qn at h;split at h
 .exact absurd h.symm hr
 .rename_i C;have no:∀e',c e' σ=res->e'.hs=e.hs->e'.ms=e.ms->ER m ρ e' (gr.put Y d undef)->ZO w0 m ρ e c res (gr.put Y d undef) w:=λe' k1 k3 k4 k2=>⟨e',σ,ρ,k1,Up.refl ρ,k2,hM,fM,fM⟩
  split at h
  .rename_i t x g;have g:op= .load t x:=g;subst g;split at h
   .refine kT hr hE h (λh=>?_) no;cases d with
    |none=>cases C
    | some d=>
     obtain⟨id,o',l,D,p,h1,F,h3,G,H⟩:=ML hr hE h;obtain⟨e',k1,k3,k4,k2⟩:=lJ G;obtain⟨vs,g1,g2⟩:=hM.cells F h3
     have fin:∀val,AR ρ D val->ZO w0 m ρ e c res (gr.put Y (some d) val) w:=λval O=>by
      refine⟨_,σ,ρ,k1,Up.refl ρ,(hE.put O k2).same fx fx,hM,λn M=>?_,λs hs=>?_⟩<;>grind
     rcases H with⟨ht,y,rfl,rfl⟩|⟨ht,rfl⟩
     .cases g1 with
      |cons q1 q2=>
       cases q2;exact Bw h1 ht (g2 0 _ fx).1 (fin _ q1.2)
     .exact hV h1 (by grind [j1.len]) fM (fin _ ⟨vs,g1,rfl⟩)
   .exact kT hr hE h (by grind [LD]) no
  .split at h
   .refine kT hr hE h (λh=>?_) no;refine wZ (WT hr ud hE hM C h) (λS w' K=>?_);obtain⟨e',qd3,Q,g1,g2,g3,g4,g5,g6,_⟩:=K;exact⟨e',qd3,Q,g1,g2,g3,g4,g5,g6⟩
   .exact kT hr hE h (by grind [PA]) no
   .rename_i B;split at h
    .rename_i L;refine kT hr hE h (λh=>?_) no;cases d with
     |none=>exact(Dz L).elim
     | some d=>
      obtain⟨s,t,x,el,id,j,l,vs,r,p,E,rfl,q1,q2,q3,q4,q5,q6,q7,q8,q9,Yg,PG⟩:=Le hr hE hM h;obtain⟨e',k1,k3,k4,k2⟩:=lJ PG;have I:=VY B
      have J:ja fD fC [] ⟨some d,.convert s t x,R,pos,af,none⟩= .r:=by
       simp[ja,B,n4]
      have N:=LM (w:=w) (c:=E) q1 q2 I (λi u hu=>Yg i u (by rw[q9];exact hu));refine gW fx (by grind [gd,Op.operands]) ?_;rw[J];refine⟨.U (jI r),by simp[execOp,fR q3,N],_,σ,ρ,k1,Up.refl ρ,(hE.put (v:= .v (.s r)) ⟨rfl,q5,q6⟩ k2).same fx fx,hM,λn M=>?_,λs hs=>?_⟩
      .grind
      grind
    .exact kT hr hE h (by grind [LD]) no
   .exact absurd h.symm hr
end
def vi {full:Array li} {K:Env->i5->Prop} (h:xs prog fD fC [] gr.gS full K [o] Y w):∃d w',K d w':=by
 obtain⟨g,m,h1,f⟩:=h;cases g with
 |true=>
  obtain⟨v,w',_,h3⟩:=w2 (H:=gr.gS) trivial (h1 rfl).2;exact⟨_,w',h3⟩
 |false=>exact⟨_,w,f rfl⟩
theorem AS {full:Array li} {K:Env->i5->Prop}:∀{l:ip li} {Y:Env} {w:i5},xs prog fD fC [] gr.gS full K l Y w->∃d w',K d w'
 |[],Y,w,h=>⟨Y,w,h⟩
 |o::l,Y,w,h=>by
  obtain⟨d,w',f⟩:=vi (o:=o) (K:=λd w'=>xs prog fD fC [] gr.gS full K l d w') h;exact AS f
noncomputable def Ew:Kr:=λe d=> .mk .pz e d
noncomputable def Jo (m:Nat) (d:Cl) (full l2:ip li) (n:Mem):Kr:=λe' g=>Js n e'.ms e'.hs ((tS m full l2).f d e' g Ew)
theorem J0 {w0:Fm} {m:Nat} {g:Cl} {res:Rs} {v:Mem} (u:res≠ .no) (B:kz w0 g) {hs:ip Nat} {full l2:ip li}:∀{l:ip li} {e:En} {d:Mem} {ρ:Pl} {Y:Env} {w:i5},ER m ρ e Y->MR w0 ρ d w->(lu m hs full l).f g e d (Jo m g full l2 v)=res->∃t D,res= .mk .pz t D/\(∀n∈e.hs,n∈t.hs)/\(∀s∈e.ms,s∈t.ms)/\∀n∈t.hs,B3 v t.ms n
 |[],e,d,ρ,Y,w,x,y,h=>by
  obtain⟨h1,I⟩:=qp u (show Js v e.ms e.hs ((tS m full l2).f g e d Ew)=res from h);obtain⟨E,w',e',C,H,k1,k2,k3,_⟩:=AS (HX u B x y h1);exact⟨e',C,k1.symm,fM,fM,by grind⟩
 |o::l,e,d,ρ,Y,w,x,y,h=>by
  have F:(qn m hs full o).f g e d (λe d=>(lu m hs full l).f g e d (Jo m g full l2 v))=res:=h;obtain⟨E,w',e',C,H,h1,_,h3,G,J,K⟩:=vi (LN u B x y F);obtain⟨t,D,g1,g2,g3,g4⟩:=J0 u B h3 G h1
  grind
theorem qy {P:Program} {H:i5->Prop} {c:TA} {s:Sem Next} {S g:i6->i5->Prop} (h:∀v w',S v w'->g v w') (f:wV P H c s w S):wV P H c s w g:=by
 cases c with
 |p=>obtain⟨v,h1,d⟩:=f;exact⟨v,h1,h v w d⟩
 |r=>obtain⟨v,h1,d⟩:=f;exact⟨v,h1,h v w d⟩
 |h=>obtain⟨v,h1,d⟩:=f;exact⟨v,h1,h v w d⟩
 |w=>exact uI fM f
def yv {H:i5->Prop} {full:Array li} {K:Env->i5->Prop} {op:Op} (h:xs prog fD fC [] gr.gS full K [⟨d,op,R,pos,af,none⟩] Y w) (hc:(cls fD fC op= .p)\/(cls fD fC op= .r/\n4 hs d=false)\/(cls fD fC op= .w/\∀u w',K u w'->H w')):xs prog fD fC hs H full K [⟨d,op,R,pos,af,none⟩] Y w:=by
 obtain⟨g,y,h1,x⟩:=h;refine⟨g,y,λf=>⟨(h1 f).1,?_⟩,λf=>x f⟩;have m:=(h1 f).2;rcases hc with hc|⟨hc,hm⟩|⟨hc,hk⟩
 .have n:∀hs,ja fD fC hs ⟨d,op,R,pos,af,none⟩= .p:=by grind [ja]
  rw[n]at m|-;exact m
 .have n:ja fD fC hs ⟨d,op,R,pos,af,none⟩= .r:=by unfold ja;rw[hc];dsimp only;rw[hm]
  have t:ja fD fC [] ⟨d,op,R,pos,af,none⟩= .r:=by unfold ja;rw[hc];cases d<;>rfl
  rw[t]at m;rw[n];exact m
 .have n:∀hs,ja fD fC hs ⟨d,op,R,pos,af,none⟩= .w:=by grind [ja]
  rw[n]at m|-;exact uI (λv w' f=>⟨hk _ _ f.2,f.2⟩) m
theorem hg {hs:ip Nat} {H:i5->Prop} {full:Array li} {K K':Env->i5->Prop} (hk:∀Y w,K Y w->K' Y w):∀{l:ip li} {Y:Env} {w:i5},xs prog fD fC hs H full K l Y w->xs prog fD fC hs H full K' l Y w
 |[],_,_,h=>hk _ _ h
 |_::_,_,_,⟨g,m,h1,f⟩=>⟨g,m,λd=>⟨(h1 d).1,qy (λ_ _ hs=>hg hk hs) (h1 d).2⟩,λd=>hg hk (f d)⟩
def pb {H:i5->Prop} {full:Array li} {K:Env->i5->Prop} (h:xs prog fD fC hs H full (λd w'=>xs prog fD fC hs H full K ii d w') [o] Y w):xs prog fD fC hs H full K (o::ii) Y w:=h
def jN (w0:Fm) (m:Nat) (res:Rs) (f:ip Nt) (g:ip Mem) (k:Kr):Prop:=∀(e:En) (d:Mem) (ρ:Pl) (Y:Env) (w:i5),ER m ρ e Y->MR w0 ρ d w->k e d=res->(∀n∈e.hs,n∈f)/\∀s∈e.ms,s∈g
def jN.op {d:Cl} {g:ip Nt} {n:ip Mem} {k:Kr} (C:res≠ .no) (B:kz w0 d) (hk:jN w0 m res g n k):jN w0 m res g n (λe t=>(qn m hs full o).f d e t k):=λe t ρ Y w x y h=>by
 obtain⟨u,w',e',E,D,h1,_,h3,v,F,G⟩:=vi (LN C B x y h);obtain⟨g2,g3⟩:=hk e' E D u w' h3 v h1
 grind
theorem jN.YO {w0:Fm} {m:Nat} {n:Cl} {res:Rs} {t:ip Nt} {u:ip Mem} {k:Kr} (g:res≠ .no) (d:kz w0 n) {hs:ip Nat} {full:ip li} (hk:jN w0 m res t u k):∀l:ip li,jN w0 m res t u (λe v=>(lu m hs full l).f n e v k)
 |[]=>hk
 |o::l=>jN.op (o:=o) g d (jN.YO g d hk l)
theorem jN.fin {f:Cl} {v:Mem} {d:En} {x:Mem} (u:res≠ .no) (t:kz w0 f) (B:res= .mk .pz d x) {l2:ip li}:jN w0 m res d.hs d.ms (Jo m f full l2 v):=λe C ρ Y w g n h=>by
 obtain⟨y,D,k1,k2,k3,_⟩:=J0 (hs:=[]) (l:=[]) u t g n h
 grind
theorem og {w0 ax:Fm} {m:Nat} {N:Cl} {res:Rs} {ab:Mem} {K:Pl} {ws:i5} {O:ip Nt} {aj:ip Mem} {k:Kr} (F:res≠ .no) (U:kz w0 N) (hk:jN w0 m res O aj k) (aa:∀n∈O,B3 ab aj n) (V:MR ax K ab ws) {hs0:ip Nat} {full:ip li}:∀{l:ip li} {e:En} {E:Mem} {ρ:Pl} {Y:Env} {w:i5},Up K ρ->ER m ρ e Y->MR w0 ρ E w->(lu m hs0 full l).f N e E k=res->xs prog fD fC hs0 (HH K O) full.toArray (λC w'=>∃H L B,k H L=res/\Up ρ B/\ER m B H C/\MR w0 B L w') l Y w
 |[],e,E,ρ,Y,w,hu,D,I,h=>⟨e,E,ρ,h,Up.refl ρ,D,I⟩
 | o :: l,e,E,ρ,Y,w,hu,D,I,h=>by
  have G:(qn m hs0 full o).f N e E (λe E=>(lu m hs0 full l).f N e E k)=res:=h
  have next:∀{B e' M C w'},Up ρ B->ER m B e' C->MR w0 B M w'->(lu m hs0 full l).f N e' M k=res->xs prog fD fC hs0 (HH K O) full.toArray (λC w'=>∃H L B,k H L=res/\Up ρ B/\ER m B H C/\MR w0 B L w') l C w':=λ{B e' M C w'} al S ae J=>by
   have:=og F U hk aa V (l:=l) (hu.trans al) S ae J;exact hg (λaG aJ ⟨H,L,r,h0,h1,Z,h3⟩=>⟨H,L,r,h0,al.trans h1,Z,h3⟩) this
  have ad:∀{B e' M C w'},ER m B e' C->MR w0 B M w'->(lu m hs0 full l).f N e' M k=res->(∀n∈e'.hs,n∈O)/\∀s∈e'.ms,s∈aj:=λ{B e' M C w'} S ae J=>jN.YO F U hk l _ _ _ _ _ S ae J
  obtain⟨d,op,R,pos,af,aH⟩:=o;unfold qn at G;split at G
  .exact absurd G.symm F
  .rename_i W;have no:∀e',(lu m hs0 full l).f N e' E k=res->e'.hs=e.hs->e'.ms=e.ms->ER m ρ e' (gr.put Y d undef)->xs prog fD fC hs0 (HH K O) full.toArray (λC w'=>∃H L B,k H L=res/\Up ρ B/\ER m B H C/\MR w0 B L w') l (gr.put Y d undef) w:=by grind [Up.refl]
   split at G
   .rename_i t x ag;have ag:op= .load t x:=ag;subst ag;split at G
    .rename_i qd4;refine pb (kT F D G (λh=>?_) no);cases d with
     |none=>cases W
     | some d=>
      obtain⟨id,o',l',am,p,h1,Z,h3,ao,ak⟩:=ML F D h;obtain⟨e',k1,k3,k4,k2⟩:=lJ ao;obtain⟨vs,g1,g2⟩:=I.cells Z h3
      have X:(id,o',l')∈O:=by
       rcases ak with⟨ht,y,rfl,rfl⟩|⟨ht,rfl⟩
       .cases g1 with
        |cons q1 q2=>exact(ad ((D.put (v:= .v y) q1.2 k2).same (e':=⟨e'.vs,e'.ts,(id,o',[y])::e'.hs,e'.ms⟩) rfl rfl) I k1).1 _ j0
       .exact(ad ((D.put (v:= .g l') (val:= .agg vs.toArray) ⟨vs,g1,rfl⟩ k2).same (e':=⟨e'.vs,e'.ts,(id,o',l')::e'.hs,e'.ms⟩) fx fx) I k1).1 _ j0
      obtain⟨q1,q2⟩:=aa _ X;have q1:id<ab.n:=q1;rw[<-V.len]at q1;have Q:K[id]? =some K[id]:=fM;have ai:=hu _ _ Q;rw[Z]at ai;have ah:K[id]=p:=fM;rw[ah]at Q;obtain⟨qa4,g3,_⟩:=V.cells Q (l:=l') (o:=o') fM;have aq:∀w',HH K O w'->∀(j:Nat) u,qa4[j]? =some u->gc w' p.b (o'+j) u:=λw' hw j u au=>hw _ X p qa4 Q g3 j u au
      have fin:∀val,AR ρ am val->xs prog fD fC hs0 (HH K O) full.toArray (λC w'=>∃H L B,k H L=res/\Up ρ B/\ER m B H C/\MR w0 B L w') l (gr.put Y (some d) val) w:=λval av=>next (Up.refl ρ) ((D.put av k2).same (e':=⟨e'.vs,e'.ts,(id,o',l')::e'.hs,e'.ms⟩) rfl rfl) I k1
      rcases ak with⟨ht,y,rfl,rfl⟩|⟨ht,rfl⟩
      .cases g3 with
       |cons r1 r2=>
        cases r2;exact pG h1 ht (λw' hw=>by have:=aq w' hw 0 _ fx;exact this) (fin _ (r1.2.up hu)) qd4
      .exact sf h1 (by grind [j1.len]) fM (fin _ ⟨qa4,g3.up hu,rfl⟩) qd4
    .rename_i qd4;refine pb (kT F D G (λh=>?_) no);refine hg (λC w' J=>?_) (yv (LD (c:=λe E=>(lu m hs0 full l).f N e E k) F U D I W h) (.inr (.inl ⟨rfl,qd4⟩)));exact y26
   .split at G
    .rename_i T;refine pb (kT F D G (λh=>?_) no);refine hg (λC w' J=>?_) (yv (WT (c:=λe E=>(lu m hs0 full l).f N e E k) F U D I W h) (.inr (.inr ⟨T,λC w' J=>?_⟩)))
     .exact y26
     .obtain⟨e',M,B,g1,g2,g3,g4,_,_,g7⟩:=J;exact yu g4 (hu.trans g2) fM aa
    .rename_i T;refine pb (kT F D G (λh=>?_) no);refine hg (λC w' J=>?_) (yv (PA (c:=λe E=>(lu m hs0 full l).f N e E k) F U D I W h) (.inl T));exact y26
    .rename_i T;split at G
     .rename_i qd4;refine pb (kT F D G (λh=>?_) no);cases d with
      |none=>exact(Dz qd4).elim
      | some d=>
       obtain⟨s,t,x,el,id,j,l',vs,r,p,an,rfl,ay,aA,aL,aB,aC,aD,aM,aE,aF,aK,az⟩:=Le F D I h;obtain⟨e',k1,k3,k4,k2⟩:=lJ az;have ap:=VY T;have S:ER m ρ ⟨e'.vs,e'.ts,(id,j,l')::e'.hs,e'.ms⟩ (gr.put Y (some d) (.U (jI r))):=(D.put (v:= .v (.s r)) ⟨rfl,aC,aD⟩ k2).same rfl rfl;have X:(id,j,l')∈O:=(ad S I k1).1 _ j0;obtain⟨q1,q2⟩:=aa _ X;have q1:id<ab.n:=q1;rw[<-V.len]at q1;have Q:K[id]? =some K[id]:=fM;have ai:=hu _ _ Q;rw[aB]at ai;have ah:K[id]=p:=fM;rw[ah]at Q;obtain⟨qa4,g3,_⟩:=V.cells Q (l:=l') (o:=j) fM;have aw:=j1.one (g3.up hu) aE
       have ar:ja fD fC hs0 ⟨some d,.convert s t x,R,pos,af,none⟩= .h:=by
        simp[ja,T,qd4]
       refine gW fx (by grind [gd,Op.operands]) ?_;rw[ar];refine⟨.U (jI r),λw' hw=>?_,next (Up.refl ρ) S I k1⟩;have aI:=LM (w:=w') (c:=an) ay aA ap (λi u hu=>hw _ X p qa4 Q g3 i u (by rw[aw,aF];exact hu))
       simp_all [execOp,fR]
     .rename_i qd4;refine pb (kT F D G (λh=>?_) no);refine hg (λC w' J=>?_) (yv (LD (c:=λe E=>(lu m hs0 full l).f N e E k) F U D I W h) fM);exact y26
    .exact absurd G.symm F
def YD {g:Cl} {v:Mem} {B:Pl} {ws:i5} {t:En} {K:Mem} (y:res≠ .no) (D:kz w0 g) (J:res= .mk .pz t K) (I:∀n∈t.hs,B3 v t.ms n) (H:MR w0 B v ws) {hs0:ip Nat} {l2 l:ip li} {e:En} {E:Mem} (hu:Up B ρ) (F:ER m ρ e Y) (G:MR w0 ρ E w) (h:(lu m hs0 full l).f g e E (Jo m g full l2 v)=res):xs prog fD fC hs0 (HH B t.hs) full.toArray (λC w'=>∃d x u,(tS m full l2).f g d x Ew=res/\Up ρ u/\ER m u d C/\MR w0 u x w') l Y w:=by
 refine hg (λC w' ⟨d,x,u,h0,h1,L,h3⟩=>?_) (og y D (jN.fin y D J) I H hu F G h);obtain⟨g1,_⟩:=qp y (show Js v d.ms d.hs ((tS m full l2).f g d x Ew)=res from h0)
 grind
def wp_cut {N:Nat} {id:Nat} {l:ip li} {a:Act} {K:Env->i5->Prop} {Q:Exit->Act->i5->Prop} (cut:Nat) (hs:ip Nat) (H:i5->Prop) (g:pH N l.toArray=true) (hq:px fD fC hs cut l.toArray (Region.before l.toArray)=true) (hw:H w.drew) (x:Fits N Y a)
  (D:∀f d w',Fits N d f->K d w'->Q .normal f w')
  (h:xs prog fD fC hs H l.toArray (λd w'=>xs prog fD fC [] gr.gS l.toArray K (l.drop cut) d w') (l.take cut) Y w.drew):(Code.region id l.toArray true).wp prog Q a w:=by
 obtain⟨u,g⟩:=mT g;have t:=xx hq;have hle:cut<=l.length:=by simpa using t.le
 have h1:=n7 (N:=N) u g (l.take cut) 0 Y a w.drew fM hw x h;rw[kv,tD hle]at h1
 have v:ss2 prog fD fC hs H l.toArray (λf w'=>∃d,Fits N d f/\K d w') (List.range' 0 cut) (List.range' cut (l.length-cut)) a w.drew:=by
  refine JT _ _ a _ hw (λf w' _ ⟨d,y,C⟩=>?_) h1;have:=n7 (N:=N) u g (l.drop cut) cut d f w' fM trivial y C;rwa[lY]at this
 refine wp_region_any mixed (vX t fM l.toArray.size _ (List.range' 0 cut) (List.range' cut (l.length-cut)) a _ (λ_=>hw) iB (by simp;omega) ?_ fM fM (λi=>?_) (λi o E B=>?_) v)
 .have e:List.range' 0 cut++List.range' cut (l.length-cut)=List.range l.length:=by
   have:=V9 (s:=0) (m:=cut) (n:=l.length-cut);rw[iM]at this;rw[this,xE]
   congr 1;omega
  grind [List.pairwise_lt_range]
 .rw[iS,C8,C8];simp[pq]
  grind
 .exfalso;rw[pq,Ry]at B
  grind
theorem F2 {io:Array li} {k:Nat}:∀{l:ip Nat},Fv io l= .held k->px fD fC (Oc io k) k io (Region.before io)=true
 |[],h=>by cases h
 | q::l,h=>by
  have d:cN q (λk=>(match px fD fC (Oc io k) k io (Region.before io)with
   |true=>Rk.held k
   |false=>Fv io l:Rk))=Rk.held k:=h
  rw[iT]at d;split at d
  .grind
  .exact F2 d
theorem Ch {io:Array li}:∀{l:ip Nat},Fv io l≠ .text
 |[],h=>by cases h
 | q::l,h=>by
  have d:cN q (λk=>(match px fD fC (Oc io k) k io (Region.before io)with
   |true=>Rk.held k
   |false=>Fv io l:Rk))=Rk.text:=h
  rw[iT]at d;split at d
  .cases d
  .exact Ch d
