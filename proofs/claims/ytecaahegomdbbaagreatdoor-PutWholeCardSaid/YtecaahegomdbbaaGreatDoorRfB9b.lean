/- Parts of the proof. -/
import Derived.Lib.BufferWrite
import Derived.Test.YtecaahegomdbbaaGreatDoorRfB5
import Derived.Test.YtecaahegomdbbaaGreatDoorRfB8
import Derived.Test.YtecaahegomdbbaaGreatDoorRfB9a
set_option linter.all false
set_option maxRecDepth 100000
set_option maxHeartbeats 64000000
namespace Go.Proofs.YtecaahegomdbbaaGreatDoor.gp
open Go.Proofs.Tryz
open Go.RowKit
variable {af:Array Edge} {full:Array Oper} {cs:Array Value} {env:Env} {K:Env->World->Prop} {hs:List Nat} {rest:List Oper} {g:Nat} {x:Operand} {pos:String} {d:Tmp} {ty:TypeId} {w:World} {H:World->Prop}
section
theorem yr (p:En->Bool):∀(l:List En) (k:Nat),(EL p l k= -1/\∀x∈l,p x=false)∨∃(i:Nat) (x:En),EL p l k=((k+i:Nat):Int)/\l[i]? =some x/\p x=true/\∀y∈l.take i,p y=false
 |[],k=> .inl ⟨rfl,λx d=>by cases d⟩
 | y::l,k=>by
  rw[EL];cases h:p y with
  |true=>exact .inr ⟨0,y,by rw[if_pos rfl];rfl,rfl,h,λz a=>by simp at a⟩
  | false=>
   rw[if_neg fV];rcases yr p l (k+1)with⟨h1,f⟩|⟨i,x,h1,f,g,m⟩
   ·refine .inl ⟨h1,λx d=>?_⟩;rcases hX.1 d with rfl|d
    ·exact h
    ·exact f x d
   ·refine .inr ⟨i+1,x,by rw[h1];congr 1;omega,f,g,λz a=>?_⟩;rw[List.take_succ_cons]at a;rcases hX.1 a with rfl|a
    ·exact h
    ·exact m z a
theorem xl {α:Type} (p:α->Bool) {l:List α} {j:Nat} {x:α} (h:l[j]? =some x):(l.take (j+1)).filter p=(l.take j).filter p++if p x then[x]else[]:=by
 rw[kO,h,Ox];cases a:p x<;>simp[a]
def nB (p:En->Bool) (e:En):Bool:=!p e
structure DfI (w0:World) (B gE cE:Nat) (l:List En) (p:En->Bool) (x:Nat×Nat×List En) (w:World):Prop where
 f:Fr (· =gE) w0 w
 o:Ow hI 2 w B 49 (.slice (some ⟨gE,0,none⟩) l.length cE) x.2.2
 n:x.2.2.length=l.length
 ij:x.1<=x.2.1
 jn:x.2.1<=l.length
 a:x.2.2.take x.1=(l.take x.2.1).filter (nB p)
 d:x.2.2.drop x.2.1=l.drop x.2.1
attribute [local irreducible] xs T
theorem qw (w:World) (B a d:Nat) (l:List En) (v:FuncId) (cap:Array Value) (p:En->Bool) (hO:Ow hI 2 w B 49 (.slice (some ⟨a,0,none⟩) l.length d) l) (aD:l.length<=1000000) (h0:0<l.length) (T:bit qs v=true)
  (W:∀w',Fr (· =a) w w'->∀x∈l,fL prog v (#[.agg (hI x).toArray]++cap) w' λr av=>r= .bool (p x)/\Ext w' av):
  fL prog 111 #[.slice (some ⟨a,0,none⟩) l.length d,.func (.func v) #[] cap] w λr w'=>r= .slice (some ⟨a,0,none⟩) (l.filter (nB p)).length d/\Ow hI 2 w' B 49 r (l.filter (nB p))/\Fr (· =a) w w':=by
 refine gK func111 fx fF ?_;obtain⟨_,_,e0,K,ay⟩:=hO.form;injection e0 with _ _ e0
 subst e0;refine fA ?_;refine fI fx fx (zG w _ l v cap p hO.rw T λw' ab x m=>W w' ab.fr x m) ?_;rintro r aF ⟨rfl,E⟩;rcases yr p l 0 with⟨h1,I⟩|⟨i0,aw,h1,Y,an,I⟩
 ·rw[h1];have ak:l.filter (nB p)=l:=VV.2 λx m=>by unfold nB;rw[I x m];rfl
  rw[ak];refine fA ?_;exact fB fx fx ⟨rfl,hO.ext E,E.fr⟩
 ·rw [h1,iC];have al:=(j0.1 Y).1;have az:a<w.heap.size:=(hO.gH rfl).2;refine fA ?_
  refine gA (α:=Nat×Nat×List En) (λx=>[(0,.slice (some ⟨a,0,none⟩) l.length d),(1,.func (.func v) #[] cap),(5,.int .i64 (x.1:Int)),(6,.int .i64 (x.2.1:Int))]) (DfI w B a d l p) (λx=>l.length-x.2.1) (i0,i0+1,l) (sub ⟨rfl,rfl,rfl,rfl⟩)
   ⟨E.fr,hO.ext E,rfl,KT _,al,by
    dsimp only;rw[xl (nB p) Y,show nB p aw=false by unfold nB;rw[an];rfl,if_neg fV,nk]
    exact(VV.2 λy au=>by unfold nB;rw[I y au];rfl).symm,rfl⟩ ?_
  rintro⟨i,j,cur⟩ H ⟨g,n,C,V,am,s,F⟩;dsimp only at g n C V am s F⊢;have z2:=g.size
  by_cases fW:j<l.length
  ·obtain⟨x,m⟩:∃x,l[j]? =some x:=⟨_,kp fW⟩;have ar:=jS m
   have aq:cur[j]? =some x:=by
    have M:(cur.drop j)[0]? =(l.drop j)[0]? :=by rw[F]
    rw[Ab,Ab,kS]at M;rw[M,m]
   obtain⟨_,_,f,_,_,_,_,aj⟩:=gD.go (show gD H B 49 2 (.slice (some ⟨a,0,none⟩) l.length d) cur.length (cur.flatMap hI)from n) fy;injection f with f _ _
   injection f with f
   injection f with f
   subst f;have G:=xl (nB p) m
   repeat' (first|refine gF j (j*2) rfl rfl rfl rfl fy fW ?_|refine fT ?_|fail)
   refine hL (cs:=hI x) fx fF (λq u hu=>aj _ u (flat_get gj aq hu)) ?_;refine fA ?_;refine gy (z:= .agg #[.string ⟨#[]⟩,.int .i64 0]) fF (λD aa ad aE=>?_);refine fA ?_;refine hd aa fx fx fF fx (yb x) (λZ N af=>?_);have O:Ext H Z:=ad.trans af λj aC e=>by have:j=H.heap.size:=e;omega
   refine fA ?_;refine gM (t:=49) N fx fx ?_;refine fA ?_;refine vQ (vs:=[.agg (hI x).toArray]) fx fx T (W Z (g.te O) x ar) ?_;rintro r aG ⟨rfl,Q⟩;have J:=O.t Q;have S:=n.ext J;cases X:p x with
   |true=>
    have L:nB p x=false:=by unfold nB;rw[X];rfl
    rw[L,if_neg fV,nk]at G;refine fA ?_;exact gn ⟨(i,j+1,cur),sub ⟨rfl,rfl,rfl,rfl⟩,⟨g.te J,S,C,by dsimp only;omega,fW,by rw[s,G],by dsimp only;rw[←rb,F,rb]⟩,(by show l.length-(j+1)<l.length-j;omega)⟩
   |false=>
    have L:nB p x=true:=by unfold nB;rw[X];rfl
    rw[L,if_pos rfl]at G;refine fA ?_;refine gM (t:=49) (N.ext Q) fx fx ?_;refine Nf ?_;refine Le gj i S fx fx fx fF (λu hu=>mK [x] u (by simpa using hu)) fy (λaH ai ag=>?_);refine fA ?_;refine gn ⟨(i+1,j+1,cur.set i x),sub ⟨rfl,rfl,rfl,rfl⟩,⟨(g.te J).t ag,ai,by dsimp only;rw[mo];exact C,by dsimp only;omega,fW,?_,?_⟩,(by show l.length-(j+1)<l.length-j;omega)⟩
    ·dsimp only;rw[G,←s,kO,LX fy,Va (gJ _)];rfl
    ·dsimp only;rw[List.drop_set_of_lt fy,←rb,F,rb]
  ·obtain rfl:j=l.length:=fy;rw[km]at s;have aB:i<=l.length:=V;have U:(l.filter (nB p)).length=i:=by rw[←s,kt];omega
   have ao:(cur.flatMap hI).take (i*2)=(l.filter (nB p)).flatMap hI:=by
    rw[←s];have ap:cur.flatMap hI=(cur.take i).flatMap hI++(cur.drop i).flatMap hI:=by rw[←tO,lv]
    rw[ap];exact Gl (by rw[gl gj,kt];omega)
   have key:∀D,gD D B 49 2 (.slice (some ⟨a,0,none⟩) i d) i ((cur.flatMap hI).take (i*2))->Ow hI 2 D B 49 (.slice (some ⟨a,0,none⟩) i d) (l.filter (nB p)):=λD h=>by
    unfold Ow;rw[U,←ao];exact h
   have R:gD H B 49 2 (.slice (some ⟨a,0,none⟩) l.length d) l.length (cur.flatMap hI):=by
    unfold Ow at n;rw[C]at n;exact n
   rw[U]
   by_cases aA:i<l.length
   ·refine fA ?_;refine rH i fx fx fx fx fy K fy ?_;refine fA ?_;refine aaH (l:=i) iZ fx fV (λu hu=>lj.1 (show([Value.string ⟨#[]⟩,Value.int .i64 0]:List Value).all (·.oneCell')=true from fx) u hu) R fx fy fy (λD ah ae=>?_);refine fA ?_;refine LJ i fx fx fx fx fy fy ?_;refine fA ?_;exact fB fx fx ⟨rfl,key _ ah,g.t ae⟩
   ·obtain rfl:i=l.length:=fy;refine fA ?_;refine P5 (l:=(l.length:Int)) fx fx fx fy fy K (λax _=>?_);refine fA ?_;refine Vb underlying23 fx (by rw[jf];omega) ?_;refine fA ?_;refine LJ l.length fx fx fx fx K fy ?_;refine fA ?_
    exact fB fx fx ⟨rfl,key _ (by
     have e:(cur.flatMap hI).take (l.length*2)=cur.flatMap hI:=pG (by rw[gl gj,C];omega)
     rw[e];exact R),g⟩
theorem Gk (w:World) (B a cN:Nat) (l:List gG) (n:Nat) (hO:Ow gz 12 w B 37 (.slice (some ⟨a,0,none⟩) l.length cN) l) (af:l.length<=1000000) (F:n<l.length) (S:∀x∈l,ix w x):
  fL prog 173 #[.slice (some ⟨a,0,none⟩) l.length cN,.int .i64 (n:Int),.int .i64 ((n:Int)+1)] w λr w'=>r= .slice (some ⟨a,0,none⟩) (l.length-1) cN/\Ow gz 12 w' B 37 r (l.eraseIdx n)/\Fr (· =a) w w':=by
 refine kz func173 fx fF ?_;obtain⟨_,_,e0,f,ae⟩:=hO.form;injection e0 with _ _ e0
 subst e0;have ad:gD w B 37 12 (.slice (some ⟨a,0,none⟩) l.length cN) l.length (l.flatMap gz):=hO;have Q:(l.eraseIdx n).length=l.length-1:=by rw[LR,if_pos F]
 have O:l.eraseIdx n=l.take n++l.drop (n+1):=Q1 l n
 repeat' (first|refine acj n (n+1) l.length rfl rfl rfl rfl rfl rfl fy rfl fy fy f (λv=>?_)|refine fT ?_|fail)
 have X:((n:Int)+1).toNat=n+1:=fy;have E:=hO.ext (Fr.drew hG w);have g:=Ow.pre gI E (Rx F);unfold Ow at g;have H:(l.take n).length=n:=by rw[kt];omega
 rw[H]at g;have V:l.flatMap gz=(l.take (n+1)).flatMap gz++(l.drop (n+1)).flatMap gz:=by rw[←tO,lv]
 have W:((l.take (n+1)).flatMap gz).length=(n+1)*12:=by rw[gl gI,kt];omega
 have N:((l.drop (n+1)).flatMap gz).length=(l.length-(n+1))*12:=by rw[gl gI,lH]
 obtain⟨_,_,d,_,R,_,_,M⟩:=gD.go (show gD w.drew B 37 12 (.slice (some ⟨a,0,none⟩) l.length cN) l.length (l.flatMap gz)from E) fy;injection d with d _ _
 injection d with d
 injection d with d
 subst d;refine ZD n fx fx fx fx fy f ?_;refine fA ?_;refine P5 (l:=((n:Int)+1)) fx fx fx fy fy f (λm s=>?_);rw[X]at s⊢
 have U:Row w.drew (.slice m (l.length-(n+1)) (cN-(n+1))) (l.length-(n+1)) ((l.drop (n+1)).flatMap gz):=
  ⟨m,_,rfl,fy,by unfold maxLen;omega,λh0=>⟨a,0+(n+1)*12,s a 0 rfl fy,R,λj u hu=>by
   rw[show 0+(n+1)*12+j=(n+1)*12+j by omega];refine M _ u ?_;rw[V,qE fy,W,show(n+1)*12+j-(n+1)*12=j by omega]
   exact hu⟩⟩
 have T:∀u∈(l.drop (n+1)).flatMap gz,u.oneCell'=true:=λu hu=>by
  obtain⟨x,Y,hu⟩:=yu.1 hu;exact iN (S x (U5 Y)) u hu
 refine fA ?_;refine ab3 nx fx g fx U N T fy (λZ C J=>?_);have I:Fr (· =a) w Z:=(show Ext w w.drew from Fr.drew hG w).fr.t J;have G:n+(l.length-(n+1))=l.length-1:=fy;rw[G]at C⊢;refine fA ?_;refine adD (l:=((l.length-1:Nat):Int)) (h:=(l.length:Int)) fx fx fx fx fy fy fy (λab y=>?_);simp only[jf]at y⊢;obtain rfl:=y a 0 rfl fy;obtain⟨r,L⟩:=gD.grow C (n':=l.length) fy fy;refine fA ?_;refine aaH (l:=l.length-1) nx fx fV (λu hu=>lj.1 (show(gz Nc).all (·.oneCell')=true from fx) u hu) L fx fy fy (λaa D K=>?_)
 have hOr:Ow gz 12 aa B 37 (.slice (some ⟨a,0,none⟩) (l.length-1) cN) (l.eraseIdx n):=by
  unfold Ow;rw[Q,O,tO];rw[Gl (by rw[hQ,gl gI,gl gI,H,lH,←tG,G])]at D;exact D
 refine fA ?_;exact fB fx fx ⟨rfl,hOr,I.t K⟩
end
section
section
theorem adX {f:FuncId} {a:List Operand} {vs:List Value} (hc:Ol env a=some vs) (h:xs prog fD fC hs H full K rest ((d,.func (.func f) #[] vs.toArray)::env) w):
  xs prog fD fC hs H full K (⟨some d,.makeFunc (.func f) #[] a.toArray,ty,pos,af,none⟩::rest) env w:=by
 obtain⟨h1,g⟩:=n4 hc;refine gR fx (by simpa[fX,Op.operands]using g) ⟨_,λw'=>?_,h⟩;simp[execOp,Instr.makeFunc,h1]
end
attribute [local irreducible] xs T
def LM:Value->Bool
 | .slice .. =>false
 |_=>true
theorem Rw.VL {α:Type} {a:α->List Value} {w':World} {v:Value} {l:List α} {t:TypeId} (h:Rw a w v l) (hc:∀x,∃u r,a x=u::r/\LM u=true) (y:fU w g t cs) (C:∀u∈cs.toList,LM u=false) (d:Fr (· =g) w w'):Rw a w' v l:=by
 obtain⟨A,c,rfl,h1,n,s⟩:=h;refine⟨A,c,rfl,h1,n,λh0=>?_⟩;obtain⟨b,o,rfl,B,f⟩:=s h0
 have D:¬b=g:=λe=>by
  subst e;cases l with
  |nil=>simp at h0
  | cons x r=>
   obtain⟨u,q,hu,m⟩:=hc x;have:=f 0 u (by rw[wb,hu];rfl);rw[y.cell]at this
   have hm:u∈cs.toList:=by
    rw[←E0]at this;exact jS this
   rw[C u hm]at m;cases m
 exact⟨b,o,rfl,uY B d.size,λj u hu=>d.cell (f j u hu) D⟩
theorem nj.VL {w w':World} {ve vn:Value} {l:List gG} {t:fY} {g:Nat} {ty:TypeId} {cs:Array Value} (h:nj w ve vn l t) (f:fU w g ty cs) (v:∀u∈cs.toList,LM u=false) (s:Fr (· =g) w w'):nj w' ve vn l t:=
 ⟨h.e.VL (λ_=>⟨_,_,rfl,rfl⟩) f v s,h.n.VL (λ_=>⟨_,_,rfl,rfl⟩) f v s,λy x=>⟨(h.i y x).a.VL (λ_=>⟨_,_,rfl,rfl⟩) f v s,(h.i y x).c.VL (λ_=>⟨_,_,rfl,rfl⟩) f v s,(h.i y x).d.VL (λ_=>⟨_,_,rfl,rfl⟩) f v s⟩,h.m⟩
theorem Lm (A B:Option Addr) (n c n' a:Nat):∀u∈(#[Value.slice A n c,Value.slice B n' a]).toList,LM u=false:=λu hu=>by
 simp only[hX,sC,or_false]at hu;rcases hu with rfl|rfl<;>rfl
end
section
def tb (m:gZ) (t:fY) (p q:fQ):Int:=
 if(gi m).2.1≠0 then(gi m).2.1 else if(hC t q).2≠0 then(hC t q).2 else if(nodeAt t (hC t q).1).kind=1 then 8 else if ja t p≠0 then ja t p else sQ t p
def oK (m:gZ) (t:fY) (p q:fQ):fY:=if tb m t p q=0 then pV t p (hC t q).1 (gi m).2.2.calls else t
def nZ (m:gZ) (t:fY) (p:fQ) (e:Nd->Int) (d:Nd->Nd):Int:=
 if(gi m).2.1≠0 then(gi m).2.1 else if(hC t p).2≠0 then(hC t p).2 else if e (nodeAt t (hC t p).1)≠0 then e (nodeAt t (hC t p).1)else if gT (d (nodeAt t (hC t p).1))=false then 1 else 0
def nr (m:gZ) (t:fY) (p:fQ) (e:Nd->Int) (d:Nd->Nd):fY:=if nZ m t p e d=0 then⟨t.es,t.ns.set (hC t p).1.toNat (d (nodeAt t (hC t p).1))⟩else t
def EdC (w0:World) (B g:Nat) (f:FuncId) (cap:Array Value) (e:Nd->Int) (d:Nd->Nd):Prop:=∀(w:World) (b:Nat) (y:gG),Fr (· =g) w0 w->w0.heap.size<=b->fU w b 37 (gz y).toArray->qH w B y->
 fL prog f (#[.pointer (some ⟨b,0,none⟩)]++cap) w λr w'=>∃a,r= .int .i64 (e y.n)/\(e y.n=0->a.n=d y.n)/\fU w' b 37 (gz a).toArray/\(e y.n=0->qH w' B a)/\(∀b',NdB a b'->NdB y b'∨w.heap.size<=b')/\Fr (· =b) w w'
attribute [local irreducible] xs T
theorem NS (w:World) (B g:Nat) (m:gZ) (vf ve vn:Value) (fK:List gG) (t:fY) (p q:fQ) (h:nC w B g m vf ve vn fK t) (hc:0<=m.calls/\m.calls<=4000000000000000000) (R:t.es.length<=900000):
  fL prog 69 #[.pointer (some ⟨g,0,none⟩),.string (su p),.string (su q)] w λr w'=>r= .int .i64 (tb m t p q)/\∃V U,iS w B g vf ve vn fK w' (gi m).2.2 (oK m t p q) V vn U:=by
 refine kz func69 fx fF ?_;have hlen:=h.i.tr.len;obtain⟨A,c,rfl,ab,ae,_⟩:=h.i.tr.e.op gj;obtain⟨Z,H,rfl,ad,ag,I⟩:=h.i.tr.n.op gI;refine fA ?_;refine fI fx fx (lJ w g m vf _ A _ c h.i.k h.i.h h.i.f hc h.i.af) ?_;rintro r W ⟨rfl,J,v⟩;have G:=h.i.put v J (iP m);have x:=iS.put h v G (iP m);unfold oK tb
 by_cases e:(gi m).2.1=0
 ·rw [if_neg (λh=>h e),e];refine fA ?_;refine fI fx fx (mT W g _ vf _ _ fK t q G) ?_;rintro r D ⟨rfl,F⟩;have d:=x.t (iS.ext x.o F)
  by_cases s:(hC t q).2=0
  ·rw[if_neg (λh=>h s),s];obtain⟨i,hi,Q⟩:=find_range h.i.r s;rw[hi];obtain⟨b,o,y,rfl,aa,S,_,O⟩:=I.at_ (i:=i) fy;have N:b≠g:=h.i.a b (.inr (.inl rfl));have T:nodeAt t (i:Int)=y.n:=by unfold nodeAt;rw[jf];exact h.i.tr.getD S
   have k5:D.cell? ⟨g,5,none⟩=some (.slice (some ⟨b,o,none⟩) fK.length H):=d.o.i.k.cell 5;have ah:D.cell? ⟨b,o+i*12+0,none⟩=some (.int .i64 y.n.kind):=(v.te F).cell (O 0 _ rfl) N;rw[T]
   by_cases hk:y.n.kind=1
   ·rw[if_pos hk];refine Ri ?_;exact fB fx fx ⟨rfl,_,_,d⟩
   ·rw[if_neg hk];refine Ri ?_;refine fI fx fx (tm D g _ vf _ _ fK t p d.o.i) ?_;rintro r X ⟨rfl,K⟩;have u:=d.t (iS.ext d.o K)
    by_cases e4:ja t p=0
    ·rw[if_neg (λh=>h e4),e4];refine fA ?_;refine fI fx fx (Db X g _ vf _ _ fK t p u.o.i) ?_;rintro r Y ⟨rfl,L⟩;have C:=u.t (iS.ext u.o L)
     by_cases E:sQ t p=0
     ·rw[E,if_pos rfl];refine fA ?_;refine fI fx fx (Ah Y B g _ vf _ _ fK t p i C.o Q R) ?_;rintro r ak ⟨rfl,aj,ai,M⟩;refine fA ?_;exact fB fx fx ⟨rfl,_,_,C.t M⟩
     ·rw[if_neg E];refine fA ?_;exact fB fx fx ⟨rfl,_,_,C⟩
    ·rw[if_pos e4,if_neg e4];refine fA ?_;exact fB fx fx ⟨rfl,_,_,u⟩
  ·rw[if_pos s,if_neg s];refine fA ?_;exact fB fx fx ⟨rfl,_,_,d⟩
 ·rw[if_pos e,if_neg e];refine fA ?_;exact fB fx fx ⟨rfl,_,_,x⟩
theorem rS (w:World) (B g:Nat) (m:gZ) (vf ve vn:Value) (fK:List gG) (t:fY) (p:fQ) (Q:FuncId) (cap:Array Value) (ed:Nd->Int) (nd:Nd->Nd) (h:nC w B g m vf ve vn fK t) (hc:0<=m.calls/\m.calls<=4000000000000000000) (aH:bit qs Q=true) (aG:EdC w B g Q cap ed nd)
  (ax:∀n∈t.ns,ed n=0->G0 (nd n)/\fE (nd n).data<=1000000):
  fL prog 51 #[.pointer (some ⟨g,0,none⟩),.string (su p),.func (.func Q) #[] cap] w λr w'=>r= .int .i64 (nZ m t p ed nd)/\∃aL,iS w B g vf ve vn fK w' (gi m).2.2 (nr m t p ed nd) ve vn aL:=by
 refine kz func51 fx fF ?_;have hlen:=h.i.tr.len;have aR:=h.i.k.lt;obtain⟨A,c,rfl,aO,aP,_⟩:=h.i.tr.e.op gj;refine fA ?_;refine fI fx fx (lJ w g m vf _ A _ c h.i.k h.i.h h.i.f hc h.i.af) ?_;rintro r aM ⟨rfl,an,S⟩;have ah:=h.i.put S an (iP m);have U:=iS.put h S ah (iP m);unfold nr nZ
 by_cases e:(gi m).2.1=0
 ·rw [if_neg (λh=>h e),e];refine fA ?_;refine fI fx fx (mT aM g _ vf _ _ fK t p ah) ?_;rintro r v ⟨rfl,Z⟩;have D:=U.t (iS.ext U.o Z)
  by_cases G:(hC t p).2=0
  ·rw [if_neg (λh=>h G),G];obtain⟨i,hi,aU⟩:=find_range h.i.r G;rw[hi,jf];obtain⟨C,cN,rfl,aS,aT,aQ,_,aE⟩:=gD.go h.o.n fy;obtain⟨y,K⟩:∃y,fK[i]? =some y:=⟨_,kp fy⟩;have aJ:nodeAt t (i:Int)=y.n:=by unfold nodeAt;rw[jf];exact h.i.tr.getD K
   rw[aJ];have ag:C≠g:=h.i.a C (.inr (.inl rfl));have k5:v.cell? ⟨g,5,none⟩=some (.slice (some ⟨C,0,none⟩) fK.length cN):=D.o.i.k.cell 5;have aj:=D.o.o.i y (jS K);have R:=S.te Z;refine PI ?_;refine hL (cs:=gz y) fx fF (λj u hu=>R.cell (aE _ u (flat_get gI K hu)) ag) ?_;refine fA ?_;refine gy (z:= .agg tP) fF (λa0 ao au aY=>?_);refine fA ?_;refine hd ao fx fx fF fx (fJ (l:=gz y) (lj.2 (iN aj.in))) (λal ap av=>?_);have H:Ext v al:=au.trans av λj aI e=>by have:j=v.heap.size:=e;omega
   have aN:=D.t (iS.ext D.o H);have z3:=R.size;refine fA ?_;refine vQ (vs:=[.pointer (some ⟨v.heap.size,0,none⟩)]) fx fx aH (aG al v.heap.size y (R.te H) z3 ap (aj.ext H)) ?_;rintro r X ⟨O,rfl,aK,Y,aA,aD,aw⟩;have aV:∀b,b=g∨vf.ownBlock=some b∨II (.slice A t.es.length c) (.slice (some ⟨C,0,none⟩) fK.length cN) fK b->b<v.heap.size:=λb d=>(D.o.gH d).2
   have aa:Ext v X:=H.trans aw λj aI e=>by have:j=v.heap.size:=e;omega
   have V:=D.t (iS.ext D.o aa)
   by_cases F:ed y.n=0
   ·rw [if_neg (λh=>h F),F];have ak:=aK F;have ad:=aA F
    have aF:∀j u,(qJ O)[j]? =some u->X.cell? ⟨v.heap.size,1+j,none⟩=some u:=λj u hu=>by
     rw[Y.cell,pB];rcases j with _|_|_|_|_|_|j
     all_goals first|exact hu|simp[qJ]at hu
    refine fA ?_;refine hL (cs:=qJ O) fx fF aF ?_;refine fA ?_;refine fI fx fx (uc X O ad.in) ?_;rintro r N ⟨rfl,L⟩;rw[ak];have W:=V.t (iS.ext V.o L);cases aW:gT (nd y.n)with
    |false=>
     rw[if_pos rfl,if_neg fV];refine fA ?_;exact fB fx fx ⟨rfl,_,W⟩
    | true=>
     rw[if_neg fV,if_pos rfl];have M:=Fr.drew hG N;have E:=W.t (iS.ext W.o M);have aZ:N.drew.cell? ⟨g,5,none⟩=some (.slice (some ⟨C,0,none⟩) fK.length cN):=E.o.i.k.cell 5;have aq:=(Y.ext L).ext M;have ae:=(ad.ext L).ext M;refine fA ?_;refine gM (t:=37) aq fx fx ?_;refine PI ?_;refine Le gI i E.o.o.n fx fx fx fF (iN ae.in) fy (λam aB T=>?_);have ab:Fr (DG g (.slice A t.es.length c) (.slice (some ⟨C,0,none⟩) fK.length cN)) N.drew am:=T.mono λb _ d=> .inr (.inr (by have:b=C:=d;rw[this];rfl))
     have aX:nd y.n∈t.ns.set i (nd y.n):=List.mem_iff_getElem?.2 ⟨i,by rw[LX fy]⟩;obtain⟨ay,az⟩:=ax y.n (jS (h.i.tr.get K)) F;have ai:∀n∈t.ns.set i (nd y.n),n∈t.ns∨n=nd y.n:=λn I=>AB I
     have ar:Ext v N.drew:=(aa.t L).t M
     have aC:iS v B g vf (.slice A t.es.length c) (.slice (some ⟨C,0,none⟩) fK.length cN) fK am (gi m).2.2 ⟨t.es,t.ns.set i (nd y.n)⟩ (.slice A t.es.length c) (.slice (some ⟨C,0,none⟩) fK.length cN) (fK.set i O):=
      ⟨E.o.step ab rfl (E.o.i.k.fr T (λe=>ag e.symm)) (E.o.o.e.fr T λb d e=>E.o.o.e.apart E.o.o.n fV d (by have:b=C:=e;rw[this];rfl)) aB
       (λx J=>(AB J).elim (E.o.o.i x) λe=>by rw[e];exact ae) (by rw[qu,h.o.m,ak]) (by rw[mo];exact h.i.r) h.i.h
       (λn I=>(ai n I).elim (h.i.l n) λe=>by rw[e];exact ay) (λn I=>(ai n I).elim (h.i.s n) λe=>by rw[e];exact az) h.i.le (by rw[mo];exact h.i.ln),ar.fr.t ab,λ_ d=> .inl d,λx J b d=>?_⟩
     ·refine fA ?_;exact fB fx fx ⟨rfl,_,D.t aC⟩
     ·rcases AB J with J|rfl
      ·exact .inl ⟨x,J,d⟩
      ·exact(aD b d).imp (λd=>⟨y,jS K,d⟩) λd=>by have:=H.size;omega
   ·rw[if_pos F,if_neg F];refine fA ?_;exact fB fx fx ⟨rfl,_,V⟩
  ·rw[if_pos G,if_neg G];refine fA ?_;exact fB fx fx ⟨rfl,_,D⟩
 ·rw[if_pos e,if_neg e];refine fA ?_;exact fB fx fx ⟨rfl,_,U⟩
end
section
theorem pY (m:gZ):m.calls<=(gi m).2.2.calls/\(gi m).2.2.calls<=m.calls+1:=by
 unfold gi;split
 ·exact⟨Q0 _,by dsimp only;omega⟩
 ·split
  ·exact⟨by dsimp only;omega,by dsimp only;omega⟩
  ·split<;>exact⟨by dsimp only;omega,by dsimp only;omega⟩
theorem qH.ne {B b:Nat} {x:gG} {e:TypeId} (h:qH w B x) (g:fU w b e cs) (h1:68≠e) (m:70≠e) (n:39≠e) {b':Nat} (f:x.va.ownBlock=some b'∨x.vc.ownBlock=some b'∨x.vd.ownBlock=some b'):b'≠b:=by
 rintro rfl;rcases f with f|f|f
 ·obtain⟨c,hc⟩:=h.a.x3 f;exact hc.Br g h1 rfl
 ·obtain⟨c,hc⟩:=h.c.x3 f;exact hc.Br g m rfl
 ·obtain⟨c,hc⟩:=h.d.x3 f;exact hc.Br g n rfl
attribute [local irreducible] xs T
end
section
section
theorem Z6 {t m:TypeId} {y:Operand} {k:IntKind} {a b:Int} (f:gh env x=some (.int k a)) (g:gh env y=some (.int k b)) (h:xs prog fD fC hs H full K rest ((d,.int k (bits .andNot k a b))::env) w):
  xs prog fD fC hs H full K (⟨some d,.binOp .andNot t x y m,ty,pos,af,none⟩::rest) env w:=by
 refine jA f g (eqGuard_at_int ..) (λw'=>?_) h;rw[binOp_andNot,intBits_andNot];rfl
end
def Fk (z:Int):Int:=bits .andNot .i64 z 3584
def pI (a b:Int) (n:Nd):Nd:={n with uid:=a,gid:=b,mode:=if n.kind=1 then n.mode else Fk n.mode}
def qT (a:Int) (n:Nd):Nd:={n with mode:=a}
attribute [local irreducible] xs T
theorem Nh (w:World) (b m f:Nat) (y:gG) (d a:Int) (F:fU w b 37 (gz y).toArray) (D:w.cell? ⟨m,0,none⟩=some (.int .i64 d)) (E:w.cell? ⟨f,0,none⟩=some (.int .i64 a)) (u:¬f=b):
  fL prog 177 #[.pointer (some ⟨b,0,none⟩),.pointer (some ⟨m,0,none⟩),.pointer (some ⟨f,0,none⟩)] w λr w'=>r= .int .i64 0/\fU w' b 37 (gz ⟨pI d a y.n,y.va,y.vc,y.vd⟩).toArray/\Fr (· =b) w w':=by
 refine kz func177 fx fF ?_;have C:=Fr.drew hG w;have k6:w.drew.cell? ⟨m,0,none⟩=some (.int .i64 d):=D;have k7:w.drew.cell? ⟨f,0,none⟩=some (.int .i64 a):=E;refine fA ?_;refine kZ [8] (λw'=>w'.cell? ⟨f,0,none⟩=some (.int .i64 a)) fF (by decide+kernel) k7 ?_;refine FQ ?_;refine iq (F.ext C) fx fx fF fx fx (λK G B=>?_) (λw' s=>s.cell k7 u);refine FQ ?_;refine iq G fx fx fF fx fx (λv g I=>?_) (λw' s=>s.cell (B.cell k7 u) u);have x:Fr (· =b) w v:=((show Ext w w.drew from C).fr.t B).t I;have q0:v.cell? ⟨b,0,none⟩=some (.int .i64 y.n.kind):=g.cell 0;have q1:v.cell? ⟨b,1,none⟩=some (.int .i64 y.n.mode):=g.cell 1
 by_cases hk:y.n.kind=1
 ·have e:pI d a y.n={y.n with uid:=d,gid:=a}:=by unfold pI;rw[if_pos hk]
  rw[e];refine fA ?_;exact fB fx fx ⟨rfl,g,x⟩
 ·have e:pI d a y.n={y.n with uid:=d,gid:=a,mode:=Fk y.n.mode}:=by unfold pI;rw[if_neg hk]
  rw[e]
  repeat' (first|refine Z6 rfl rfl ?_|refine fT ?_|fail)
  refine iq g fx fx fF fx fx (λL H J=>?_);refine fA ?_;exact fB fx fx ⟨rfl,H,x.t J⟩
theorem JC (w:World) (b a:Nat) (y:gG) (d:Int) (f:fU w b 37 (gz y).toArray) (s:w.cell? ⟨a,0,none⟩=some (.int .i64 d)):
  fL prog 182 #[.pointer (some ⟨b,0,none⟩),.pointer (some ⟨a,0,none⟩)] w λr w'=>r= .int .i64 0/\fU w' b 37 (gz ⟨qT d y.n,y.va,y.vc,y.vd⟩).toArray/\Fr (· =b) w w':=by
 refine gK func182 fx fF ?_;refine fA ?_;refine iq f fx fx fF fx fx (λt g m=>?_);refine fA ?_;exact fB fx fx ⟨rfl,g,m⟩
theorem IS (w:World) (b a:Nat) (y:gG) (d:Int) (f:fU w b 37 (gz y).toArray) (s:w.cell? ⟨a,0,none⟩=some (.int .i64 d)):
  fL prog 52 #[.pointer (some ⟨b,0,none⟩),.pointer (some ⟨a,0,none⟩)] w λr w'=>r= .int .i64 0/\fU w' b 37 (gz ⟨h7 y.n d,y.va,y.vc,y.vd⟩).toArray/\Fr (· =b) w w':=by
 refine gK func52 fx fF ?_;refine fA ?_;refine iq f fx fx fF fx fx (λt g m=>?_);refine fA ?_;exact fB fx fx ⟨rfl,g,m⟩
theorem Jx {w0:World} {B:Nat} {m:FuncId} {cap:Array Value} {d:Nd->Nd} (F:∀n,(d n).attrs=n.attrs/\(d n).acl=n.acl/\(d n).data=n.data)
  (h:∀(w:World) (b:Nat) (y:gG),Fr (· =g) w0 w->w0.heap.size<=b->fU w b 37 (gz y).toArray->fL prog m (#[.pointer (some ⟨b,0,none⟩)]++cap) w λr w'=>r= .int .i64 0/\fU w' b 37 (gz ⟨d y.n,y.va,y.vc,y.vd⟩).toArray/\Fr (· =b) w w'):EdC w0 B g m cap (λ_=>0) d:=λw b y E G t hO=>by
 refine fL.mono (h w b y E G t) λr w' ⟨h1,v,s⟩=>⟨_,h1,λ_=>rfl,v,λ_=>?_,λb' f=> .inl f,s⟩
 obtain⟨x,C,D⟩:=F y.n;have u:qH w B ⟨d y.n,y.va,y.vc,y.vd⟩:=⟨by rw[x];exact hO.a,by rw[C];exact hO.c,by rw[D];exact hO.d⟩;exact u.fr s λb' f=>u.ne t fV fV fV f
theorem Qv (w:World) (B g:Nat) (m:gZ) (vf ve vn:Value) (fK:List gG) (t:fY) (p:fQ) (f u:Int) (h:nC w B g m vf ve vn fK t) (hc:0<=m.calls/\m.calls<=4000000000000000000):
  fL prog 117 #[.pointer (some ⟨g,0,none⟩),.string (su p),.int .i64 f,.int .i64 u] w λr w'=>r= .int .i64 (nZ m t p (λ_=>0) (pI f u))/\∃x,iS w B g vf ve vn fK w' (gi m).2.2 (nr m t p (λ_=>0) (pI f u)) ve vn x:=by
 refine wS func117 fx fF ?_;have N:=h.i.k.lt;refine fA ?_;refine hD fx (λC J E O=>?_);refine fA ?_;refine hD fx (λH K F Q=>?_);have D:Ext w H:=E.t F;have S:=E.size;have k6:=(fU.ext J F);refine Bi ?_
 refine fI fx fx (rS H B g m vf ve vn fK t p 177 #[.pointer (some ⟨w.heap.size,0,none⟩),.pointer (some ⟨C.heap.size,0,none⟩)] (λ_=>0) (pI f u) (h.ext D) hc fF
  (Jx (λn=>⟨rfl,rfl,rfl⟩) λw' b y G M I=>Nh w' b w.heap.size C.heap.size y f u I ((k6.fr G (show ¬w.heap.size=g by omega)).cell 0) ((fU.fr K G (show ¬C.heap.size=g by omega)).cell 0) fy)
  (λn v _=>⟨⟨(h.i.l n v).a,(h.i.l n v).c,(h.i.l n v).d⟩,h.i.s n v⟩)) ?_
 rintro r R ⟨rfl,x,L⟩;refine fA ?_;exact fB fx fx ⟨rfl,x,(iS.ext h D).t L⟩
theorem NM (w:World) (B g:Nat) (m:gZ) (vf ve vn:Value) (fK:List gG) (t:fY) (p:fQ) (f:Int) (h:nC w B g m vf ve vn fK t) (hc:0<=m.calls/\m.calls<=4000000000000000000):
  fL prog 120 #[.pointer (some ⟨g,0,none⟩),.string (su p),.int .i64 f] w λr w'=>r= .int .i64 (nZ m t p (λ_=>0) (qT f))/\∃v,iS w B g vf ve vn fK w' (gi m).2.2 (nr m t p (λ_=>0) (qT f)) ve vn v:=by
 refine kz func120 fx fF ?_;have I:=h.i.k.lt;refine fA ?_;refine hD fx (λG D x J=>?_);refine Bi ?_
 refine fI fx fx (rS G B g m vf ve vn fK t p 182 #[.pointer (some ⟨w.heap.size,0,none⟩)] (λ_=>0) (qT f) (h.ext x) hc fF
  (Jx (λn=>⟨rfl,rfl,rfl⟩) λw' b y E H C=>JC w' b w.heap.size y f C ((fU.fr D E (show ¬w.heap.size=g by omega)).cell 0))
  (λn u _=>⟨⟨(h.i.l n u).a,(h.i.l n u).c,(h.i.l n u).d⟩,h.i.s n u⟩)) ?_
 rintro r K ⟨rfl,v,F⟩;refine fA ?_;exact fB fx fx ⟨rfl,v,(iS.ext h x).t F⟩
theorem NQ (w:World) (B g:Nat) (m:gZ) (vf ve vn:Value) (fK:List gG) (t:fY) (p:fQ) (f:Int) (h:nC w B g m vf ve vn fK t) (hc:0<=m.calls/\m.calls<=4000000000000000000):
  fL prog 20 #[.pointer (some ⟨g,0,none⟩),.string (su p),.int .i64 f] w λr w'=>r= .int .i64 (nZ m t p (λ_=>0) (λn=>h7 n f))/\∃v,iS w B g vf ve vn fK w' (gi m).2.2 (nr m t p (λ_=>0) (λn=>h7 n f)) ve vn v:=by
 refine kz func20 fx fF ?_;have I:=h.i.k.lt;refine fA ?_;refine hD fx (λG D x J=>?_);refine Bi ?_
 refine fI fx fx (rS G B g m vf ve vn fK t p 52 #[.pointer (some ⟨w.heap.size,0,none⟩)] (λ_=>0) (λn=>h7 n f) (h.ext x) hc fF
  (Jx (λn=>⟨rfl,rfl,rfl⟩) λw' b y E H C=>IS w' b w.heap.size y f C ((fU.fr D E (show ¬w.heap.size=g by omega)).cell 0))
  (λn u _=>⟨⟨(h.i.l n u).a,(h.i.l n u).c,(h.i.l n u).d⟩,h.i.s n u⟩)) ?_
 rintro r K ⟨rfl,v,F⟩;refine fA ?_;exact fB fx fx ⟨rfl,v,(iS.ext h x).t F⟩
end
section
open Wr
attribute [local irreducible] xs T
theorem PC (w:World) (v:Value) (p:mr) (a:Int) (F:Rw qy w v [p]) (h1:0<p.2) (u:p.1+p.2<=1099511627776):fL prog 103 #[v,.int .i64 a] w λr w'=>r= .bool (decide ((p.1:Int)<=a/\a<(p.1:Int)+p.2))/\Ext w w':=by
 refine gK func103 fx fF ?_;refine fA ?_;refine fG fx fx (zu w v [p] F (λx G=>by rw[kl.1 G];exact⟨h1,u⟩) ir ir) (λr m E=>?_);obtain⟨⟨s,hs,_,hO⟩,g⟩:=E;have hs:s=[p]:=List.perm_singleton.1 hs;subst hs;have B:Ow qy 1 m w.heap.size 157 r [p]:=hO;obtain⟨A,c,rfl,_,_,y⟩:=B.rw.op nO;obtain⟨b,o,q,rfl,_,hq,_,C⟩:=y.at_ (i:=0) ir;obtain rfl:p=q:=by simpa using hq
 have k0:=C 0 _ rfl;rw[ph,kS]at k0;refine fA ?_;refine gA (α:=Nat) (λi=>[(1,.int .i64 a),(8,.slice (some ⟨b,o,none⟩) 1 c),(9,.int .i64 1),(10,.int .i64 (i:Int))]) (λi w'=>Ext m w'/\i<=1/\(i=1->¬((p.1:Int)<=a/\a<(p.1:Int)+p.2))) (λi=>1-i) 0 (sub ⟨rfl,rfl,rfl,rfl⟩) ⟨Fr.refl _ _,fy,λh=>absurd h fV⟩ ?_;rintro i n ⟨d,hi,D⟩
 by_cases fW:i<1
 ·obtain rfl:i=0:=fy;have k2:=d.cell k0
  repeat' (first|refine kV 0 (o+0) rfl rfl rfl rfl rfl fy ?_|refine IV rfl k2 ?_|refine fT ?_|fail)
  refine fG fx fx (kM n p.1 p.2 fy) (λr H f=>?_);obtain⟨rfl,rfl⟩:=f
  by_cases g1:(p.1:Int)<=a
  ·refine fA ?_;refine fG fx fx (mE n p.1 p.2 fy fy) (λr H f=>?_);obtain⟨rfl,rfl⟩:=f
   by_cases g2:a<(p.1:Int)+p.2
   ·refine fA ?_;exact fB fx fx ⟨by rw[decide_eq_true ⟨g1,g2⟩],g.t d⟩
   ·refine fA ?_;exact gn ⟨1,sub ⟨rfl,rfl,rfl,rfl⟩,⟨d,fy,λ_ h=>g2 h.2⟩,(by show 1-1<1-0;omega)⟩
  ·refine fA ?_;exact gn ⟨1,sub ⟨rfl,rfl,rfl,rfl⟩,⟨d,fy,λ_ h=>g1 h.1⟩,(by show 1-1<1-0;omega)⟩
 ·obtain rfl:i=1:=fy;refine fA ?_;exact fB fx fx ⟨by rw[decide_eq_false (D fx)],g.t d⟩
theorem wN (w:World) (x:gG) (v:ix w x) (u:fE x.n.data<=1000000):fL prog 96 #[.agg (gz x).toArray] w λr w'=>r= .bool (decide (x.n.kind=2)&&fH x.n)/\Ext w w':=by
 refine gr func96 fx fF ?_;refine fA ?_;refine hD fx (λd m a y=>?_);have f:fU d w.heap.size 37 (gz x).toArray:=m;have q0:d.cell? ⟨w.heap.size,0,none⟩=some (.int .i64 x.n.kind):=f.cell 0
 by_cases hk:x.n.kind=2
 ·refine fA ?_;refine gM (t:=37) f fx fx ?_;refine fA ?_;refine fG fx fx (nL d x (v.ext a) u) (λr B g=>?_);obtain⟨rfl,s⟩:=g;refine fA ?_;exact fB fx fx ⟨by rw[decide_eq_true hk,iU],a.t s⟩
 ·refine fA ?_;exact fB fx fx ⟨by rw[decide_eq_false hk,hW],a⟩
theorem tn (w:World) (x:gG) (M:ix w x) (I:G0 x.n):fL prog 97 #[.agg (gz x).toArray] w λr w'=>∃x',r= .agg (gz x').toArray/\qH w' w.heap.size x'/\x'.n=x.n/\Ext w w':=by
 refine gr func97 fx fF ?_;obtain⟨aa,c3,X,_,_,_⟩:=M.d.op ha;refine fA ?_;refine hD fx (λs ad U aq=>?_);refine fA ?_;refine gy (z:= .agg tP) fF (λJ ae L ar=>?_);have O:fU J w.heap.size 37 (gz x).toArray:=fU.ext ad L;have S:Ext w J:=U.t L
 have ao:∀j u,(qJ x)[j]? =some u->J.cell? ⟨w.heap.size,1+j,none⟩=some u:=λj u hu=>by
  rw[O.cell,pB];rcases j with _|_|_|_|_|_|j
  all_goals first|exact hu|simp[qJ]at hu
 refine fA ?_;refine hL (cs:=qJ x) fx fF ao ?_;have Y:=M.ext S;refine fG fx fx (tg J x Y.a Y.c I.a I.c) (λr au ab=>?_);obtain⟨va,vc,rfl,C,D,G⟩:=ab;obtain⟨E,c1,rfl,_,_⟩:=C.form;obtain⟨F,c2,rfl,_,_⟩:=D.form;have af:=O.ext G;refine fA ?_
 refine WG (q:=1) (vs:=qJ ⟨x.n,.slice E x.n.attrs.length c1,.slice F x.n.acl.length c2,x.vd⟩) (nw:=(gz ⟨x.n,.slice E x.n.attrs.length c1,.slice F x.n.acl.length c2,x.vd⟩).toArray) af fx fx fF (by show 7<=12;omega) (λu hu=>by
  simp only[qJ,hX,sC,or_false]at hu
  rcases hu with rfl|rfl|rfl|rfl|rfl|rfl<;>rfl) rfl (λK Q v=>?_)
 have k8:K.cell? ⟨w.heap.size,8,none⟩=some (.slice aa x.n.data.length c3):=by rw[←X];exact Q.cell 8
 have aw:=U.size;have z2:=L.size;have z3:=G.size;have z4:=v.size;have T:Ext w K:=(S.t G).trans v λj W e=>by have:j=w.heap.size:=e;omega
 have V:=M.d.ext T;rw[X]at V;refine fA ?_;refine jI (B:=K.heap.size) (news:=x.n.data.flatMap j5) kk fx fV fx (gD.nil _ _ _ _) fx V (gl ha _) (lV _) (by have:=I.d;unfold maxLen;omega) (by have:=I.d;omega) (gJ _) (λv5 ap y aj _=>?_);have g:Ext K ap:=aj.mono λ_ _ h=>by cases h
 rw[iC]at y;obtain⟨N,d3,rfl,_,_⟩:=y.form;refine fA ?_;refine iq (fU.ext Q g) fx fx fF fx fx (λZ R m=>?_)
 have ag:fU Z w.heap.size 37 (gz ⟨x.n,.slice E x.n.attrs.length c1,.slice F x.n.acl.length c2,.slice N x.n.data.length d3⟩).toArray:=by
  simp only[iC]at R;exact R
 have z5:=g.size;have ax:=m.size;have ai:Ext w Z:=(T.t g).trans m λj W e=>by have:j=w.heap.size:=e;omega
 refine fA ?_;refine gM (t:=37) ag fx fx ?_;have an:=((fU.ext ae G).fr v (show ¬s.heap.size=w.heap.size by omega)).ext g|>.fr m (show ¬s.heap.size=w.heap.size by omega)
 refine fA ?_;refine hd an fx fx fF fx (fJ (l:=gz ⟨x.n,.slice E x.n.attrs.length c1,.slice F x.n.acl.length c2,.slice N x.n.data.length d3⟩) fx) (λav ah H=>?_);have ak:=(((C.fr v λb f=>by have:=(C.gH f).1;show ¬b=w.heap.size;omega).ext g).fr m λb f=>by have:=(C.gH f).1;show ¬b=w.heap.size;omega).fr H λb f=>by have:=(C.gH f).1;show ¬b=s.heap.size;omega
 have al:=(((D.fr v λb f=>by have:=(D.gH f).1;show ¬b=w.heap.size;omega).ext g).fr m λb f=>by have:=(D.gH f).1;show ¬b=w.heap.size;omega).fr H λb f=>by have:=(D.gH f).1;show ¬b=s.heap.size;omega
 have am:=(y.fr m λb f=>by have:=(y.gH f).1;show ¬b=w.heap.size;omega).fr H λb f=>by have:=(y.gH f).1;show ¬b=s.heap.size;omega
 refine fA ?_;exact Cn fx fx ah fF ⟨_,rfl,⟨ak.mono fy,al.mono fy,gD.mono am fy⟩,rfl,ai.trans H λj W e=>by have:j=s.heap.size:=e;omega⟩
end
section
open Wr
def tU (l:fQ):List Value:=l.map λx=> .int .u8 (x.toNat:Int)
theorem ua (l:fQ):(tU l).length=l.length:=by simp[tU]
theorem Tw (l:fQ):∀u∈tU l,u.oneCell'=true:=λu hu=>by
 obtain⟨x,_,rfl⟩:=lN.1 hu;rfl
theorem TW (r:fQ) (k:Nat) (d:fQ) (hk:k<=r.length):(tU r).take k++tU (d.take (r.length-k))++(tU r).drop (k+(d.take (r.length-k)).length)=tU (J0 r k d):=by
 have e:tU (J0 r k d)=(tU r).take k++tU (d.take (r.length-k))++(tU r).drop (k+d.length):=by unfold tU J0;simp only[pE,CQ,OL]
 rw[e]
 congr 1
 rw[kt]
 by_cases h:r.length-k<=d.length
 ·rw[uk h,yE (by rw[ua];omega),yE (by rw[ua];omega)]
 ·rw[Nat.min_eq_right fy]
theorem OR (n:Nat):(Array.replicate n (Value.int .u8 0))=(tU (List.replicate n 0)).toArray:=by
 unfold tU;rw[K2];simp
theorem VC:xv 86 5 (.int .u8 0) 1 1:=M7 underlying86 fF
theorem Sl (l:fQ):strOfNums (l.map λx=>(x.toNat:Int))=su l:=by
 unfold strOfNums su;rw[sH]
 congr 2
 conv=>rhs;rw[←List.map_id l]
 exact zC λx _=>by simp
section
variable {dst:Option Tmp}
theorem acZ {D:TypeId} {k n c:Nat} {r s:fQ} {y:Operand} (f:fU w g 5 (tU r).toArray) (B:gh env x=some (.slice (some ⟨g,k,none⟩) n c)) (C:gh env y=some (.string (su s))) (d:n=r.length-k) (hk:k<=r.length)
  (h:∀w',fU w' g 5 (tU (J0 r k s)).toArray->Fr (· =g) w w'->xs prog fD fC hs H full K rest (put env dst (goInt (min s.length n))) w') (hH:∀w',Fr (· =g) w w'->H w':=by intros;trivial):
  xs prog fD fC hs H full K (⟨dst,.call {callee:= .builtin .copy,args:=⟨[x,y]⟩,argTypes:=⟨[86,D]⟩},ty,pos,af,none⟩::rest) env w:=by
 obtain⟨hu,i,hi,R,Q,O⟩:=VC;obtain⟨cs,a⟩:∃cs,cs=tU (s.take (r.length-k)):=⟨_,rfl⟩;have G:cs.length=min s.length n:=by rw[a,ua,kt,d];omega
 have m:=run_storeCells_at (P:=prog) g k 5 cs 0 (tU r).toArray w f (by rw[kS,G,nz,ua];omega) (a▸Tw _);rw[kS]at m;have u:=TW r k s hk;have hle:(s.take (r.length-k)).length=cs.length:=by rw[a,ua]
 rw[←a,hle]at u;have J:((tU r).toArray.toList.take k++cs++(tU r).toArray.toList.drop (k+cs.length)).toArray=(tU (J0 r k s)).toArray:=by rw[←u]
 rw[J]at m;have t:Fr (· =g) w (w.setRow g (tU (J0 r k s)).toArray):=⟨rfl,rfl,rfl,by simp[World.setRow],λk hk d=>by simp only[World.setRow,tw];rw[if_neg (λe=>d e.symm)]⟩
 have E:fU (w.setRow g (tU (J0 r k s)).toArray) g 5 (tU (J0 r k s)).toArray:=by
  unfold fU at f⊢;simp[World.setRow,tw,f]
 have N:List.take (min s.length n) (List.map (λb:UInt8=>Value.int IntKind.u8 (b.toNat:Int)) s)=cs:=by
  rw[a,d];unfold tU;rw[CQ]
  by_cases h:r.length-k<=s.length
  ·rw[Nat.min_eq_right h]
  ·rw[uk fy,pG (by rw[jF];exact gJ _),pG (by rw[jF];omega)]
 have I:Nat.min s.length n=min s.length n:=rfl;have M:(su s).size=s.length:=ko s;have F:(su s).data.toList=s:=by simp[su]
 have L:(Builtin.copy_ #[86,D] ty #[.slice (some ⟨g,k,none⟩) n c,.string (su s)]).run prog w= .ok (goInt (min s.length n)) (w.setRow g (tU (J0 r k s)).toArray):=by
  simp only[Builtin.copy_,Builtin.lenOf,Builtin.firstCells];simp[run_underlying hu,sizeOf,typeInfo,hi,I,M,F];rw[N,m];simp[Result.andThen]
  congr 1;omega
 refine xw (v:=goInt (min s.length n)) (w':=w.setRow g (tU (J0 r k s)).toArray) (by simp[fX,Op.operands,Call.operands,B,C]) fx ?_ (h _ E t) (hH _ t);simp[execOp,resolve,invoke,builtin,fM B,fM C,L]
theorem ZI {v:Value} (a:gh env x=some (.agg cs)) (g:cs[8]? =some v)
  (h:xs prog fD fC hs H full K rest ((d,v)::env) w):xs prog fD fC hs H full K (⟨some d,.field 37 x 3,ty,pos,af,none⟩::rest) env w:=by
 refine gR fx (by simp[fX,Op.operands,a]) ⟨v,λw'=>?_,h⟩
 have f:(isAgg 35).run prog w'= .ok false w':=by
  unfold isAgg;simp only[sD,run_underlying underlying35,sM];simp
 simp[execOp,fM a,Instr.field,run_underlying underlying37,asAgg,part,f,g]
theorem acL {n:Nat} {r:fQ} (a:fU w g 5 (tU r).toArray) (s:gh env x=some (.slice (some ⟨g,0,none⟩) n n)) (m:n=r.length) (hm:n<=maxLen)
  (h:xs prog fD fC hs H full K rest ((d,.string (su r))::env) w) (f:nK hs (some d)=false:=by rfl):xs prog fD fC hs H full K (⟨some d,.convert 86 9 x,ty,pos,af,none⟩::rest) env w:=by
 refine adH (zs:=r.map λx=>(x.toNat:Int)) s ?_ (by rw[Sl];exact h) f;unfold WU;rw[sH,jF,←m];exact gS a hm (by simp[tU])
end
end
end Go.Proofs.YtecaahegomdbbaaGreatDoor.gp
