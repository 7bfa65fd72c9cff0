/- Parts of the proof. -/
import Derived.Test.YtecaahegomdbbaaGreatDoorRfWc
set_option linter.all false
set_option maxRecDepth 100000
set_option maxHeartbeats 64000000
namespace Go.Proofs.YtecaahegomdbbaaGreatDoor.gp
open Go.Proofs.Tryz
open Go.RowKit
section
attribute [local irreducible] xs T
theorem pd {p:Bool} {q:Prop} (h:p=true↔q) (hq:q):Value.bool true=Value.bool p:=by rw[h.2 hq]
theorem oX {p:Bool} {q:Prop} (h:p=true↔q) (hq:¬q):Value.bool false=Value.bool p:=by
 cases p with
 |false=>rfl
 |true=>exact absurd (h.1 rfl) hq
def pW (x y:Int):Int:=if x<y then-1 else if y<x then 1 else 0
theorem HI (x y:Int):pW x y<0↔x<y:=by unfold pW;split<;>(try split)<;>omega
theorem wx (x y:Int):pW x y=0↔x=y:=by unfold pW;split<;>(try split)<;>omega
theorem AO (w:World) (x:Int):fL prog 313 #[.int .i64 x] w λr w'=>r= .bool false/\w=w':=by
 refine gr func313 fx fF ?_;refine fA ?_;exact y2
theorem nM (w:World) (x y:Int):fL prog 272 #[.int .i64 x,.int .i64 y] w λr w'=>r= .int .i64 (pW x y)/\w=w':=by
 refine gK func272 fx fF ?_;refine fA ?_;refine fI fx fx (AO w x) ?_;rintro r d ⟨rfl,rfl⟩;refine fA ?_;refine fI fx fx (AO w y) ?_;rintro r d ⟨rfl,rfl⟩
 by_cases h1:x<y
 ·refine fA ?_;exact fB fx fx ⟨by unfold pW;rw[if_pos h1],rfl⟩
 ·by_cases a:y<x
  ·refine fA ?_;exact fB fx fx ⟨by unfold pW;rw[if_neg h1,if_pos a],rfl⟩
  ·refine fA ?_;exact fB fx fx ⟨by unfold pW;rw[if_neg h1,if_neg a],rfl⟩
theorem Fx (w:World) (b o c:Nat) (x y:Int) (m:w.cell? ⟨b,o,none⟩=some (.int .i64 x)) (n:w.cell? ⟨b,o+1,none⟩=some (.int .i64 y)):
  fL prog 271 #[.slice (some ⟨b,o,none⟩) 2 c] w λr w'=>r= .int .i64 (if x≠0 then x else y)/\w=w':=by
 refine gr func271 fx fF ?_;refine fA ?_;refine gA (α:=Nat) (λi=>[(3,.int .i64 0),(6,.slice (some ⟨b,o,none⟩) 2 c),(7,.int .i64 2),(8,.int .i64 (i:Int))]) (λi w'=>w=w'/\i<=2/\(1<=i->x=0)/\(2<=i->y=0)) (λi=>2-i) 0 (sub ⟨rfl,rfl,rfl,rfl⟩) ⟨rfl,fy,λh=>fy,λh=>fy⟩ ?_;rintro i w' ⟨rfl,hi,h1,g⟩
 by_cases e0:i=0
 ·subst e0
  by_cases a:x=0
  ·repeat' (first|refine kV 0 o rfl rfl rfl rfl rfl fy ?_|refine fT ?_|fail)
   exact gn ⟨1,sub ⟨rfl,rfl,rfl,rfl⟩,⟨rfl,fy,λ_=>a,λh=>fy⟩,(by show 2-1<2-0;omega)⟩
  ·repeat' (first|refine kV 0 o rfl rfl rfl rfl rfl fy ?_|refine fT ?_|fail)
   exact fB fx fx ⟨by rw[if_pos a],rfl⟩
 by_cases f:i=1
 ·subst f;have a:=h1 fy
  by_cases d:y=0
  ·repeat' (first|refine kV 1 (o+1) rfl rfl rfl rfl rfl fy ?_|refine fT ?_|fail)
   exact gn ⟨2,sub ⟨rfl,rfl,rfl,rfl⟩,⟨rfl,fy,λ_=>a,λ_=>d⟩,(by show 2-2<2-1;omega)⟩
  ·repeat' (first|refine kV 1 (o+1) rfl rfl rfl rfl rfl fy ?_|refine fT ?_|fail)
   exact fB fx fx ⟨by rw[if_neg (by simpa using a)],rfl⟩
 ·obtain rfl:i=2:=fy;have a:=h1 fy;have d:=g fy;refine fA ?_;exact fB fx fx ⟨by rw[if_neg (by simpa using a),d],rfl⟩
theorem uV (a:Ac):lk a=true↔1<=a.kind/\a.kind<=3/\0<=a.perm/\a.perm<=7/\0<=a.id/\a.id<=2147483647/\(a.kind=3->a.id=0):=by
 simp only[lk,iO,tK,decide_eq_true_eq];omega
theorem w5 (w:World) (a:Ac):fL prog 222 #[.agg (lh a).toArray] w λr w'=>r= .bool (lk a)/\Ext w w':=by
 refine gr func222 fx fF ?_;refine fA ?_;refine hD fx (λd m g n=>?_);have f:fU d w.heap.size 70 #[.int .i64 a.kind,.int .i64 a.id,.int .i64 a.perm]:=m;have k0:d.cell? ⟨w.heap.size,0,none⟩=some (.int .i64 a.kind):=f.cell 0;have k1:d.cell? ⟨w.heap.size,1,none⟩=some (.int .i64 a.id):=f.cell 1;have k2:d.cell? ⟨w.heap.size,2,none⟩=some (.int .i64 a.perm):=f.cell 2
 repeat' (first|refine fT ?_|refine kW rfl rfl (λhc=>?_) (λhc=>?_)|refine kX rfl rfl (λhc=>?_) (λhc=>?_)|refine kR rfl rfl (λhc=>?_) (λhc=>?_)|refine kU rfl rfl (λhc=>?_) (λhc=>?_)|refine lf rfl rfl (λhc=>?_) (λhc=>?_)|refine kY rfl rfl (λhc=>?_) (λhc=>?_)|fail)
 all_goals first|exact fB rfl rfl ⟨pd (uV a) fy,g⟩|exact fB rfl rfl ⟨oX (uV a) fy,g⟩
def xH (a b:Ac):Int:=if pW a.kind b.kind≠0 then pW a.kind b.kind else pW a.id b.id
theorem uE (a b:Ac):acLt a b=true↔xH a b<0:=by
 unfold xH acLt;have h1:=HI a.kind b.kind;have d:=wx a.kind b.kind;have f:=HI a.id b.id;simp only[tK,iO,decide_eq_true_eq];split<;>omega
theorem sB:xv 22 3 (.int .i64 0) 1 8:=M7 underlying22 fF
theorem zV (w:World) (a b:Ac):fL prog 223 #[.agg (lh a).toArray,.agg (lh b).toArray] w λr w'=>r= .int .i64 (xH a b)/\Ext w w':=by
 refine gK func223 fx fF ?_;refine fA ?_;refine hD fx (λs D F I=>?_);refine fA ?_;refine hD fx (λf E C J=>?_);have x:fU f w.heap.size 70 #[.int .i64 a.kind,.int .i64 a.id,.int .i64 a.perm]:=D.ext C;have y:fU f s.heap.size 70 #[.int .i64 b.kind,.int .i64 b.id,.int .i64 b.perm]:=E;have a0:f.drew.cell? ⟨w.heap.size,0,none⟩=some (.int .i64 a.kind):=x.cell 0;have g:f.drew.cell? ⟨w.heap.size,1,none⟩=some (.int .i64 a.id):=x.cell 1;have H:f.drew.cell? ⟨s.heap.size,0,none⟩=some (.int .i64 b.kind):=y.cell 0;have m:f.drew.cell? ⟨s.heap.size,1,none⟩=some (.int .i64 b.id):=y.cell 1;refine fA ?_;refine kZ [11,13] (λw'=>w'.cell? ⟨w.heap.size,1,none⟩=some (.int .i64 a.id)/\w'.cell? ⟨s.heap.size,1,none⟩=some (.int .i64 b.id)) fF (by decide+kernel) ⟨g,m⟩ ?_;refine fA ?_;refine fI fx fx (nM f.drew a.kind b.kind) ?_ ?_
 ·rintro r n ⟨rfl,rfl⟩
  repeat' (first|refine rO rfl rfl (λw' h=>h.1) ?_|refine rO rfl rfl (λw' h=>h.2) ?_|refine fT ?_|fail)
  refine fI fx fx (nM f.drew a.id b.id) ?_ ?_
  ·rintro r n ⟨rfl,rfl⟩;refine fA ?_
   refine Ia (vs:=[.int .i64 (pW a.kind b.kind),.int .i64 (pW a.id b.id)]) sB fx fx fV fV (λu hu=>by
    simp only[hX,sC,or_false]at hu
    rcases hu with rfl|rfl<;>rfl) (λn B v K=>?_) (λw' h=>⟨h.cell g,h.cell m⟩)
   refine fA ?_;refine fI fx fx (Fx n _ 0 2 (pW a.kind b.kind) (pW a.id b.id) (B.cell 0) (B.cell 1)) ?_ ?_
   ·rintro r G ⟨rfl,rfl⟩;refine fA ?_;exact fB fx fx ⟨rfl,F.t (C.d.t v)⟩
   ·rintro r G ⟨_,rfl⟩;exact⟨v.cell g,v.cell m⟩
  ·rintro r n ⟨_,rfl⟩;exact⟨g,m⟩
 ·rintro r n ⟨_,rfl⟩;exact⟨g,m⟩
def rQ:List Ac->Int×Bool
 |[]=>(0,false)
 |a::r=>if a.kind=3 then(a.perm,true)else rQ r
theorem wy:∀l:List Ac,(rQ l).2=l.any λa=>decide (a.kind=3)
 |[]=>rfl
 |a::r=>by
  rw[rQ,List.any_cons]
  by_cases h:a.kind=3
  ·simp[h]
  ·simp[h,wy r]
theorem Ck (w:World) (v:Value) (l:List Ac) (m:Rw lh w v l):fL prog 224 #[v] w λr w'=>r= .tuple #[.int .i64 (rQ l).1,.bool (rQ l).2]/\w=w':=by
 refine gr func224 fx fF ?_;obtain⟨A,c,rfl,n,s,f⟩:=m.op jZ;refine fA ?_;refine h9 (α:=Nat) 0 fx (λi=>[(0,.slice A l.length c),(4,.int .i64 (i:Int))]) (λi w'=>w=w'/\i<=l.length/\rQ (l.drop i)=rQ l) (λi=>l.length-i) ?_ ?_
 ·rintro i w' ⟨rfl,hi,a⟩
  by_cases fW:i<l.length
  ·obtain⟨b,o,x,rfl,_,t,g,d⟩:=f.at_ fW;rw[g,rQ]at a;have k0:w.cell? ⟨b,o+i*3+0,none⟩=some (.int .i64 x.kind):=d 0 _ rfl;have k2:w.cell? ⟨b,o+i*3+2,none⟩=some (.int .i64 x.perm):=d 2 _ rfl
   by_cases h:x.kind=3
   ·rw[if_pos h]at a;refine E5 ?_;exact ia fx fx fx ⟨by rw[←a],rfl⟩
   ·rw[if_neg h]at a;refine E5 ?_;exact gX fx ⟨_,(by show l.length-(i+1)<l.length-i;omega),rfl,i+1,sub ⟨rfl,rfl⟩,⟨rfl,fy,a⟩,rfl⟩
  ·obtain rfl:i=l.length:=fy;rw[jJ]at a;refine fA ?_;exact ia fx fx fx ⟨by rw[←a];rfl,rfl⟩
 ·intro H;refine fA ?_;refine hv ?_;exact ic (H 0 w ⟨rfl,iy _,rfl⟩) (sub ⟨rfl,rfl⟩)
def jo {α:Type} (ok:α->Bool) (lt:α->α->Bool):Option α->List α->Bool
 |_,[]=>true
 |p,x::r=>ok x&&(match p with|none=>true|some y=>lt y x)&&jo ok lt (some x) r
theorem rM {α:Type} (ok:α->Bool) (lt:α->α->Bool):∀(l:List α) (p:Option α),jo ok lt p l=(l.all ok&&kQ lt p l)
 |[],p=>by cases p<;>rfl
 |x::r,none=>by
  rw[jo,rM ok lt r,rJ,kQ];simp[LZ]
 |x::r,some y=>by
  rw[jo,rM ok lt r,rJ,kQ];cases ok x<;>cases lt y x<;>simp
def hT {α:Type} (l:List α):Nat->Option α
 |0=>none
 |k+1=>l[k]?
theorem prev_next {α:Type} {l:List α} {i:Nat} {x:α} (a:l[i]? =some x):hT l (i+1)=some x:=a
theorem p8 {α:Type} {ok:α->Bool} {lt:α->α->Bool} {l:List α} {i:Nat} {x:α} (a:l[i]? =some x):jo ok lt (hT l i) (l.drop i)=(ok x&&(match hT l i with|none=>true|some y=>lt y x)&&jo ok lt (hT l (i+1)) (l.drop (i+1))):=by
 rw[lT a,prev_next a];generalize hT l i=p;cases p<;>rfl
theorem fG {hs:List Nat} {full:Array Oper} {K:Env->World->Prop} {rest:List Oper} {env:Env} {w:World} {dst:Option Tmp} {ty:TypeId} {pos:String} {af:Array Edge} {f:FuncId} {args:List Operand} {a:Array TypeId} {vs:List Value} {S:Value->World->Prop} (d:Ol env args=some vs) (m:bit qs f=true) (g:fL prog f vs.toArray w S)
  (h:∀v w',S v w'->xs prog fD fC hs gL full K rest (put env dst v) w'):xs prog fD fC hs gL full K (⟨dst,.call {callee:= .value (.func f),args:=args.toArray,argTypes:=a},ty,pos,af,none⟩::rest) env w:=
 fI d m g h (λ_ _ _=>True.intro)
theorem G7 (w:World) (v:Value) (l:List Ac) (J:Rw lh w v l):fL prog 155 #[v] w λr w'=>r= .bool (og l)/\Ext w w':=by
 refine gr func155 fx fF ?_;obtain⟨A,c,rfl,Z,aa,E⟩:=J.op jZ;unfold og
 by_cases B:¬l.length<=16
 ·refine fA ?_;refine iX ?_;refine fA ?_;exact fB fx fx ⟨by simp[B],Fr.refl _ _⟩
 have B:l.length<=16:=fy;rw[decide_eq_true B,iU,←rM,←wy];refine fA ?_;refine h9 (α:=Nat) 0 fx (λi=>[(0,.slice A l.length c),(3,.int .i64 (i:Int))]) (λi w'=>Ext w w'/\i<=l.length/\jo lk acLt (hT l i) (l.drop i)=jo lk acLt none l) (λi=>l.length-i) ?_ ?_
 ·rintro i D ⟨f,hi,a⟩
  by_cases fW:i<l.length
  ·obtain⟨b,o,x,rfl,_,V,ab,R⟩:=E.at_ fW;rw[p8 V]at a;have K:∀j u,(lh x)[j]? =some u->D.drew.cell? ⟨b,o+i*3+j,none⟩=some u:=λj u hu=>f.cell (R j u hu)
   refine E5 ?_;refine hL (cs:=lh x) fx fx K ?_;refine fG fx fx (w5 D.drew x) (λr m C=>?_);obtain⟨rfl,G⟩:=C;have n:Ext w m:=f.d.t G;cases I:lk x with
   |false=>
    rw[I,hW,hW]at a;refine fA ?_;exact fB fx fx ⟨by rw[←a];rfl,n⟩
   | true=>
    rw[I,iU]at a;cases i with
    |zero=>
     have a:jo lk acLt (hT l (0+1)) (l.drop (0+1))=jo lk acLt none l:=by simpa[hT]using a
     refine fA ?_;exact gX fx ⟨_,(by show l.length-(0+1)<l.length-0;omega),rfl,0+1,sub ⟨rfl,rfl⟩,⟨n,fy,a⟩,rfl⟩
    | succ k=>
     obtain⟨y,L⟩:∃y,l[k]? =some y:=⟨_,kp fy⟩;have U:hT l (k+1)=some y:=L;rw[U]at a;dsimp only at a;obtain⟨b',o',ad,e',_,s,_,S⟩:=E.at_ (i:=k) fy;injection e' with e'
     injection e' with M N
     subst M;subst N;rw[L]at s;injection s with s
     subst s;have X:∀j u,(lh y)[j]? =some u->m.cell? ⟨b,o+k*3+j,none⟩=some u:=λj u hu=>n.cell (S j u hu)
     have W:∀j u,(lh x)[j]? =some u->m.cell? ⟨b,o+(k+1)*3+j,none⟩=some u:=λj u hu=>G.cell (K j u hu)
     repeat' (first|refine gF k (o+k*3) rfl rfl rfl fy rfl fy ?_|refine fT ?_|fail)
     refine hL (cs:=lh y) fx fx X ?_
     repeat' (first|refine gF (k+1) (o+(k+1)*3) rfl rfl rfl rfl rfl fW ?_|refine fT ?_|fail)
     refine hL (cs:=lh x) fx fx W ?_;refine fA ?_;refine fG fx fx (zV m y x) (λr Y O=>?_);obtain⟨rfl,Q⟩:=O;have F:Ext w Y:=n.t Q;cases g:acLt y x with
     |false=>
      rw[g,hW]at a;have T:¬xH y x<0:=λh=>by rw[(uE y x).2 h]at g;cases g
      refine fA ?_;exact fB fx fx ⟨by rw[←a];rfl,F⟩
     |true=>
      rw[g,iU]at a;have T:=(uE y x).1 g;refine fA ?_;exact gX fx ⟨_,(by show l.length-(k+1+1)<l.length-(k+1);omega),rfl,k+1+1,sub ⟨rfl,rfl⟩,⟨F,fy,a⟩,rfl⟩
  ·obtain rfl:i=l.length:=fy;rw[jJ]at a;rw[←a];refine fA ?_;refine fI fx fx (Ck D _ l (J.ext f)) (λr m C=>?_);obtain⟨rfl,rfl⟩:=C;cases hm:(rQ l).2 with
   |true=>
    exact y34
   | false=>
    by_cases h0:l.length=0
    ·have e0:l=[]:=zJ.1 h0;refine fA ?_;exact fB fx fx ⟨by simp[jo,e0],f⟩
    ·have e0:l≠[]:=λe=>h0 (by rw[e];rfl)
     refine fA ?_;exact fB fx fx ⟨by simp[jo,e0],f⟩
 ·intro H;refine fA ?_;refine hv ?_;exact ic (H 0 w ⟨Fr.refl _ _,iy _,rfl⟩) (sub ⟨rfl,rfl⟩)
end
end Go.Proofs.YtecaahegomdbbaaGreatDoor.gp
