/- Parts of the proof. -/
import Derived.Test.YtecaahegomdbbaaGreatDoorRmWc
set_option linter.all false
set_option maxRecDepth 99999
set_option maxHeartbeats 0
namespace Go.Proofs.YtecaahegomdbbaaGreatDoor.gr
open Go.Proofs.Tryz
open Go.RowKit
section
attribute [local irreducible] xs T
def pe {p:Bool} {q:Prop} (h:p=true↔q) (hq:q):Value.bool true=Value.bool p:=by rw[h.2 hq]
def pt {p:Bool} {q:Prop} (h:p=true↔q) (hq:¬q):Value.bool false=Value.bool p:=by
 cases p with
 |false=>rfl
 |true=>exact absurd (h.1 rfl) hq
def qt (x y:Int):Int:=if x<y then-1 else if y<x then 1 else 0
def Hk (x y:Int):qt x y<0↔x<y:=by unfold qt;split<;>(try split)<;>omega
def wI (x y:Int):qt x y=0↔x=y:=by unfold qt;split<;>(try split)<;>omega
def Bj (w:i5) (x:Int):fQ prog 313 #[.I x] w λr w'=>r= .bool false/\w=w':=by
 refine gD func313 fx fE ?_;refine fA ?_;exact y2
def nT (w:i5) (x y:Int):fQ prog 272 #[.I x,.I y] w λr w'=>r= .I (qt x y)/\w=w':=by
 refine gP func272 fx fE ?_;refine fA ?_;refine fI fx fx (Bj w x) ?_;rintro r f ⟨rfl,rfl⟩;refine fA ?_;refine fI fx fx (Bj w y) ?_;rintro r f ⟨rfl,rfl⟩
 by_cases h1:x<y
 .refine fA ?_;exact fB fx fx ⟨by unfold qt;rw[if_pos h1],rfl⟩
 .by_cases d:y<x
  .refine fA ?_;exact fB fx fx ⟨by unfold qt;rw[if_neg h1,if_pos d],rfl⟩
  .refine fA ?_;exact fB fx fx ⟨by unfold qt;rw[if_neg h1,if_neg d],rfl⟩
def Hz (w:i5) (b o c:Nat) (x y:Int) (n:gc w b o (.I x)) (t:gc w b (o+1) (.I y)):
  fQ prog 271 #[.S b o 2 c] w λr w'=>r= .I (if x≠0 then x else y)/\w=w':=by
 refine gD func271 fx fE ?_;refine fA ?_;refine gC (α:=Nat) (λi=>[(3,.I 0),(6,.S b o 2 c),(7,.I 2),(8,.I (i:Int))]) (λi w'=>w=w'/\i<=2/\(1<=i->x=0)/\(2<=i->y=0)) (λi=>2-i) 0 (sub ⟨rfl,rfl,rfl,rfl⟩) ⟨rfl,fy,λh=>fy,λh=>fy⟩ ?_;rintro i w' ⟨rfl,hi,h1,m⟩
 by_cases e0:i=0
 .subst e0
  by_cases d:x=0
  .repeat' (first|refine kt 0 o fx fx fx fx fx fy ?_|refine fT ?_|fail)
   exact gl ⟨1,sub ⟨rfl,rfl,rfl,rfl⟩,⟨rfl,fy,λ_=>d,λh=>fy⟩,(by show 2-1<2-0;omega)⟩
  .repeat' (first|refine kt 0 o fx fx fx fx fx fy ?_|refine fT ?_|fail)
   exact fB fx fx ⟨by rw[if_pos d],rfl⟩
 by_cases g:i=1
 .subst g;have d:=h1 fy
  by_cases f:y=0
  .repeat' (first|refine kt 1 (o+1) fx fx fx fx fx fy ?_|refine fT ?_|fail)
   exact gl ⟨2,sub ⟨rfl,rfl,rfl,rfl⟩,⟨rfl,fy,λ_=>d,λ_=>f⟩,(by show 2-2<2-1;omega)⟩
  .repeat' (first|refine kt 1 (o+1) fx fx fx fx fx fy ?_|refine fT ?_|fail)
   exact fB fx fx ⟨by rw[if_neg (by simpa using d)],rfl⟩
 .obtain rfl:i=2:=fy;have d:=h1 fy;have f:=m fy;refine fA ?_;exact fB fx fx ⟨by rw[if_neg (by simpa using d),f],rfl⟩
def uU (a:Ac):lz a=true↔1<=a.kind/\a.kind<=3/\0<=a.perm/\a.perm<=7/\0<=a.id/\a.id<=2147483647/\(a.kind=3->a.id=0):=by
 simp only[lz,iU,uf,decide_eq_true_eq];omega
def xh (w:i5) (a:Ac):fQ prog 222 #[.agg (lA a).toArray] w λr w'=>r= .bool (lz a)/\Ext w w':=by
 refine gD func222 fx fE ?_;refine fA ?_;refine hP fx (λd m g n=>?_);have f:fW d w.heap.size 70 #[.I a.kind,.I a.id,.I a.perm]:=m;have k0:gc d w.heap.size 0 (.I a.kind):=f.cell 0;have k1:gc d w.heap.size 1 (.I a.id):=f.cell 1;have k2:gc d w.heap.size 2 (.I a.perm):=f.cell 2
 repeat' (first|refine fT ?_|refine lj fx fx (λhc=>?_) (λhc=>?_)|refine lg fx fx (λhc=>?_) (λhc=>?_)|refine lq fx fx (λhc=>?_) (λhc=>?_)|refine lh fx fx (λhc=>?_) (λhc=>?_)|refine lv fx fx (λhc=>?_) (λhc=>?_)|refine lf fx fx (λhc=>?_) (λhc=>?_)|fail)
 all_goals first|exact fB rfl rfl ⟨pe (uU a) fy,g⟩|exact fB rfl rfl ⟨pt (uU a) fy,g⟩
def x1 (a b:Ac):Int:=if qt a.kind b.kind≠0 then qt a.kind b.kind else qt a.id b.id
def vb (a b:Ac):acLt a b=true↔x1 a b<0:=by
 unfold x1 acLt;have h1:=Hk a.kind b.kind;have d:=wI a.kind b.kind;have h3:=Hk a.id b.id;simp only[uf,iU,decide_eq_true_eq];split<;>omega
def sC:x4 22 3 (.I 0) 1 8:=Nq underlying22 fE
def Ah (w:i5) (a b:Ac):fQ prog 223 #[.agg (lA a).toArray,.agg (lA b).toArray] w λr w'=>r= .I (x1 a b)/\Ext w w':=by
 refine gP func223 fx fE ?_;refine fA ?_;refine hP fx (λv E G J=>?_);refine fA ?_;refine hP fx (λf F D K=>?_);have y:fW f w.heap.size 70 #[.I a.kind,.I a.id,.I a.perm]:=E.ext D;have B:fW f v.heap.size 70 #[.I b.kind,.I b.id,.I b.perm]:=F;have a0:gc f.drew w.heap.size 0 (.I a.kind):=y.cell 0;have g:gc f.drew w.heap.size 1 (.I a.id):=y.cell 1;have I:gc f.drew v.heap.size 0 (.I b.kind):=B.cell 0;have m:gc f.drew v.heap.size 1 (.I b.id):=B.cell 1;refine fA ?_;refine lk [11,13] (λw'=>gc w' w.heap.size 1 (.I a.id)/\gc w' v.heap.size 1 (.I b.id)) fE (by decide+kernel) ⟨g,m⟩ ?_;refine fA ?_;refine fI fx fx (nT f.drew a.kind b.kind) ?_ ?_
 .rintro r n ⟨rfl,rfl⟩
  repeat' (first|refine pG fx fx (λw' h=>h.1) ?_|refine pG fx fx (λw' h=>h.2) ?_|refine fT ?_|fail)
  refine fI fx fx (nT f.drew a.id b.id) ?_ ?_
  .rintro r n ⟨rfl,rfl⟩;refine fA ?_
   refine FG (vs:=[.I (qt a.kind b.kind),.I (qt a.id b.id)]) sC fx fx fU fU (λu hu=>by
    simp only[iu,tf,or_false]at hu
    rcases hu with rfl|rfl<;>rfl) (λn C x L=>?_) (λw' h=>⟨h.cell g,h.cell m⟩)
   refine fA ?_;refine fI fx fx (Hz n _ 0 2 (qt a.kind b.kind) (qt a.id b.id) (C.cell 0) (C.cell 1)) ?_ ?_
   .rintro r H ⟨rfl,rfl⟩;refine fA ?_;exact fB fx fx ⟨rfl,G.t (D.d.t x)⟩
   .rintro r H ⟨_,rfl⟩;exact⟨x.cell g,x.cell m⟩
  .rintro r n ⟨_,rfl⟩;exact⟨g,m⟩
 .rintro r n ⟨_,rfl⟩;exact⟨g,m⟩
def sg:ip Ac->Int×Bool
 |[]=>(0,false)
 |a::r=>if a.kind=3 then(a.perm,true)else sg r
theorem wz:∀l:ip Ac,(sg l).2=l.any λa=>decide (a.kind=3)
 |[]=>rfl
 |a::r=>by
  rw[sg,List.any_cons]
  by_cases h:a.kind=3
  .simp[h]
  .simp[h,wz r]
def DI (w:i5) (v:i6) (l:ip Ac) (n:Rw lA w v l):fQ prog 224 #[v] w λr w'=>r= .tuple #[.I (sg l).1,.bool (sg l).2]/\w=w':=by
 refine gD func224 fx fE ?_;obtain⟨A,c,rfl,t,u,g⟩:=n.op j7;refine fA ?_;refine iq (α:=Nat) 0 fx (λi=>[(0,.slice A l.length c),(4,.I (i:Int))]) (λi w'=>w=w'/\i<=l.length/\sg (l.drop i)=sg l) (λi=>l.length-i) ?_ ?_
 .rintro i w' ⟨rfl,hi,d⟩
  by_cases fY:i<l.length
  .obtain⟨b,o,x,rfl,_,y,m,f⟩:=g.at_ fY;rw[m,sg]at d;have k0:gc w b (o+i*3+0) (.I x.kind):=f 0 _ rfl;have k2:gc w b (o+i*3+2) (.I x.perm):=f 2 _ rfl
   by_cases h:x.kind=3
   .rw[if_pos h]at d;refine GR ?_;exact ia fx fx fx ⟨by rw[<-d],rfl⟩
   .rw[if_neg h]at d;refine GR ?_;exact hy fx ⟨_,(by show l.length-(i+1)<l.length-i;omega),rfl,i+1,sub ⟨rfl,rfl⟩,⟨rfl,fy,d⟩,rfl⟩
  .obtain rfl:i=l.length:=fy;rw[jP]at d;refine fA ?_;exact ia fx fx fx ⟨by rw[<-d];rfl,rfl⟩
 .intro H;refine fA ?_;refine hI ?_;exact iw (H 0 w ⟨rfl,iF _,rfl⟩) (sub ⟨rfl,rfl⟩)
def jw {α:Type} (ok:α->Bool) (lt:α->α->Bool):Option α->ip α->Bool
 |_,[]=>true
 |p,x::r=>ok x&&(match p with|none=>true|some y=>lt y x)&&jw ok lt (some x) r
theorem rD {α:Type} (ok:α->Bool) (lt:α->α->Bool):∀(l:ip α) (p:Option α),jw ok lt p l=(l.all ok&&kX lt p l)
 |[],p=>by cases p<;>rfl
 |x::r,none=>by
  rw[jw,rD ok lt r,ra,kX];simp[L8]
 |x::r,some y=>by
  rw[jw,rD ok lt r,ra,kX];cases ok x<;>cases lt y x<;>simp
def h6 {α:Type} (l:ip α):Nat->Option α
 |0=>none
 |k+1=>l[k]?
def prev_next {α:Type} {l:ip α} {i:Nat} {x:α} (d:l[i]? =some x):h6 l (i+1)=some x:=d
def qj {α:Type} {ok:α->Bool} {lt:α->α->Bool} {l:ip α} {i:Nat} {x:α} (d:l[i]? =some x):jw ok lt (h6 l i) (l.drop i)=(ok x&&(match h6 l i with|none=>true|some y=>lt y x)&&jw ok lt (h6 l (i+1)) (l.drop (i+1))):=by
 rw[mA d,prev_next d];generalize h6 l i=p;cases p<;>rfl
def fH {hs:ip Nat} {full:Array li} {K:Env->i5->Prop} {ii:ip li} {Y:Env} {w:i5} {dst:Option Tmp} {R:i9} {pos:String} {af:Array Edge} {f:FuncId} {args:ip i7} {d:Array i9} {vs:ip i6} {S:i6->i5->Prop} (g:O2 Y args=some vs) (n:bit qR f=true) (m:fQ prog f vs.toArray w S)
  (h:∀v w',S v w'->xs prog fD fC hs gS full K ii (put Y dst v) w'):xs prog fD fC hs gS full K (⟨dst,.call {callee:= .value (.func f),args:=args.toArray,argTypes:=d},R,pos,af,none⟩::ii) Y w:=
 fI g n m h (λ_ _ _=>True.intro)
def Hw (w:i5) (v:i6) (l:ip Ac) (L:Rw lA w v l):fQ prog 155 #[v] w λr w'=>r= .bool (om l)/\Ext w w':=by
 refine gD func155 fx fE ?_;obtain⟨A,c,rfl,aa,ab,G⟩:=L.op j7;unfold om
 by_cases D:¬l.length<=16
 .refine fA ?_;refine jh ?_;refine fA ?_;exact fB fx fx ⟨by simp[D],Fr.refl _ _⟩
 have D:l.length<=16:=fy;rw[decide_eq_true D,iV,<-rD,<-wz];refine fA ?_;refine iq (α:=Nat) 0 fx (λi=>[(0,.slice A l.length c),(3,.I (i:Int))]) (λi w'=>Ext w w'/\i<=l.length/\jw lz acLt (h6 l i) (l.drop i)=jw lz acLt none l) (λi=>l.length-i) ?_ ?_
 .rintro i F ⟨g,hi,f⟩
  by_cases fY:i<l.length
  .obtain⟨b,o,x,rfl,_,W,ad,S⟩:=G.at_ fY;rw[qj W]at f;have M:∀j u,(lA x)[j]? =some u->gc F.drew b (o+i*3+j) u:=λj u hu=>g.cell (S j u hu)
   refine GR ?_;refine hV (cs:=lA x) fx fx M ?_;refine fH fx fx (xh F.drew x) (λr n E=>?_);obtain⟨rfl,J⟩:=E;have B:Ext w n:=g.d.t J;cases K:lz x with
   |false=>
    rw[K,hW,hW]at f;refine fA ?_;exact fB fx fx ⟨by rw[<-f];rfl,B⟩
   | true=>
    rw[K,iV]at f;cases i with
    |zero=>
     have f:jw lz acLt (h6 l (0+1)) (l.drop (0+1))=jw lz acLt none l:=by simpa[h6]using f
     refine fA ?_;exact hy fx ⟨_,(by show l.length-(0+1)<l.length-0;omega),rfl,0+1,sub ⟨rfl,rfl⟩,⟨B,fy,f⟩,rfl⟩
    | succ k=>
     obtain⟨y,N⟩:∃y,l[k]? =some y:=⟨_,j9 fy⟩;have V:h6 l (k+1)=some y:=N;rw[V]at f;dsimp only at f;obtain⟨b',o',ae,e',_,C,_,T⟩:=G.at_ (i:=k) fy;injection e' with e'
     injection e' with O Q
     subst O;subst Q;rw[N]at C;injection C with C
     subst C;have Y:∀j u,(lA y)[j]? =some u->gc n b (o+k*3+j) u:=λj u hu=>B.cell (T j u hu)
     have X:∀j u,(lA x)[j]? =some u->gc n b (o+(k+1)*3+j) u:=λj u hu=>J.cell (M j u hu)
     repeat' (first|refine gH k (o+k*3) fx fx fx fy fx fy ?_|refine fT ?_|fail)
     refine hV (cs:=lA y) fx fx Y ?_
     repeat' (first|refine gH (k+1) (o+(k+1)*3) fx fx fx fx fx fY ?_|refine fT ?_|fail)
     refine hV (cs:=lA x) fx fx X ?_;refine fA ?_;refine fH fx fx (Ah n y x) (λr Z h3=>?_);obtain⟨rfl,R⟩:=h3;have I:Ext w Z:=B.t R;cases m:acLt y x with
     |false=>
      rw[m,hW]at f;have U:¬x1 y x<0:=λh=>by rw[(vb y x).2 h]at m;cases m
      refine fA ?_;exact fB fx fx ⟨by rw[<-f];rfl,I⟩
     |true=>
      rw[m,iV]at f;have U:=(vb y x).1 m;refine fA ?_;exact hy fx ⟨_,(by show l.length-(k+1+1)<l.length-(k+1);omega),rfl,k+1+1,sub ⟨rfl,rfl⟩,⟨I,fy,f⟩,rfl⟩
  .obtain rfl:i=l.length:=fy;rw[jP]at f;rw[<-f];refine fA ?_;refine fI fx fx (DI F _ l (L.ext g)) (λr n E=>?_);obtain⟨rfl,rfl⟩:=E;cases hm:(sg l).2 with
   |true=>
    exact y36
   | false=>
    by_cases h0:l.length=0
    .have e0:l=[]:=zT.1 h0;refine fA ?_;exact fB fx fx ⟨by simp[jw,e0],g⟩
    .have e0:l≠[]:=λe=>h0 (by rw[e];rfl)
     refine fA ?_;exact fB fx fx ⟨by simp[jw,e0],g⟩
 .intro H;refine fA ?_;refine hI ?_;exact iw (H 0 w ⟨Fr.refl _ _,iF _,rfl⟩) (sub ⟨rfl,rfl⟩)
