/- Parts of the proof. -/
import Derived.Test.YtecaahegomdbbaaGreatDoorRfWm
set_option linter.all false
set_option maxRecDepth 100000
set_option maxHeartbeats 64000000
namespace Go.Proofs.YtecaahegomdbbaaGreatDoor.gp
open Go.Proofs.Tryz
open Go.RowKit
variable {af:Array Edge} {full:Array Oper} {env:Env} {K:Env->World->Prop} {hs:List Nat} {rest:List Oper} {B z:Nat} {pos:String} {d:Tmp} {e ty:TypeId} {w:World} {H:World->Prop}
section
attribute [local irreducible] xs T
theorem Fr.ed {a b:World} (h:Fr hG a b):Ext a b.drew:=h.d
def ZE:fQ:=[48,49,50,51,52,53,54,55,56,57]
theorem Rr:∀l:Nat,l<10->(ZE.drop l).take (l+1-l)=[dg l]:=by decide
section
theorem xdg {t:TypeId} {x lo hi:Operand} {k s:IntKind} {jl a:Int} (l:Nat) (ht:fC t=true) (n:gh env x=some (.string (su ZE))) (m:gh env lo=some (.int k jl)) (f:gh env hi=some (.int s a)) (el:jl=l) (u:a=(l:Int)+1) (g:l<10)
  (hc:xs prog fD fC hs H full K rest ((d,.string (su [dg l]))::env) w):
  xs prog fD fC hs H full K (⟨some d,.slice t x (some lo) (some hi) none,ty,pos,af,none⟩::rest) env w:=by
 refine LP l (l+1) ht n m f el fy fy (by show l+1<=10;omega) ?_;rw[Rr l g];exact hc
end
theorem CZ (w:World) (n:Nat) (u:n<=9223372036854775807):fL prog 25 #[.int .i64 (n:Int)] w λr w'=>r= .string (su (xu n))/\w=w':=by
 have v:n<10^21:=V0 u fV;refine gr func25 fx fF ?_;refine fA ?_;refine gA (α:=Nat×Nat×fQ) (λx=>[(0,.int .i64 (x.2.1:Int)),(3,.string (su x.2.2))]) (λx w'=>w=w'/\FP x.1 x.2.1 x.2.2=xu n/\x.2.1<10^(x.1+1)/\x.2.1<=n/\x.2.2.length+x.1<=20) (λx=>x.2.1) (20,n,[]) (sub ⟨rfl,rfl⟩) ⟨rfl,rfl,v,gJ _,gJ _⟩ ?_;rintro⟨k,m,s⟩ B ⟨rfl,d,hm,t,hs⟩;dsimp only at d hm t hs⊢
 by_cases f:9<m
 ·cases k with
  |zero=>omega
  |succ k=>
   rw[FP,if_pos f]at d;have g:m% 10<10:=u0 _ fV
   repeat' (first|refine tF rfl rfl fy fy fy ?_|refine tq rfl rfl fy fy fy ?_|refine xdg (m% 10) rfl rfl rfl rfl fy fy g ?_|refine rm (a:=[dg (m% 10)]) (b:=s) rfl rfl (by simp only[iA,kh];omega) ?_|refine fT ?_|fail)
   exact gn ⟨(k,m/10,dg (m% 10)::s),sub ⟨jX (by dsimp only;omega),rfl⟩,⟨rfl,d,(by dsimp only;rw[La]at hm;omega),(by dsimp only;omega),(by dsimp only[List.length_cons];omega)⟩,(by show m/10<m;omega)⟩
 ·have y:xu n=dg m::s:=by
   rw[←d];cases k with
   |zero=>rfl
   |succ k=>rw[FP,if_neg f]
  rw[y]
  repeat' (first|refine xdg m rfl rfl rfl rfl rfl rfl fy ?_|refine rm (a:=[dg m]) (b:=s) rfl rfl (by simp only[iA,kh];omega) ?_|refine fT ?_|fail)
  exact y2
def vl (a b:fQ):fQ×Int:=if gU a&&jM b then(if gU (qO a b)then(qO a b,0)else([],2))else([],1)
theorem tR {a b s:fQ} (h:nG a b=some s):vl a b=(s,0):=by
 unfold nG at h;unfold vl;split at h
 ·rename_i h1;rw[if_pos h1];split at h
  ·rename_i d;rw[if_pos d,jk h]
  ·cases h
 ·cases h
theorem IL {a b:fQ} (h:nG a b=none):(vl a b).1=[]/\(vl a b).2≠0:=by
 unfold nG at h;unfold vl;split at h
 ·rename_i h1;rw[if_pos h1];split at h
  ·cases h
  ·rename_i d;rw[if_neg d];exact⟨rfl,by decide⟩
 ·rename_i h1;rw[if_neg h1];exact⟨rfl,by decide⟩
theorem JP (w:World) (a b:fQ) (s:a.length<=400000) (u:b.length<=400000):fL prog 23 #[.string (su a),.string (su b)] w λr w'=>r= .tuple #[.string (su (vl a b).1),.int .i64 (vl a b).2]/\Ext w w':=by
 refine gK func23 fx fF ?_;refine fA ?_;refine fG fx fx (nT w a fy) (λr m h1=>?_);obtain⟨rfl,d⟩:=h1;unfold vl;cases v:gU a with
 |false=>
  refine fA ?_;exact ia fx fx fx ⟨rfl,d⟩
 | true=>
  refine fA ?_;refine fG fx fx (zY m b fy) (λr n f=>?_);obtain⟨rfl,rfl⟩:=f;cases x:jM b with
  |false=>
   refine fA ?_;exact ia fx fx fx ⟨rfl,d⟩
  | true=>
   by_cases h0:a=[]
   ·have hs:qO a b=b:=by unfold qO;rw[if_pos h0]
    rw[hs]
    repeat' (first|refine gq (op:= .neq) (b:=[]) (r:=false) rfl rfl (by simp[hZ,h0]) ?_|refine fT ?_|fail)
    refine fG fx fx (nT m b fy) (λr n f=>?_);obtain⟨rfl,g⟩:=f;cases hm:gU b with
    |false=>
     exact y38
    |true=>
     exact y38
   ·have hs:qO a b=(a++[47])++b:=by unfold qO;rw[if_neg h0];simp
    rw[hs]
    repeat' (first|refine gq (op:= .neq) (b:=[]) (r:=true) rfl rfl (by simp[hZ,h0]) ?_|refine rm (a:=a) (b:=[47]) rfl rfl (by simp only[iA,kh];omega) ?_|refine rm (a:=a++[47]) (b:=b) rfl rfl (by rw[hQ];simp only[iA,kh];omega) ?_|refine fT ?_|fail)
    refine fG fx fx (nT m ((a++[47])++b) (by rw[hQ,hQ];simp only[iA,kh];omega)) (λr n f=>?_);obtain⟨rfl,g⟩:=f;cases hm:gU ((a++[47])++b)with
    |false=>
     exact y38
    |true=>
     exact y38
end
section
section
theorem adG {t:TypeId} {x y:Operand} {g n c q:Nat} {vs:List Value} {u:Value} (hO:gD w B e z (.slice (some ⟨g,0,none⟩) n c) n vs) (I:gh env x=some (.pointer (some ⟨g,q,none⟩))) (J:gh env y=some u) (ht:one t=true) (hu:u.oneCell'=true) (hq:q<vs.length)
  (h:∀w',gD w' B e z (.slice (some ⟨g,0,none⟩) n c) n (vs.set q u)->Fr (· =g) w w'->xs prog fD fC hs H full K rest env w') (hH:∀w',Fr (· =g) w w'->H w':=by intros;trivial):xs prog fD fC hs H full K (⟨none,.store t x y,ty,pos,af,none⟩::rest) env w:=by
 obtain⟨h1,m⟩:=hO;rcases m with⟨a,_⟩|⟨M,cap,cur,a,F,G,s,v,C,d⟩
 ·cases a
 injection a with a L f
 injection a with a
 injection a with a
 subst a;subst f;have N:vs.length<=cur.size:=by rw[←d,kt];simp only[pb];omega
 refine iq G I J ht hu (decide_eq_true fy) (λw' D E=>h w' ⟨by rw[mo];exact h1,.inr ⟨g,c,cur.setIfInBounds q u,rfl,F,D,s,v,?_,?_⟩⟩ E) hH
 ·rw[Vz];exact C
 ·rw[LV,List.take_set,d]
end
theorem Ow.x3 {α:Type} {d:α->List Value} {v:Value} {l:List α} (h:Ow d z w B e v l) {b:Nat} (a:v.ownBlock=some b):∃cur,fU w b e cur:=by
 obtain⟨_,f⟩:=h;rcases f with⟨rfl,_⟩|⟨g,cap,cur,rfl,_,m,_⟩
 ·cases a
 ·have:g=b:=by simpa[Value.ownBlock]using a
  subst this;exact⟨cur,m⟩
theorem Ow.apart {α β:Type} {f:α->List Value} {g:β->List Value} {x d:Nat} {e':TypeId} {v a:Value} {l:List α} {l':List β} (h:Ow f z w B e v l) (m:Ow g x w d e' a l') (u:e≠e') {b:Nat} (s:v.ownBlock=some b):¬a.ownBlock=some b:=λt=>by
 obtain⟨c,h1⟩:=h.x3 s;obtain⟨y,n⟩:=m.x3 t;exact h1.Br n u fx
theorem CV:∀(l:List hJ) (i:Nat) (p:hJ) (s:fQ),l[i]? =some p->(l.flatMap j5).set (i*2+1) (.string (su s))=(l.set i ⟨p.pos,s⟩).flatMap j5
 |[],i,p,s,h=>by simp at h
 |x::l,0,p,s,h=>by
  simp only[KQ,C2]at h;subst h;rfl
 |x::l,i+1,p,s,h=>by
  have d:=CV l i p s (by simpa using h);rw[show(i+1)*2+1=i*2+1+2 from by omega];have a:((x::l).flatMap j5).set (i*2+1+2) (.string (su s))= .int .i64 x.pos:: .string (su x.data)::((l.flatMap j5).set (i*2+1) (.string (su s))):=rfl;rw[a,d];rfl
attribute [local irreducible] xs T
structure ClI (l:List hJ) (lo hi:Int) (w0:World) (x:Nat×Value) (w:World):Prop where
 i:x.1<=l.length
 own:Ow j5 2 w w0.heap.size 39 x.2 (gW (l.take x.1) lo hi)
 ext:Ext w0 w
def ME (l:List hJ):Prop:=l.length<=1000000/\∀p∈l,0<=p.pos/\p.pos<=4398046511104/\p.data.length<=10000000
theorem Ny {l:List hJ} {i:Nat} {p:hJ} (lo hi:Int) (h:l[i]? =some p):gW (l.take (i+1)) lo hi=gW (l.take i) lo hi++(mP lo hi p).toList:=by
 unfold gW;rw[kO,h,List.filterMap_append];cases hc:mP lo hi p<;>simp[hc]
theorem tI (w:World) (v:Value) (l:List hJ) (lo hi:Int) (R:Rw j5 w v l) (L:ME l) (Y:0<=lo/\lo<=4398046511104/\0<=hi/\hi<=4398046511104):fL prog 56 #[v,.int .i64 lo,.int .i64 hi] w λr w'=>Ow j5 2 w' w.heap.size 39 r (gW l lo hi)/\Ext w w':=by
 refine kz func56 fx fF ?_;obtain⟨A,c,rfl,U,V,D⟩:=R.op ha;obtain⟨X,N⟩:=L;refine fA ?_;refine gA (α:=Nat×Value) (λx=>[(0,.slice A l.length c),(1,.int .i64 lo),(2,.int .i64 hi),(7,x.2),(8,.int .i64 (x.1:Int))]) (ClI l lo hi w) (λx=>l.length-x.1) (0,.slice none 0 0) (sub ⟨rfl,rfl,rfl,rfl,rfl⟩) ⟨iy _,Ow.nil _ _ _,Fr.refl _ _⟩ ?_;rintro⟨i,v⟩ g ⟨K,f,a⟩;dsimp only at K f a⊢
 by_cases fW:i<l.length
 ·obtain⟨b,o,p,rfl,_,C,_,y⟩:=D.at_ fW;obtain⟨p0,p1,p2⟩:=N p (jS C);have c0:g.drew.cell? ⟨b,o+i*2+0,none⟩=some (.int .i64 p.pos):=a.ed.cell (y 0 _ rfl);have c1:g.drew.cell? ⟨b,o+i*2+1,none⟩=some (.string (su p.data)):=a.ed.cell (y 1 _ rfl);have d0:g.drew.drew.cell? ⟨b,o+i*2+0,none⟩=some (.int .i64 p.pos):=c0;have d1:g.drew.drew.cell? ⟨b,o+i*2+1,none⟩=some (.string (su p.data)):=c1;have n:=Ny lo hi C
  by_cases m:max lo p.pos<min hi (gO p)
  ·have Q:mP lo hi p=some ⟨max lo p.pos,(p.data.drop (max lo p.pos-p.pos).toNat).take (min hi (gO p)-max lo p.pos).toNat⟩:=if_pos m;rw[Q,xN]at n;have J:max lo p.pos<min hi (p.pos+(p.data.length:Int)):=m
   repeat' (first|refine gF i (o+i*2) rfl rfl rfl rfl rfl fW ?_|refine iH rfl rfl ?_|refine FO ?_|fail)
   refine LP (max lo p.pos-p.pos).toNat (min hi (p.pos+(p.data.length:Int))-p.pos).toNat fx fx fx fx fy fy fy fy ?_;rw[show(min hi (p.pos+(p.data.length:Int))-p.pos).toNat-(max lo p.pos-p.pos).toNat=(min hi (p.pos+(p.data.length:Int))-max lo p.pos).toNat from by omega];obtain⟨q,hq⟩:∃q:hJ,q=⟨max lo p.pos,(p.data.drop (max lo p.pos-p.pos).toNat).take (min hi (p.pos+(p.data.length:Int))-max lo p.pos).toNat⟩:=⟨_,rfl⟩;refine qv (parts:=[(0,.tmp 42),(1,.tmp 62)]) (cells:=(j5 q).toArray) (vs:=[(0,.int .i64 q.pos),(1,.string (su q.data))]) (by rw[hq];rfl) fF ?_;refine nY kk fx fx fV fV (λS E F Z=>?_);have s:Ext g S:=((Fr.drew _ _).t (Fr.drew _ _)).t F;have M:=ru (l.take i) lo hi;rw[kt]at M;have aa:=a.size;have ab:=s.size;refine jI (B:=w.heap.size) (news:=j5 q) kk fx fV fx (f.ext s) fx (gS E fV fx) fx (λu hu=>lV [_] u (by simpa using hu)) (by unfold maxLen;omega) fy fy (λv3 T H G _=>?_);have I:Ow j5 2 T w.heap.size 39 v3 (gW (l.take i) lo hi++[q]):=Ow.ext1 (l':=[q]) (by simpa using H);refine fA ?_;exact gn ⟨(i+1,v3),sub ⟨rfl,rfl,rfl,rfl,rfl⟩,⟨fW,by dsimp only;rw[n];subst hq;exact I,(a.t s).trans G λj W h=>by have:=(f.gH h).1;omega⟩,(by show l.length-(i+1)<l.length-i;omega)⟩
  ·have O:mP lo hi p=none:=if_neg m;rw[O,Option.toList_none,nk]at n;have J:¬max lo p.pos<min hi (p.pos+(p.data.length:Int)):=m
   repeat' (first|refine gF i (o+i*2) rfl rfl rfl rfl rfl fW ?_|refine iH rfl rfl ?_|refine FO ?_|fail)
   exact gn ⟨(i+1,v),sub ⟨rfl,rfl,rfl,rfl,rfl⟩,⟨fW,by dsimp only;rw[n];exact f.ext (Fr.drew _ _),a.d⟩,(by show l.length-(i+1)<l.length-i;omega)⟩
 ·obtain rfl:i=l.length:=fy;rw[km]at f;refine fA ?_;exact fB fx fx ⟨f,a⟩
def CH (O r:List hJ):List hJ:=match O.getLast? with
 |none=>jC r
 |some c=>O.dropLast++lS c r
theorem NB (r:List hJ):CH [] r=jC r:=rfl
theorem p7 (O:List hJ) (c:hJ) (r:List hJ):CH (O++[c]) r=O++lS c r:=by
 unfold CH;rw[List.getLast?_concat,BR]
structure JnI (l:List hJ) (w0:World) (x:Nat×Value×List hJ) (w:World):Prop where
 i:x.1<=l.length
 own:Ow j5 2 w w0.heap.size 39 x.2.1 x.2.2
 go:CH x.2.2 (l.drop x.1)=jC l
 len:x.2.2.length<=x.1
 pos:∀p∈x.2.2,0<=p.pos/\p.pos<=4398046511104
 by_:fE x.2.2<=fE (l.take x.1)
 ext:Ext w0 w
theorem A3 (l:List hJ) (i:Nat):fE (l.take i)<=fE l:=by
 conv=>rhs;rw[←lv i l,iG]
 omega
theorem DP (w:World) (v:Value) (l:List hJ) (aw:Rw j5 w v l) (ao:ME l) (aB:fE l<=1000000000):fL prog 59 #[v] w λr w'=>Ow j5 2 w' w.heap.size 39 r (jC l)/\Ext w w':=by
 refine gr func59 fx fF ?_;obtain⟨A,c,rfl,aD,aG,ah⟩:=aw.op ha;obtain⟨aJ,ap⟩:=ao;refine fA ?_;refine gA (α:=Nat×Value×List hJ) (λx=>[(0,.slice A l.length c),(3,x.2.1),(4,.int .i64 (x.1:Int))]) (JnI l w) (λx=>l.length-x.1) (0,.slice none 0 0,[]) (sub ⟨rfl,rfl,rfl⟩) ⟨iy _,Ow.nil _ _ _,NB _,iy _,(λp H=>by cases H),iy _,Fr.refl _ _⟩ ?_;rintro⟨i,v,O⟩ y ⟨hi,s,f,hlen,I,Q,n⟩;dsimp only at hi s f hlen I Q n⊢;obtain⟨ax,c1,rfl,aE,aF⟩:=s.form
 by_cases fW:i<l.length
 ·obtain⟨b,o,p,rfl,_,H,ak,R⟩:=ah.at_ fW;obtain⟨p0,p1,p2⟩:=ap p (jS H);have e0:y.drew.cell? ⟨b,o+i*2+0,none⟩=some (.int .i64 p.pos):=n.ed.cell (R 0 _ rfl);have az:y.drew.drew.cell? ⟨b,o+i*2+1,none⟩=some (.string (su p.data)):=n.ed.ed.cell (R 1 _ rfl);have aa:∀j u,(j5 p)[j]? =some u->y.drew.cell? ⟨b,o+i*2+j,none⟩=some u:=λj u hu=>n.ed.cell (R j u hu)
  have W:=mZ H;have aC:=A3 l (i+1);rw[ak]at f
  have V:∀U:List hJ,(U=O∨∃d q,O=d++[q]/\U=d++[q])->fE (O++[p])<=fE (l.take (i+1)):=λ_ _=>by
   rw[iG,W];simp only[fE];omega
  have ab:∀x∈O++[p],0<=x.pos/\x.pos<=4398046511104:=λx g=>by
   rcases iK.1 g with g|g
   ·exact I x g
   ·rw[kl.1 g];exact⟨p0,p1⟩
  have aM:=n.size;rcases Cs O with hO|⟨d,q,hO⟩
  ·subst hO;have aK:([]:List hJ).length=0:=rfl
   have an:CH [p] (l.drop (i+1))=jC l:=by
    rw[←f];exact p7 [] p _
   refine zF ?_;refine hL (cs:=j5 p) fx fx aa ?_;refine fA ?_;refine nY kk fx fx fV fV (λF J K ar=>?_);have C:Ext y F:=(Fr.drew _ _).t K;have av:=C.size;refine fA ?_;refine jI (B:=w.heap.size) (news:=j5 p) kk fx fV fx (s.ext C) fx (gS J fV fx) fx (λu hu=>lV [_] u (by simpa using hu)) fV fV fy (λv3 T M L _=>?_);have N:Ow j5 2 T w.heap.size 39 v3 ([]++[p]):=Ow.ext1 (l':=[p]) (by simpa using M);refine fA ?_;exact gn ⟨(i+1,v3,[p]),sub ⟨rfl,rfl,rfl⟩,⟨fW,N,an,by dsimp only[List.length_cons,List.length_nil];omega,ab,V [] (.inl fx),(n.t C).trans L λj Z h=>by have:=(s.gH h).1;omega⟩,(by show l.length-(i+1)<l.length-i;omega)⟩
  ·rw[Da]at hO;subst hO;obtain⟨q0,q1⟩:=I q ir;have E:(d++[q]).length=d.length+1:=by simp
   have aL:fE d+q.data.length<=fE (l.take i):=by
    rw[iG]at Q;simp only[fE]at Q;omega
   rw[p7,lS]at f;have S:(d++[q])[d.length]? =some q:=by simp
   obtain⟨D,ay,ag,aH,aI,_,_,X⟩:=gD.go s (by rw[E];omega);injection ag with ad aA af
   subst ad;subst af;have r0:y.drew.cell? ⟨D,d.length*2+0,none⟩=some (.int .i64 q.pos):=X _ _ (flat_get ha S (j:=0) rfl);have r1:y.drew.cell? ⟨D,d.length*2+1,none⟩=some (.string (su q.data)):=X _ _ (flat_get ha S (j:=1) rfl);have r2:y.drew.drew.cell? ⟨D,d.length*2+1,none⟩=some (.string (su q.data)):=r1
   by_cases he:gO q=p.pos
   ·rw[if_pos he]at f;have al:q.pos+(q.data.length:Int)=p.pos:=he
    repeat' (first|refine gF i (o+i*2) rfl rfl rfl rfl rfl fW ?_|refine gF d.length (d.length*2) rfl rfl rfl (by rw[E];omega) fy (by rw[E];omega) ?_|refine iH rfl rfl ?_|refine rm (a:=q.data) (b:=p.data) rfl rfl fy ?_|refine fT ?_|fail)
    refine adG (gD.ext s (Fr.ed (Fr.ed (Fr.refl _ _)))) fx fx fF fx (by rw[gl ha,E];omega) (λF G ai=>?_);rw[CV _ _ _ _ S]at G;obtain⟨m,hm⟩:∃m:hJ,m=⟨q.pos,q.data++p.data⟩:=⟨_,rfl⟩;rw[←hm]at G f;have au:(d++[q]).set d.length m=d++[m]:=by simp
    rw[au]at G;have ae:(d++[m]).length=(d++[q]).length:=by simp
    have aj:Ow j5 2 F w.heap.size 39 (.slice (some ⟨D,0,none⟩) (d++[q]).length c1) (d++[m]):=by
     unfold Ow;rw[ae];exact G
    refine fA ?_;refine gn ⟨(i+1,.slice (some ⟨D,0,none⟩) (d++[q]).length c1,d++[m]),sub ⟨rfl,rfl,rfl⟩,⟨fW,aj,?_,?_,λx g=>?_,?_,?_⟩,(by show l.length-(i+1)<l.length-i;omega)⟩
    ·rw[p7];exact f
    ·dsimp only;rw[hQ]at hlen⊢;simp only[iA,kh]at hlen⊢;omega
    ·rcases iK.1 g with g|g
     ·exact I x (by simp[g])
     ·rw[kl.1 g,hm];exact⟨q0,q1⟩
    ·dsimp only;rw[iG,W,hm];simp only[fE,hQ];omega
    ·exact(n.ed.ed).trans ai λj Z h=>by have h:j=D:=h;omega
   ·rw[if_neg he]at f;have al:¬q.pos+(q.data.length:Int)=p.pos:=he
    repeat' (first|refine gF i (o+i*2) rfl rfl rfl rfl rfl fW ?_|refine gF d.length (d.length*2) rfl rfl rfl (by rw[E];omega) fy (by rw[E];omega) ?_|refine iH rfl rfl ?_|refine fT ?_|fail)
    refine hL (cs:=j5 p) fx fx aa ?_;refine fA ?_;refine nY kk fx fx fV fV (λF J K ar=>?_);have C:Ext y F:=(Fr.drew _ _).t K;have av:=C.size;refine fA ?_;refine jI (B:=w.heap.size) (news:=j5 p) kk fx fV fx (s.ext C) fx (gS J fV fx) fx (λu hu=>lV [_] u (by simpa using hu)) (by unfold maxLen;omega) fy fy (λv3 T M L _=>?_);have N:Ow j5 2 T w.heap.size 39 v3 ((d++[q])++[p]):=Ow.ext1 (l':=[p]) (by simpa using M);refine fA ?_;refine gn ⟨(i+1,v3,(d++[q])++[p]),sub ⟨rfl,rfl,rfl⟩,⟨fW,N,?_,?_,ab,V _ (.inl fx),(n.t C).trans L λj Z h=>by have:=(s.gH h).1;omega⟩,(by show l.length-(i+1)<l.length-i;omega)⟩
    ·rw[p7,←f];simp
    ·dsimp only;rw[hQ];simp only[iA,kh];omega
 ·obtain rfl:i=l.length:=fy;rw[jJ]at f
  have am:jC l=O:=by
   rw[←f];unfold CH;cases Y:O.getLast? with
   |none=>rw[List.getLast?_eq_none_iff.1 Y];rfl
   |some q=>
    obtain⟨r,aq⟩:=List.getLast?_eq_some_iff.1 Y;rw[aq,BR];rfl
  rw[am];refine fA ?_;exact fB fx fx ⟨s,n⟩
end
end Go.Proofs.YtecaahegomdbbaaGreatDoor.gp
