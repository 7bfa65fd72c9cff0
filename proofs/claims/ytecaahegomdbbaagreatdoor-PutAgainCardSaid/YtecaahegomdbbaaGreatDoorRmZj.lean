/- Parts of the proof. -/
import Derived.Lib.Overlaps
import Derived.Test.YtecaahegomdbbaaGreatDoorRmB4a
set_option linter.all false
set_option maxRecDepth 99999
set_option maxHeartbeats 0
namespace Go.Proofs.YtecaahegomdbbaaGreatDoor.gr
open Go.Proofs.Tryz
open Go.RowKit
variable {c n o z:Nat} {x:i7} {t:i9}
section
section
variable {hs:ip Nat} {H:i5->Prop} {full:Array li} {K:Env->i5->Prop} {ii:ip li} {Y:Env} {w:i5} {d:Tmp} {R:i9} {pos:String} {af:Array Edge}
def rT {lo:i7} {k:kw} {b:Nat} {jl:Int} (l:Nat) (y:es t=some z) (v:gh Y x=some (.S b o n c)) (u:gh Y lo=some (.int k jl)) (el:jl=l) (h1:l<=n) (g:n<=c) (h3:l<c)
  (hc:xs prog fD fC hs H full K ii ((d,.S b (o+l*z) (n-l) (c-l))::Y) w):
  xs prog fD fC hs H full K (⟨some d,.slice t x (some lo) none none,R,pos,af,none⟩::ii) Y w:=by
 subst el;refine PJ y v u fy fy g (λB m=>?_);have f:=m b o rfl fy;rw[je]at f|-;rw[f];exact hc
def Mo {hi:i7} {C:kw} {b:Nat} {f:Int} (h:Nat) (B:es t=some z) (y:gh Y x=some (.S b o n c)) (v:gh Y hi=some (.int C f)) (m:f=h) (E:h<=c) (h3:0<c)
  (hc:xs prog fD fC hs H full K ii ((d,.S b o h c)::Y) w):
  xs prog fD fC hs H full K (⟨some d,.slice t x none (some hi) none,R,pos,af,none⟩::ii) Y w:=by
 subst m;refine Yt B y v fy fy (λD u=>?_);have g:=u b o rfl h3;rw[je,g];exact hc
def abP {A:Option Addr} (m:es t=some z) (f:gh Y x=some (.slice A n c)) (h:xs prog fD fC hs H full K ii ((d,.I c)::Y) w) (hH:H w:=by trivial):
  xs prog fD fC hs H full K (⟨some d,.call {callee:= .builtin .cap,args:=⟨[x]⟩,argTypes:=⟨[t]⟩},R,pos,af,none⟩::ii) Y w:=by
 obtain⟨e,i,hu,u,y⟩:=mY m;have g:(Builtin.cap_ #[t] R #[.slice A n c]).run prog w= .ok (goInt c) w:=by simp[Builtin.cap_,run_underlying hu]
 refine xw (v:=goInt c) (w':=w) (by simp[gd,Op.operands,Call.operands,f]) fx ?_ h hH;simp[execOp,resolve,invoke,builtin,fR f,g]
end
def Uw {vs P X D:ip i6} {a:Nat} (d:vs.take a=P) (f:P.length=a) (t:vs.length=n) (m:a+X.length<=n) (g:a+X.length+D.length=n):
  (vs.take a++X++vs.drop (a+X.length)).take (a+X.length)++D++(vs.take a++X++vs.drop (a+X.length)).drop (a+X.length+D.length)=P++(X++D):=by
 have h1:(vs.take a++X).length=a+X.length:=by rw[ib,d,f]
 rw[M9 fy,p8 fy,zi (by rw[ib,h1,lY];omega),d,mR,kF]
def PF {vs P X D:ip i6} {a:Nat} (f:vs.take a=P) (_:P.length=a) (m:vs.length=n) (g:a+X.length+D.length=n):
  (vs.take (a+X.length)++D++vs.drop (a+X.length+D.length)).take a++X++(vs.take (a+X.length)++D++vs.drop (a+X.length+D.length)).drop (a+X.length)=P++(X++D):=by
 have h1:(vs.take (a+X.length)).length=a+X.length:=by rw[kv];omega
 have d:vs.drop (a+X.length+D.length)=[]:=zi fy;have h3:(vs.take (a+X.length)).take a=P:=by rw[IP,show min a (a+X.length)=a from by omega,f]
 rw[d,mR];generalize vs.take (a+X.length)=Q at h1 h3|-;rw[M9 fy,h3,List.drop_left' h1,kF]
def T2 {w:i5} {g gv m:Nat} {t':i9} {cs d:Array i6} {r:Array i9} (u:fW w gv t cs) (x:fW w g t' d) (y:gv≠g) (h0:d.size≠0):
  (Extern.SlicesOverlaps.overlaps #[23,23] r #[.S gv 0 n n,.S g o m c]).run prog w= .ok (.bool false) w:=by
 have B:∀w,(Go.sizeOf 49).run prog w= .ok 2 w:=λw=>by
  have f:(prog.info? 49).map (·.size)=some 2:=by kernel_rfl
  cases hi:prog.info? 49 with
  |none=>rw[hi]at f;cases f
  |some i=>
   rw[hi]at f;simp only[tT,CU]at f;simp[sizeOf,typeInfo,hi,f]
 have h1:w.shape? gv=some (t,cs.size):=by
  have:w.heap[gv]? =some (.cells cs t (0,0)):=u;simp[World.shape?,this]
 have v:w.shape? g=some (t',d.size):=by
  have:w.heap[g]? =some (.cells d t' (0,0)):=x;simp[World.shape?,this]
 exact Lib.run_overlaps_apart w 23 4 49 underlying23 2 B ⟨gv,0,none⟩ ⟨g,o,none⟩ n n m c y t t' cs.size d.size h1 v h0 (u.frozen 0) (u.frozen cs.size)
attribute [local irreducible] xs T
def xU (w:i5) (B g gv c i:Nat) (l:ip En) (x:En) (hO:Ow hR 2 w B 49 (.S g 0 l.length c) l) (N:fW w gv 49 (hR x).toArray) (aa:gv≠g) (hi:i<=l.length) (h0:0<l.length) (aH:l.length<=1000000):
  fQ prog 94 #[.S g 0 l.length c,.I (i:Int),.S gv 0 1 1] w λr w'=>Ow hR 2 w' B 49 r (l.take i++x::l.drop i)/\Fr (· =g) w w'/\∀b,r.ownBlock=some b->b=g\/w.heap.size<=b:=by
 refine kg func94 fx fE ?_;obtain⟨hlen,v⟩:=id hO;rcases v with⟨f,_⟩|⟨ax,cap,cur,f,ay,ah,G,al,aB,ap⟩
 .cases f
 injection f with f _ ag
 injection f with f
 injection f with f
 subst f;subst ag;have J:fW w g 49 cur:=ah;have aG:=J.lt;have aA:c<=9223372036854775807:=al;have aC:=gn gi l;have ad:(l.take i++x::l.drop i).length=l.length+1:=by rw[ib,kv,iP,lY];omega
 have Z:(l.take i++x::l.drop i).flatMap hR=(l.take i).flatMap hR++(hR x++(l.drop i).flatMap hR):=by rw[ue,tu]
 have E:((l.take i).flatMap hR).length=i*2:=by rw[gn gi,kv];congr 1;omega
 have C:((l.drop i).flatMap hR).length=(l.length-i)*2:=by rw[gn gi,lY]
 have R:l.flatMap hR=(l.take i).flatMap hR++(l.drop i).flatMap hR:=by rw[<-ue,mJ]
 have ae:∀j u,(l.flatMap hR)[j]? =some u->w.cell? ⟨g,j,none⟩=some u:=λj u hu=>by
  rw[J.cell,<-Hr];rw[<-ap]at hu;exact(GH (by have:=(jR.1 hu).1;rw[kv]at this;omega)).symm.trans hu
 have ak:∀j u,((l.take i).flatMap hR)[j]? =some u->w.cell? ⟨g,0+j,none⟩=some u:=λj u hu=>by
  rw[iM];refine ae j u ?_;rw[R,rk (jR.1 hu).1];exact hu
 have T:∀j u,((l.drop i).flatMap hR)[j]? =some u->gc w g (i*2+j) u:=λj u hu=>by
  refine ae _ u ?_;rw[R,tk fy,E,Ia];exact hu
 have W:∀j u,(hR x)[j]? =some u->w.cell? ⟨gv,0+j,none⟩=some u:=λj u hu=>by
  rw[iM,N.cell,po];exact hu
 have ab:∀(l:ip En),∀u∈l.flatMap hR,u.oneCell'=true:=λl=>mC l
 have Q:∀u∈hR x,u.oneCell'=true:=λu hu=>by have:=mC [x] u;simp at this;exact this hu
 by_cases he:i=l.length
 .subst he
  repeat' (first|refine PJ fx fx fx fy fy G (λaw _=>?_)|refine fT ?_|fail)
  have U:=hO;unfold Ow at U;refine jH (news:=hR x) iO fx fU fx U fx (gQ N fU fx) fx Q (by unfold maxLen;omega) fy fy (λv2 au v aj aq=>?_);refine fA ?_;refine fB fx fx ⟨?_,aj.mono λk _ h=>by injection h with h;exact h.symm,λb m=>?_⟩
  .rw[kh,jP];exact Ow.ext1 (l':=[x]) (by simpa using v)
  .rcases aq with h|h
   .rw[h]at m;injection m with m;exact .inl m.symm
   .rw[h]at m;injection m with m;exact .inr fy
 have fY:i<l.length:=fy;have O:i<c:=fy
 by_cases aD:c<l.length+1
 .repeat' (first|refine abP fx fx ?_|refine rT i fx fx fx fy hi G O ?_|refine Mo i fx fx fx fy fy fy ?_|refine fT ?_|fail)
  refine afu (k:=l.length+1-i) (olds:=(l.take i).flatMap hR) iO underlying3 fx fU fx E ak fx fy fy fy (by unfold maxLen;omega) fy (λv2 au zs v aI K=>?_);have an:i+(l.length+1-i)=l.length+1:=fy;rw[an]at v;obtain⟨g2,c2,rfl,aE,aF,Y,az,_⟩:=v.go fy
  repeat' (first|refine rT i fx fx fx fy fy Y fy ?_|refine fT ?_|fail)
  refine U0 (z:=2) (cs:=hR x) fx v fx fx (by show 2=_;omega) (λj u hu=>K.cell (W j u hu)) (by show _+2<=_;omega) Q (λav M F=>?_)
  repeat' (first|refine rT (i+1) fx fx fx fy fy Y fy ?_|refine rT i fx fx fx fy fy G O ?_|refine fT ?_|fail)
  refine U0 (z:=2) (cs:=(l.drop i).flatMap hR) fx M fx fx (by rw[C];omega) (λj u hu=>by rw[iM];exact F.cell (K.cell (T j u hu)) (show ¬g=g2 by omega)) (by rw[C];omega) (ab _) (λaf y L=>?_);refine fA ?_;refine fB fx fx ⟨?_,?_,λb m=> .inr (by have S:g2=b:=jb m;omega)⟩
  .unfold Ow;rw[ad,Z];have I:=Uw (vs:=(l.take i).flatMap hR++zs) (P:=(l.take i).flatMap hR) (X:=hR x) (D:=(l.drop i).flatMap hR) (a:=i*2) (n:=(l.length+1)*2) (by rw[<-E,vr]) E v.len (by show _+2<=_;omega) (by show _+2+_=_;rw[C];omega);have f:0+i*2=i*2:=iM _;have H:0+(i+1)*2=i*2+(hR x).length:=by show _=i*2+2;omega
   rw[f,H]at y;rw[I]at y;exact y.mono fy
  .have ai:Ext w af:=(K.trans F λj ao e=>by have:j=g2:=e;omega).d.trans L λj ao e=>by have:j=g2:=e;omega
   exact ai.fr
 .obtain⟨ar,V⟩:=gK.grow (n':=l.length+1) hO fy fy;have am:cur.size≠0:=fy
  repeat' (first|refine abP fx fx ?_|refine rT i fx fx fx fy hi G O ?_|refine Mo (l.length+1) fx fx fx fy fy fy ?_|refine rT (i+1) fx fx fx fy fy fy fy ?_|refine fT ?_|fail)
  refine U9 (e:=Extern.SlicesOverlaps.overlaps #[23,23] #[4]) func158 fE fE fE fE fx (T2 N J aa am) ?_
  repeat' (first|refine rT (i+1) fx fx fx fy fy fy fy ?_|refine rT i fx fx fx fy fy fy fy ?_|refine fT ?_|fail)
  refine U0 (z:=2) (cs:=(l.drop i).flatMap hR) fx V fx fx (by rw[C];omega) (λj u hu=>by rw[iM];exact T j u hu) (by rw[C];omega) (ab _) (λav M F=>?_)
  repeat' (first|refine rT i fx fx fx fy fy fy fy ?_|refine fT ?_|fail)
  refine U0 (z:=2) (cs:=hR x) fx M fx fx (by show 2=_;omega) (λj u hu=>F.cell (W j u hu) aa) (by show _+2<=_;omega) Q (λaf y L=>?_);refine fA ?_;refine fB fx fx ⟨?_,(Fr.drew _ w).t (F.t L),λb m=> .inl (by have S:g=b:=jb m;exact S.symm)⟩;unfold Ow;rw[ad,Z];have I:=PF (vs:=l.flatMap hR++ar) (P:=(l.take i).flatMap hR) (X:=hR x) (D:=(l.drop i).flatMap hR) (a:=i*2) (n:=(l.length+1)*2) (by rw[R,kF,<-E,vr]) E V.len (by show _+2+_=_;rw[C];omega);have f:0+i*2=i*2:=iM _;have H:0+(i+1)*2=i*2+(hR x).length:=by show _=i*2+2;omega
  rw[f,H]at y;rw[I]at y;exact y
