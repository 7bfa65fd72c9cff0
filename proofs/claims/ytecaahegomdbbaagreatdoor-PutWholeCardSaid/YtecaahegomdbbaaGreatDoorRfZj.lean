/- Parts of the proof. -/
import Derived.Lib.Overlaps
import Derived.Test.YtecaahegomdbbaaGreatDoorRfB4a
set_option linter.all false
set_option maxRecDepth 100000
set_option maxHeartbeats 64000000
namespace Go.Proofs.YtecaahegomdbbaaGreatDoor.gp
open Go.Proofs.Tryz
open Go.RowKit
variable {c n o z:Nat} {x:Operand} {t:TypeId}
section
section
variable {hs:List Nat} {H:World->Prop} {full:Array Oper} {K:Env->World->Prop} {rest:List Oper} {env:Env} {w:World} {d:Tmp} {ty:TypeId} {pos:String} {af:Array Edge}
theorem rH {lo:Operand} {k:IntKind} {b:Nat} {jl:Int} (l:Nat) (u:es t=some z) (s:gh env x=some (.slice (some ⟨b,o,none⟩) n c)) (m:gh env lo=some (.int k jl)) (el:jl=l) (h1:l<=n) (f:n<=c) (y:l<c)
  (hc:xs prog fD fC hs H full K rest ((d,.slice (some ⟨b,o+l*z,none⟩) (n-l) (c-l))::env) w):
  xs prog fD fC hs H full K (⟨some d,.slice t x (some lo) none none,ty,pos,af,none⟩::rest) env w:=by
 subst el;refine P5 u s m fy fy f (λv g=>?_);have a:=g b o rfl fy;rw[jf]at a⊢;rw[a];exact hc
theorem LJ {hi:Operand} {B:IntKind} {b:Nat} {a:Int} (h:Nat) (y:es t=some z) (v:gh env x=some (.slice (some ⟨b,o,none⟩) n c)) (u:gh env hi=some (.int B a)) (g:a=h) (D:h<=c) (m:0<c)
  (hc:xs prog fD fC hs H full K rest ((d,.slice (some ⟨b,o,none⟩) h c)::env) w):
  xs prog fD fC hs H full K (⟨some d,.slice t x none (some hi) none,ty,pos,af,none⟩::rest) env w:=by
 subst g;refine WE y v u fy fy (λC s=>?_);have f:=s b o rfl m;rw[jf,f];exact hc
theorem Z2 {A:Option Addr} (g:es t=some z) (a:gh env x=some (.slice A n c)) (h:xs prog fD fC hs H full K rest ((d,.int .i64 c)::env) w) (hH:H w:=by trivial):
  xs prog fD fC hs H full K (⟨some d,.call {callee:= .builtin .cap,args:=⟨[x]⟩,argTypes:=⟨[t]⟩},ty,pos,af,none⟩::rest) env w:=by
 obtain⟨e,i,hu,m,s⟩:=mL g;have f:(Builtin.cap_ #[t] ty #[.slice A n c]).run prog w= .ok (goInt c) w:=by simp[Builtin.cap_,run_underlying hu]
 refine xw (v:=goInt c) (w':=w) (by simp[fX,Op.operands,Call.operands,a]) fx ?_ h hH;simp[execOp,resolve,invoke,builtin,fM a,f]
end
theorem TA {vs P X D:List Value} {a:Nat} (d:vs.take a=P) (f:P.length=a) (s:vs.length=n) (m:a+X.length<=n) (g:a+X.length+D.length=n):
  (vs.take a++X++vs.drop (a+X.length)).take (a+X.length)++D++(vs.take a++X++vs.drop (a+X.length)).drop (a+X.length+D.length)=P++(X++D):=by
 have h1:(vs.take a++X).length=a+X.length:=by rw[hQ,d,f]
 rw[Mg fy,pG fy,yE (by rw[hQ,h1,lH];omega),d,nk,j7]
theorem Qn {vs P X D:List Value} {a:Nat} (g:vs.take a=P) (_:P.length=a) (s:vs.length=n) (m:a+X.length+D.length=n):
  (vs.take (a+X.length)++D++vs.drop (a+X.length+D.length)).take a++X++(vs.take (a+X.length)++D++vs.drop (a+X.length+D.length)).drop (a+X.length)=P++(X++D):=by
 have h1:(vs.take (a+X.length)).length=a+X.length:=by rw[kt];omega
 have f:vs.drop (a+X.length+D.length)=[]:=yE fy;have d:(vs.take (a+X.length)).take a=P:=by rw[Hm,show min a (a+X.length)=a from by omega,g]
 rw[f,nk];generalize vs.take (a+X.length)=Q at h1 d⊢;rw[Mg fy,d,List.drop_left' h1,j7]
theorem Uk {w:World} {g gv m:Nat} {t':TypeId} {cs a:Array Value} {r:Array TypeId} (f:fU w gv t cs) (u:fU w g t' a) (v:gv≠g) (h0:a.size≠0):
  (Extern.SlicesOverlaps.overlaps #[23,23] r #[.slice (some ⟨gv,0,none⟩) n n,.slice (some ⟨g,o,none⟩) m c]).run prog w= .ok (.bool false) w:=by
 have x:∀w,(Go.sizeOf 49).run prog w= .ok 2 w:=λw=>by
  have d:(prog.info? 49).map (·.size)=some 2:=by kernel_rfl
  cases hi:prog.info? 49 with
  |none=>rw[hi]at d;cases d
  |some i=>
   rw[hi]at d;simp only[tH,C2]at d;simp[sizeOf,typeInfo,hi,d]
 have h1:w.shape? gv=some (t,cs.size):=by
  have:w.heap[gv]? =some (.cells cs t (0,0)):=f;simp[World.shape?,this]
 have s:w.shape? g=some (t',a.size):=by
  have:w.heap[g]? =some (.cells a t' (0,0)):=u;simp[World.shape?,this]
 exact Lib.run_overlaps_apart w 23 4 49 underlying23 2 x ⟨gv,0,none⟩ ⟨g,o,none⟩ n n m c v t t' cs.size a.size h1 s h0 (f.frozen 0) (f.frozen cs.size)
attribute [local irreducible] xs T
theorem xq (w:World) (B g gv c i:Nat) (l:List En) (x:En) (hO:Ow hI 2 w B 49 (.slice (some ⟨g,0,none⟩) l.length c) l) (M:fU w gv 49 (hI x).toArray) (Z:gv≠g) (hi:i<=l.length) (h0:0<l.length) (aG:l.length<=1000000):
  fL prog 94 #[.slice (some ⟨g,0,none⟩) l.length c,.int .i64 (i:Int),.slice (some ⟨gv,0,none⟩) 1 1] w λr w'=>Ow hI 2 w' B 49 r (l.take i++x::l.drop i)/\Fr (· =g) w w'/\∀b,r.ownBlock=some b->b=g∨w.heap.size<=b:=by
 refine kz func94 fx fF ?_;obtain⟨hlen,s⟩:=id hO;rcases s with⟨f,_⟩|⟨aw,cap,cur,f,ax,ag,F,ak,aA,ao⟩
 ·cases f
 injection f with f _ af
 injection f with f
 injection f with f
 subst f;subst af;have I:fU w g 49 cur:=ag;have aF:=I.lt;have az:c<=9223372036854775807:=ak;have aB:=gl gj l;have ab:(l.take i++x::l.drop i).length=l.length+1:=by rw[hQ,kt,iA,lH];omega
 have Y:(l.take i++x::l.drop i).flatMap hI=(l.take i).flatMap hI++(hI x++(l.drop i).flatMap hI):=by rw[tO,wb]
 have C:((l.take i).flatMap hI).length=i*2:=by rw[gl gj,kt];congr 1;omega
 have y:((l.drop i).flatMap hI).length=(l.length-i)*2:=by rw[gl gj,lH]
 have Q:l.flatMap hI=(l.take i).flatMap hI++(l.drop i).flatMap hI:=by rw[←tO,lv]
 have ad:∀j u,(l.flatMap hI)[j]? =some u->w.cell? ⟨g,j,none⟩=some u:=λj u hu=>by
  rw[I.cell,←E0];rw[←ao]at hu;exact(FN (by have:=(j0.1 hu).1;rw[kt]at this;omega)).symm.trans hu
 have aj:∀j u,((l.take i).flatMap hI)[j]? =some u->w.cell? ⟨g,0+j,none⟩=some u:=λj u hu=>by
  rw[iC];refine ad j u ?_;rw[Q,pR (j0.1 hu).1];exact hu
 have S:∀j u,((l.drop i).flatMap hI)[j]? =some u->w.cell? ⟨g,i*2+j,none⟩=some u:=λj u hu=>by
  refine ad _ u ?_;rw[Q,qE fy,C,HY];exact hu
 have V:∀j u,(hI x)[j]? =some u->w.cell? ⟨gv,0+j,none⟩=some u:=λj u hu=>by
  rw[iC,M.cell,pB];exact hu
 have aa:∀(l:List En),∀u∈l.flatMap hI,u.oneCell'=true:=λl=>mK l
 have O:∀u∈hI x,u.oneCell'=true:=λu hu=>by have:=mK [x] u;simp at this;exact this hu
 by_cases he:i=l.length
 ·subst he
  repeat' (first|refine P5 rfl rfl rfl fy fy F (λav _=>?_)|refine fT ?_|fail)
  have T:=hO;unfold Ow at T;refine jI (news:=hI x) iZ fx fV fx T fx (gS M fV fx) fx O (by unfold maxLen;omega) fy fy (λv2 ar s ai ap=>?_);refine fA ?_;refine fB fx fx ⟨?_,ai.mono λk _ h=>by injection h with h;exact h.symm,λb m=>?_⟩
  ·rw[km,jJ];exact Ow.ext1 (l':=[x]) (by simpa using s)
  ·rcases ap with h|h
   ·rw[h]at m;injection m with m;exact .inl m.symm
   ·rw[h]at m;injection m with m;exact .inr fy
 have fW:i<l.length:=fy;have N:i<c:=fy
 by_cases aC:c<l.length+1
 ·repeat' (first|refine Z2 rfl rfl ?_|refine rH i rfl rfl rfl fy hi F N ?_|refine LJ i rfl rfl rfl fy fy fy ?_|refine fT ?_|fail)
  refine ab2 (k:=l.length+1-i) (olds:=(l.take i).flatMap hI) iZ underlying3 fx fV fx C aj fx fy fy fy (by unfold maxLen;omega) fy (λv2 ar zs s aH J=>?_);have am:i+(l.length+1-i)=l.length+1:=fy;rw[am]at s;obtain⟨g2,c2,rfl,aD,aE,W,ay,_⟩:=s.go fy
  repeat' (first|refine rH i rfl rfl rfl fy fy W fy ?_|refine fT ?_|fail)
  refine S0 (z:=2) (cs:=hI x) fx s fx fx (by show 2=_;omega) (λj u hu=>J.cell (V j u hu)) (by show _+2<=_;omega) O (λau L E=>?_)
  repeat' (first|refine rH (i+1) rfl rfl rfl fy fy W fy ?_|refine rH i rfl rfl rfl fy fy F N ?_|refine fT ?_|fail)
  refine S0 (z:=2) (cs:=(l.drop i).flatMap hI) fx L fx fx (by rw[y];omega) (λj u hu=>by rw[iC];exact E.cell (J.cell (S j u hu)) (show ¬g=g2 by omega)) (by rw[y];omega) (aa _) (λae v K=>?_);refine fA ?_;refine fB fx fx ⟨?_,?_,λb m=> .inr (by have R:g2=b:=jk m;omega)⟩
  ·unfold Ow;rw[ab,Y];have H:=TA (vs:=(l.take i).flatMap hI++zs) (P:=(l.take i).flatMap hI) (X:=hI x) (D:=(l.drop i).flatMap hI) (a:=i*2) (n:=(l.length+1)*2) (by rw[←C,vk]) C s.len (by show _+2<=_;omega) (by show _+2+_=_;rw[y];omega);have f:0+i*2=i*2:=iC _;have G:0+(i+1)*2=i*2+(hI x).length:=by show _=i*2+2;omega
   rw[f,G]at v;rw[H]at v;exact v.mono fy
  ·have ah:Ext w ae:=(J.trans E λj an e=>by have:j=g2:=e;omega).d.trans K λj an e=>by have:j=g2:=e;omega
   exact ah.fr
 ·obtain⟨aq,U⟩:=gD.grow (n':=l.length+1) hO fy fy;have al:cur.size≠0:=fy
  repeat' (first|refine Z2 rfl rfl ?_|refine rH i rfl rfl rfl fy hi F N ?_|refine LJ (l.length+1) rfl rfl rfl fy fy fy ?_|refine rH (i+1) rfl rfl rfl fy fy fy fy ?_|refine fT ?_|fail)
  refine TO (e:=Extern.SlicesOverlaps.overlaps #[23,23] #[4]) func158 fF fF fF fF fx (Uk M I Z al) ?_
  repeat' (first|refine rH (i+1) rfl rfl rfl fy fy fy fy ?_|refine rH i rfl rfl rfl fy fy fy fy ?_|refine fT ?_|fail)
  refine S0 (z:=2) (cs:=(l.drop i).flatMap hI) fx U fx fx (by rw[y];omega) (λj u hu=>by rw[iC];exact S j u hu) (by rw[y];omega) (aa _) (λau L E=>?_)
  repeat' (first|refine rH i rfl rfl rfl fy fy fy fy ?_|refine fT ?_|fail)
  refine S0 (z:=2) (cs:=hI x) fx L fx fx (by show 2=_;omega) (λj u hu=>E.cell (V j u hu) Z) (by show _+2<=_;omega) O (λae v K=>?_);refine fA ?_;refine fB fx fx ⟨?_,(Fr.drew _ w).t (E.t K),λb m=> .inl (by have R:g=b:=jk m;exact R.symm)⟩;unfold Ow;rw[ab,Y];have H:=Qn (vs:=l.flatMap hI++aq) (P:=(l.take i).flatMap hI) (X:=hI x) (D:=(l.drop i).flatMap hI) (a:=i*2) (n:=(l.length+1)*2) (by rw[Q,j7,←C,vk]) C U.len (by show _+2+_=_;rw[y];omega);have f:0+i*2=i*2:=iC _;have G:0+(i+1)*2=i*2+(hI x).length:=by show _=i*2+2;omega
  rw[f,G]at v;rw[H]at v;exact v
end
end Go.Proofs.YtecaahegomdbbaaGreatDoor.gp
