/- Parts of the proof. -/
import Derived.Test.YtecaahegomdbbaaGreatDoorRmZj
set_option linter.all false
set_option maxRecDepth 99999
set_option maxHeartbeats 0
namespace Go.Proofs.YtecaahegomdbbaaGreatDoor.gr
open Go.Proofs.Tryz
open Go.RowKit
variable {c g m n:Nat} {x:i7} {A:Option Addr} {e:i9}
section
variable {hs:ip Nat} {H:i5->Prop} {full:Array li} {K:Env->i5->Prop} {ii:ip li} {Y:Env} {w:i5} {d:Tmp} {dst:Option Tmp} {R:i9} {pos:String} {af:Array Edge}
def LU {cur:Array i6} (d:w.heap[g]? =some (.cells cur e (0,0))) (nw:Array i6):Fr (· =g) w (w.setRow g nw)/\fW (w.setRow g nw) g e nw:=by
 refine⟨⟨rfl,rfl,rfl,by simp[World.setRow],λk hk f=>by simp only[World.setRow,tP];rw[if_neg (λe=>f e.symm)]⟩,?_⟩;unfold fW;simp[World.setRow,tP,d]
def aee {t:i9} {z:i6} {size bytes B y:Nat} {s:i7} {vs news:ip i6} (X:x4 t e z size bytes) (E:gh Y s=some (.S g 0 n c)) (N:gK w B e size (.S g 0 n c) n vs) (F:gh Y x=some (.slice A m y))
  (ae:Row w (.slice A m y) m news) (C:news.length=m*size) (h1:∀u∈news,u.oneCell'=true) (G:n+m<=c)
  (h:∀w',gK w' B e size (.S g 0 (n+m) c) (n+m) (vs++news)->Fr (· =g) w w'->xs prog fD fC hs H full K ii ((d,.S g 0 (n+m) c)::Y) w') (hH:∀w',Fr (· =g) w w'->H w':=by intros;trivial):
  xs prog fD fC hs H full K (⟨some d,.call {callee:= .builtin .append,args:=⟨[s,x]⟩,argTypes:=⟨[t,t]⟩},R,pos,af,none⟩::ii) Y w:=by
 obtain⟨hu,i,hi,ap,ag,am⟩:=X;subst ag;obtain⟨h3,S⟩:=id N;rcases S with⟨f,_⟩|⟨ak,cap,cur,f,ab,L,T,U,I,qe9⟩
 .cases f
 injection f with f _ Q
 injection f with f
 injection f with f
 subst f;subst Q;have Z:cur.toList.length=cur.size:=py;rcases yc m with h0|h0
 .subst h0;have ad:news=[]:=BZ fy;subst ad
  have D:(Builtin.append_ #[t,t] R #[.S g 0 n c,.slice A 0 y]).run prog w= .ok (.S g 0 (n+0) c) w:=by
   cases A<;>simp[Builtin.append_,run_underlying hu,sizeOf,typeInfo,hi,Builtin.lenOf,Builtin.firstCells,T,storeCells,loadCells,loadCellsFrom]
  refine xw (v:= .S g 0 (n+0) c) (w':=w) (by simp[gd,Op.operands,Call.operands,E,F]) fx ?_ (h w (by rw[mR];exact N) (Fr.refl _ _)) (hH _ (Fr.refl _ _));simp[execOp,resolve,invoke,builtin,fR E,fR F,D]
 .obtain⟨ai,aj,he,ao,an,V⟩:=ae;injection he with f _ O
  subst f;subst O;obtain⟨b,o,rfl,al,qb7⟩:=V h0
  have aa:n*i.size+news.length<=cur.size:=by
   rw[I,C,<-oA];exact qz _ G
  have D:=run_append_room (P:=prog) w t R e i hu hi g n c cur L ⟨b,o,none⟩ m y news C (λj u hu=>by rw[nE];exact qb7 j u hu) h1 G aa;generalize M:(cur.toList.take (n*i.size)++news++cur.toList.drop (n*i.size+news.length)).toArray=nw at D;obtain⟨J,W⟩:=LU L nw
  have ah:nw.size=cur.size:=by
   rw[<-M,nK,ib,ib,kv,lY,Z];omega
  refine xw (v:= .S g 0 (n+m) c) (w':=w.setRow g nw) (by simp[gd,Op.operands,Call.operands,E,F]) fx ?_ (h _ ⟨by rw[ib,h3,C,oA],.inr ⟨g,c,nw,rfl,ab,W,G,U,by rw[ah];exact I,?_⟩⟩ J) (hH _ J)
  .simp[execOp,resolve,invoke,builtin,fR E,fR F,D]
  .rw[<-M,qe9,oA,<-C,<-h3];exact FM (by rw[ib])
def Xi {d:i9} (hu:prog.underlying d=some (.slice e)) (f:gh Y x=some (.slice A m c)) (hm:m=0) (h:xs prog fD fC hs H full K ii (put Y dst (.tuple #[])) w) (hH:H w:=by intros;trivial):
  xs prog fD fC hs H full K (⟨dst,.call {callee:= .builtin .clear,args:=⟨[x]⟩,argTypes:=⟨[d]⟩},R,pos,af,none⟩::ii) Y w:=by
 subst hm
 have g:(Builtin.clear_ #[d] R #[.slice A 0 c]).run prog w= .ok (.tuple #[]) w:=by
  cases A<;>simp[Builtin.clear_,run_underlying hu]
 refine xw (v:= .tuple #[]) (w':=w) (by simp[gd,Op.operands,Call.operands,f]) fx ?_ h hH;simp[execOp,resolve,invoke,builtin,fR f,g]
def aaB {E:i9} {z:i6} {size bytes B l N o:Nat} {vs:ip i6} (T:x4 E e z size bytes) (ad:z.cells.size=size) (ak:0<size) (ab:∀u∈z.cells.toList,u.oneCell'=true) (hO:gK w B e size (.S g 0 n c) n vs) (D:gh Y x=some (.S g o m N)) (V:o=l*size) (hm:l+m<=n)
  (h:∀w',gK w' B e size (.S g 0 l c) l (vs.take (l*size))->Fr (· =g) w w'->xs prog fD fC hs H full K ii (put Y dst (.tuple #[])) w') (hH:∀w',Fr (· =g) w w'->H w':=by intros;trivial):
  xs prog fD fC hs H full K (⟨dst,.call {callee:= .builtin .clear,args:=⟨[x]⟩,argTypes:=⟨[E]⟩},R,pos,af,none⟩::ii) Y w:=by
 subst V;obtain⟨hu,i,hi,aa,qb8,ah⟩:=T;subst qb8;obtain⟨h3,qf0⟩:=id hO;rcases qf0 with⟨d,_⟩|⟨ae,cap,cur,d,J,C,ag,F,f,Q⟩
 .cases d
 injection d with d _ O
 injection d with d
 injection d with d
 subst d;subst O;have I:cur.toList.length=cur.size:=py;have aj:l*i.size<=n*i.size:=qz _ fy
 have M:vs.take (l*i.size)=cur.toList.take (l*i.size):=by
  rw[<-Q,IP]
  congr 1
  omega
 rcases yc m with h0|h0
 .refine Xi hu D h0 (h w ⟨by rw[kv,h3];omega,.inr ⟨g,c,cur,rfl,J,C,fy,F,f,M.symm⟩⟩ (Fr.refl _ _)) (hH _ (Fr.refl _ _))
 .obtain⟨m,rfl⟩:∃k,m=k+1:=⟨m-1,fy⟩;obtain⟨cs,y⟩:∃cs,cs=(Builtin.zeroCells z.cells (m+1)).toList:=⟨_,rfl⟩;have U:cs.length=(m+1)*i.size:=by rw[y,py,size_zeroCells,ad]
  have W:∀u∈cs,u.oneCell'=true:=λu hu=>by
   rw[y]at hu;unfold Builtin.zeroCells at hu;simp at hu;obtain⟨k,_,rfl⟩:=hu;have fY:k% z.cells.size<z.cells.size:=rE _ fy;refine ab _ ?_;rw[getElem!_pos z.cells _ fY];simp
  have ai:l*i.size+cs.length<=cur.size:=by
   rw[f,U,<-oA];exact qz _ fy
  have t:=run_storeCells_at (P:=prog) g (l*i.size) e cs 0 cur w C fy W;rw[kB]at t;generalize L:(cur.toList.take (l*i.size)++cs++cur.toList.drop (l*i.size+cs.length)).toArray=nw at t;obtain⟨G,S⟩:=LU C nw
  have Z:nw.size=cur.size:=by
   rw[<-L,nK,ib,ib,kv,lY,I];omega
  have X:(Builtin.clear_ #[E] R #[.S g (l*i.size) (m+1) N]).run prog w= .ok (.tuple #[]) (w.setRow g nw):=by
   rw[y]at t;simp[Builtin.clear_,run_underlying hu,zeroValue,typeInfo,hi,aa,t]
  refine xw (v:= .tuple #[]) (w':=w.setRow g nw) (by simp[gd,Op.operands,Call.operands,D]) fx ?_ (h _ ⟨by rw[kv,h3];omega,.inr ⟨g,c,nw,rfl,J,S,fy,F,by rw[Z];exact f,?_⟩⟩ G) (hH _ G)
  .simp[execOp,resolve,invoke,builtin,fR D,X]
  .rw[M,<-L];have hlen:(cur.toList.take (l*i.size)).length=l*i.size:=by rw[kv,I,f];have:=qz i.size (show l<=c by omega);omega
   show(cur.toList.take (l*i.size)++cs++cur.toList.drop (l*i.size+cs.length)).take (l*i.size)=_
   rw[kF];exact FM hlen
def ae1 {t:i9} {lo hi F:i7} {k D E:kw} {z:Nat} {jl B C:Int} (l h m:Nat) (L:es t=some z) (y:gh Y x=some (.slice A n c)) (g:gh Y lo=some (.int k jl)) (f:gh Y hi=some (.int D B)) (u:gh Y F=some (.int E C)) (el:jl=l) (G:B=h) (em:C=m) (h1:l<=h) (I:h<=m) (h3:m<=c)
  (hc:∀v,xs prog fD fC hs H full K ii ((d,v)::Y) w):
  xs prog fD fC hs H full K (⟨some d,.slice t x (some lo) (some hi) (some F),R,pos,af,none⟩::ii) Y w:=by
 obtain⟨e,i,hu,J,M⟩:=mY L;subst el;subst G;subst em;refine gW fx (by simp[gd,Op.operands,y,g,f,u]) ⟨.slice (if m=l then A else A.map (·.add (l*i.size))) (h-l) (m-l),λw'=>?_,hc _⟩
 have:(Instr.sliceAt t (.slice A n c) (some (.int k (l:Int))) (some (.int D (h:Int))) (some (.int E (m:Int)))).run prog w'= .ok (.slice (if m=l then A else A.map (·.add (l*i.size))) (h-l) (m-l)) w':=by
  simp[Instr.sliceAt,Instr.slice,run_underlying hu,Instr.sliceBounds,Instr.sliceBound,asIntOf,sizeOf,typeInfo,J,h1,I,h3]
 simp[execOp,fR y,fR g,fR f,fR u,this]
