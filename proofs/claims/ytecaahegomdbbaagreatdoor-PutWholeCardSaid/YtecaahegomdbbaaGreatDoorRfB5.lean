/- Parts of the proof. -/
import Derived.Test.YtecaahegomdbbaaGreatDoorRfZj
set_option linter.all false
set_option maxRecDepth 100000
set_option maxHeartbeats 64000000
namespace Go.Proofs.YtecaahegomdbbaaGreatDoor.gp
open Go.Proofs.Tryz
open Go.RowKit
variable {c g m n:Nat} {x:Operand} {A:Option Addr} {e:TypeId}
section
section
variable {hs:List Nat} {H:World->Prop} {full:Array Oper} {K:Env->World->Prop} {rest:List Oper} {env:Env} {w:World} {d:Tmp} {dst:Option Tmp} {ty:TypeId} {pos:String} {af:Array Edge}
theorem LH {cur:Array Value} (a:w.heap[g]? =some (.cells cur e (0,0))) (nw:Array Value):Fr (· =g) w (w.setRow g nw)/\fU (w.setRow g nw) g e nw:=by
 refine⟨⟨rfl,rfl,rfl,by simp[World.setRow],λk hk d=>by simp only[World.setRow,tw];rw[if_neg (λe=>d e.symm)]⟩,?_⟩;unfold fU;simp[World.setRow,tw,a]
theorem ab3 {t:TypeId} {z:Value} {size bytes B f:Nat} {s:Operand} {vs news:List Value} (X:xv t e z size bytes) (D:gh env s=some (.slice (some ⟨g,0,none⟩) n c)) (N:gD w B e size (.slice (some ⟨g,0,none⟩) n c) n vs) (E:gh env x=some (.slice A m f))
  (ae:Row w (.slice A m f) m news) (y:news.length=m*size) (h1:∀u∈news,u.oneCell'=true) (F:n+m<=c)
  (h:∀w',gD w' B e size (.slice (some ⟨g,0,none⟩) (n+m) c) (n+m) (vs++news)->Fr (· =g) w w'->xs prog fD fC hs H full K rest ((d,.slice (some ⟨g,0,none⟩) (n+m) c)::env) w') (hH:∀w',Fr (· =g) w w'->H w':=by intros;trivial):
  xs prog fD fC hs H full K (⟨some d,.call {callee:= .builtin .append,args:=⟨[s,x]⟩,argTypes:=⟨[t,t]⟩},ty,pos,af,none⟩::rest) env w:=by
 obtain⟨hu,i,hi,ap,ag,am⟩:=X;subst ag;obtain⟨G,S⟩:=id N;rcases S with⟨a,_⟩|⟨ak,cap,cur,a,ab,L,T,U,I,R⟩
 ·cases a
 injection a with a _ Q
 injection a with a
 injection a with a
 subst a;subst Q;have Z:cur.toList.length=cur.size:=pb;rcases xE m with h0|h0
 ·subst h0;have ad:news=[]:=zf fy;subst ad
  have C:(Builtin.append_ #[t,t] ty #[.slice (some ⟨g,0,none⟩) n c,.slice A 0 f]).run prog w= .ok (.slice (some ⟨g,0,none⟩) (n+0) c) w:=by
   cases A<;>simp[Builtin.append_,run_underlying hu,sizeOf,typeInfo,hi,Builtin.lenOf,Builtin.firstCells,T,storeCells,loadCells,loadCellsFrom]
  refine xw (v:= .slice (some ⟨g,0,none⟩) (n+0) c) (w':=w) (by simp[fX,Op.operands,Call.operands,D,E]) fx ?_ (h w (by rw[nk];exact N) (Fr.refl _ _)) (hH _ (Fr.refl _ _));simp[execOp,resolve,invoke,builtin,fM D,fM E,C]
 ·obtain⟨ai,aj,he,ao,an,V⟩:=ae;injection he with a _ O
  subst a;subst O;obtain⟨b,o,rfl,al,Y⟩:=V h0
  have aa:n*i.size+news.length<=cur.size:=by
   rw[I,y,←tG];exact qk _ F
  have C:=run_append_room (P:=prog) w t ty e i hu hi g n c cur L ⟨b,o,none⟩ m f news y (λj u hu=>by rw[nf];exact Y j u hu) h1 F aa;generalize M:(cur.toList.take (n*i.size)++news++cur.toList.drop (n*i.size+news.length)).toArray=nw at C;obtain⟨J,W⟩:=LH L nw
  have ah:nw.size=cur.size:=by
   rw[←M,nz,hQ,hQ,kt,lH,Z];omega
  refine xw (v:= .slice (some ⟨g,0,none⟩) (n+m) c) (w':=w.setRow g nw) (by simp[fX,Op.operands,Call.operands,D,E]) fx ?_ (h _ ⟨by rw[hQ,G,y,tG],.inr ⟨g,c,nw,rfl,ab,W,F,U,by rw[ah];exact I,?_⟩⟩ J) (hH _ J)
  ·simp[execOp,resolve,invoke,builtin,fM D,fM E,C]
  ·rw[←M,R,tG,←y,←G];exact Gl (by rw[hQ])
theorem Vb {a:TypeId} (hu:prog.underlying a=some (.slice e)) (d:gh env x=some (.slice A m c)) (hm:m=0) (h:xs prog fD fC hs H full K rest (put env dst (.tuple #[])) w) (hH:H w:=by intros;trivial):
  xs prog fD fC hs H full K (⟨dst,.call {callee:= .builtin .clear,args:=⟨[x]⟩,argTypes:=⟨[a]⟩},ty,pos,af,none⟩::rest) env w:=by
 subst hm
 have f:(Builtin.clear_ #[a] ty #[.slice A 0 c]).run prog w= .ok (.tuple #[]) w:=by
  cases A<;>simp[Builtin.clear_,run_underlying hu]
 refine xw (v:= .tuple #[]) (w':=w) (by simp[fX,Op.operands,Call.operands,d]) fx ?_ h hH;simp[execOp,resolve,invoke,builtin,fM d,f]
theorem aaH {C:TypeId} {z:Value} {size bytes B l M o:Nat} {vs:List Value} (S:xv C e z size bytes) (ab:z.cells.size=size) (aj:0<size) (aa:∀u∈z.cells.toList,u.oneCell'=true) (hO:gD w B e size (.slice (some ⟨g,0,none⟩) n c) n vs) (y:gh env x=some (.slice (some ⟨g,o,none⟩) m M)) (U:o=l*size) (hm:l+m<=n)
  (h:∀w',gD w' B e size (.slice (some ⟨g,0,none⟩) l c) l (vs.take (l*size))->Fr (· =g) w w'->xs prog fD fC hs H full K rest (put env dst (.tuple #[])) w') (hH:∀w',Fr (· =g) w w'->H w':=by intros;trivial):
  xs prog fD fC hs H full K (⟨dst,.call {callee:= .builtin .clear,args:=⟨[x]⟩,argTypes:=⟨[C]⟩},ty,pos,af,none⟩::rest) env w:=by
 subst U;obtain⟨hu,i,hi,Z,X,ag⟩:=S;subst X;obtain⟨D,Q⟩:=id hO;rcases Q with⟨a,_⟩|⟨ad,cap,cur,a,I,t,ae,E,d,O⟩
 ·cases a
 injection a with a _ N
 injection a with a
 injection a with a
 subst a;subst N;have G:cur.toList.length=cur.size:=pb;have ai:l*i.size<=n*i.size:=qk _ fy
 have L:vs.take (l*i.size)=cur.toList.take (l*i.size):=by
  rw[←O,Hm]
  congr 1
  omega
 rcases xE m with h0|h0
 ·refine Vb hu y h0 (h w ⟨by rw[kt,D];omega,.inr ⟨g,c,cur,rfl,I,t,fy,E,d,L.symm⟩⟩ (Fr.refl _ _)) (hH _ (Fr.refl _ _))
 ·obtain⟨m,rfl⟩:∃k,m=k+1:=⟨m-1,fy⟩;obtain⟨cs,s⟩:∃cs,cs=(Builtin.zeroCells z.cells (m+1)).toList:=⟨_,rfl⟩;have T:cs.length=(m+1)*i.size:=by rw[s,pb,size_zeroCells,ab]
  have V:∀u∈cs,u.oneCell'=true:=λu hu=>by
   rw[s]at hu;unfold Builtin.zeroCells at hu;simp at hu;obtain⟨k,_,rfl⟩:=hu;have fW:k% z.cells.size<z.cells.size:=u0 _ fy;refine aa _ ?_;rw[getElem!_pos z.cells _ fW];simp
  have ah:l*i.size+cs.length<=cur.size:=by
   rw[d,T,←tG];exact qk _ fy
  have f:=run_storeCells_at (P:=prog) g (l*i.size) e cs 0 cur w t fy V;rw[kS]at f;generalize J:(cur.toList.take (l*i.size)++cs++cur.toList.drop (l*i.size+cs.length)).toArray=nw at f;obtain⟨F,R⟩:=LH t nw
  have Y:nw.size=cur.size:=by
   rw[←J,nz,hQ,hQ,kt,lH,G];omega
  have W:(Builtin.clear_ #[C] ty #[.slice (some ⟨g,l*i.size,none⟩) (m+1) M]).run prog w= .ok (.tuple #[]) (w.setRow g nw):=by
   rw[s]at f;simp[Builtin.clear_,run_underlying hu,zeroValue,typeInfo,hi,Z,f]
  refine xw (v:= .tuple #[]) (w':=w.setRow g nw) (by simp[fX,Op.operands,Call.operands,y]) fx ?_ (h _ ⟨by rw[kt,D];omega,.inr ⟨g,c,nw,rfl,I,R,fy,E,by rw[Y];exact d,?_⟩⟩ F) (hH _ F)
  ·simp[execOp,resolve,invoke,builtin,fM y,W]
  ·rw[L,←J];have hlen:(cur.toList.take (l*i.size)).length=l*i.size:=by rw[kt,G,d];have:=qk i.size (show l<=c by omega);omega
   show(cur.toList.take (l*i.size)++cs++cur.toList.drop (l*i.size+cs.length)).take (l*i.size)=_
   rw[j7];exact Gl hlen
theorem acj {t:TypeId} {lo hi D:Operand} {k B C:IntKind} {z:Nat} {jl u y:Int} (l h m:Nat) (J:es t=some z) (s:gh env x=some (.slice A n c)) (f:gh env lo=some (.int k jl)) (a:gh env hi=some (.int B u)) (g:gh env D=some (.int C y)) (el:jl=l) (E:u=h) (em:y=m) (h1:l<=h) (F:h<=m) (G:m<=c)
  (hc:∀v,xs prog fD fC hs H full K rest ((d,v)::env) w):
  xs prog fD fC hs H full K (⟨some d,.slice t x (some lo) (some hi) (some D),ty,pos,af,none⟩::rest) env w:=by
 obtain⟨e,i,hu,I,L⟩:=mL J;subst el;subst E;subst em;refine gR fx (by simp[fX,Op.operands,s,f,a,g]) ⟨.slice (if m=l then A else A.map (·.add (l*i.size))) (h-l) (m-l),λw'=>?_,hc _⟩
 have:(Instr.sliceAt t (.slice A n c) (some (.int k (l:Int))) (some (.int B (h:Int))) (some (.int C (m:Int)))).run prog w'= .ok (.slice (if m=l then A else A.map (·.add (l*i.size))) (h-l) (m-l)) w':=by
  simp[Instr.sliceAt,Instr.slice,run_underlying hu,Instr.sliceBounds,Instr.sliceBound,asIntOf,sizeOf,typeInfo,I,h1,F,G]
 simp[execOp,fM s,fM f,fM a,fM g,this]
end
end
end Go.Proofs.YtecaahegomdbbaaGreatDoor.gp
