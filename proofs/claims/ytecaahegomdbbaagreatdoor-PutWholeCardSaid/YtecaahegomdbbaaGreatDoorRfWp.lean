/- Parts of the proof. -/
import Derived.Test.YtecaahegomdbbaaGreatDoorRfWm
import Derived.Test.YtecaahegomdbbaaGreatDoorRfWn
set_option linter.all false
set_option maxRecDepth 100000
set_option maxHeartbeats 64000000
namespace Go.Proofs.YtecaahegomdbbaaGreatDoor.gp
open Go.Proofs.Tryz
open Go.RowKit
variable {e:En} {i k:Nat}
section
attribute [local irreducible] xs T
structure N0 (t:fY):Prop where
 b:tu t.ns
 g:∀n∈t.ns,n.target.length<=1000000
 p:∀e∈t.es,e.path.length<=1000000
def oc (n:Nat) (l:List En):List Int:=(List.range n).map λk=>(j1 k l:Int)
theorem M0 (n:Nat) (l:List En):(oc n l).length=n:=by simp[oc]
theorem M3 (n:Nat):oc n []=List.replicate n 0:=by
 unfold oc j1;apply wM
 ·simp
 ·intro i h1 a;simp
theorem C5 {n:Nat} {l:List En} (hk:k<n):(oc n l)[k]? =some (j1 k l:Int):=by simp[oc,hk]
theorem FZ {es:List En} (he:es[i]? =some e):j1 k (es.take (i+1))=j1 k (es.take i)+if e.node=(k:Int)then 1 else 0:=by
 unfold j1;rw[kO,he,xN,List.countP_append,List.countP_singleton]
 by_cases h:e.node=(k:Int)<;>simp[h]
theorem MQ {n:Nat} {es:List En} (he:es[i]? =some e) (hk:e.node=(k:Int)):(oc n (es.take i)).set k ((j1 k (es.take i):Int)+1)=oc n (es.take (i+1)):=by
 apply wM
 ·simp[oc]
 ·intro j h1 a;rw[M0]at a;rw[List.getElem_set]
  by_cases h:k=j
  ·subst h;rw[if_pos rfl];simp only[oc,List.getElem_map,Vy,FZ he,if_pos hk];omega
  ·rw[if_neg h];have d:¬e.node=(j:Int):=fy;simp only[oc,List.getElem_map,Vy,FZ he,if_neg d,kS]
theorem WV (k:Nat) (l:List En):j1 k l<=l.length:=VF
def O3 (n:Nat) (prev:Option fQ) (used:Nat) (e:En):Bool:=gU e.path&&(match prev with|none=>true|some p=>ie p e.path)&&decide (0<=e.node)&&decide (e.node<=used)&&decide (e.node<n)
theorem OQ {t:fY} {used:Nat} (he:t.es[i]? =some e):sL t ((hT t.es i).map (·.path)) used (t.es.drop i)=(O3 t.ns.length ((hT t.es i).map (·.path)) used e&&xJ t e&&sL t ((hT t.es (i+1)).map (·.path)) (if e.node<used then used else used+1) (t.es.drop (i+1))):=by
 rw[lT he,prev_next he];generalize hT t.es i=p;cases p<;>rfl
structure RtI (t:fY) (w1:World) (x:Nat×Nat) (w:World):Prop where
 i:x.1<=t.es.length
 u:x.2<=t.ns.length
 gH:fU w w1.heap.size 3 ((oc t.ns.length (t.es.take x.1)).map (Value.int .i64)).toArray
 go:sL t ((hT t.es x.1).map (·.path)) x.2 (t.es.drop x.1)=sL t none 0 t.es
 ext:Ext w1 w
theorem Rb (t:fY) (e0:En) (a:t.es.headD default=e0):K8 t=(decide (1<=t.es.length)&&decide (t.es.length<=100)&&decide (e0.path=[])&&sL t none 0 t.es&&(List.range t.ns.length).all (rn t)&&decide (gf t.ns e0.node=1)):=by
 subst a;rfl
theorem Lk (t:fY):∀(l:List En) (p:Option fQ) (u:Nat),sL t p u l=true->∀e∈l,0<=e.node/\e.node<t.ns.length
 |[],_,_,_,e,he=>by simp at he
 |x::r,p,u,h,e,he=>by
  simp only[sL,iO,decide_eq_true_eq]at h;rcases hX.1 he with rfl|he
  ·exact⟨h.1.1.1.1.2,h.1.1.2⟩
  ·exact Lk t r _ _ h.2 e he
theorem SL (t:fY) (h:sL t none 0 t.es=true) (e:En) (he:e∈t.es):0<=e.node/\e.node<t.ns.length:=Lk t t.es _ _ h e he
theorem I9 (w:World) (ve vn:Value) (fK:List gG) (t:fY) (aj:nj w ve vn fK t) (ah:N0 t) (bG:t.ns.length<=1000000):fL prog 40 #[.agg #[ve,vn]] w λr w'=>r= .bool (gQ t)/\Ext w w':=by
 refine gr func40 fx fF ?_;rw[←RE];have W:=aj;obtain⟨A,c,rfl,bA,bB,am⟩:=aj.e.op gj;obtain⟨J,E,rfl,bh,bC,an⟩:=aj.n.op gI;have hlen:=aj.len;rw[hlen]at bh;refine fA ?_;refine hD fx (λf ba s bH=>?_);have ao:fU f w.heap.size 26 #[.slice A t.es.length c,.slice J fK.length E]:=ba;have k0:f.cell? ⟨w.heap.size,0,none⟩=some (.slice A t.es.length c):=ao.cell 0;have k1:f.cell? ⟨w.heap.size,1,none⟩=some (.slice J t.ns.length E):=by rw[←hlen];exact ao.cell 1
 by_cases g1:1<=t.es.length
 case neg=>
  have h0:t.es=[]:=zJ.1 fy;refine fA ?_;exact fB fx fx ⟨by unfold K8;rw[h0];rfl,s⟩
 obtain⟨b,o,e0,a9,_,ad,bD,aJ⟩:=am.at_ (i:=0) fy;subst a9
 have bm:t.es.headD default=e0:=by
  cases aL:t.es with
  |nil=>rw[aL]at ad;cases ad
  |cons x r=>rw[aL]at ad;exact jk ad
 rw[Rb t e0 bm,decide_eq_true g1,iU]
 by_cases g2:t.es.length<=100
 case neg=>
  refine fA ?_;exact fB fx fx ⟨by simp only[decide_eq_false g2,hW],s⟩
 rw[decide_eq_true g2,iU];have z0:f.cell? ⟨b,o+0*2+0,none⟩=some (.string (su e0.path)):=s.cell (aJ 0 _ rfl)
 by_cases g3:e0.path=[]
 case neg=>
  repeat' (first|refine gF 0 (o+0*2) rfl rfl rfl rfl rfl fy ?_|refine gq (op:= .neq) (b:=[]) (r:=true) rfl rfl (by simp[hZ,g3]) ?_|refine fT ?_|fail)
  exact fB fx fx ⟨by simp only[decide_eq_false g3,hW],s⟩
 rw[decide_eq_true g3,iU]
 repeat' (first|refine gF 0 (o+0*2) rfl rfl rfl rfl rfl fy ?_|refine gq (op:= .neq) (b:=[]) (r:=false) rfl rfl (by simp[hZ,g3]) ?_|refine fT ?_|fail)
 refine XQ sB fx fx fx fy fy fy (λbw aA bd bI=>?_);rw[jf]at aA⊢
 have bf:fU bw f.heap.size 3 ((oc t.ns.length (t.es.take 0)).map (Value.int .i64)).toArray:=by
  rw[rk,M3,K2];simpa using aA
 refine fA ?_;refine gA (α:=Nat×Nat) (λx=>[(1,.pointer (some ⟨w.heap.size,0,none⟩)),(3,.int .i64 (x.2:Int)),(4,.slice (some ⟨f.heap.size,0,none⟩) t.ns.length t.ns.length),(5,.int .i64 (x.1:Int))]) (RtI t f) (λx=>t.es.length-x.1) (0,0) (sub ⟨rfl,rfl,rfl,rfl⟩) ⟨iy _,iy _,bf,rfl,bd⟩ ?_;rintro⟨i,used⟩ B ⟨hi,hu,ab,a,S⟩;dsimp only at hi hu ab a S⊢;have m0:B.cell? ⟨w.heap.size,0,none⟩=some (.slice (some ⟨b,o,none⟩) t.es.length c):=S.cell k0;have m1:B.cell? ⟨w.heap.size,1,none⟩=some (.slice J t.ns.length E):=S.cell k1
 by_cases fW:i<t.es.length
 ·obtain⟨bx,o2,e,al,_,he,_,bi⟩:=am.at_ fW;injection al with al
  injection al with a0 e4
  subst a0;subst e4;rw[OQ he]at a;have av:=ah.p e (jS he);have bl:∀j u,(hI e)[j]? =some u->B.cell? ⟨b,o+i*2+j,none⟩=some u:=λj u hu=>S.cell (s.cell (bi j u hu))
  refine zF ?_;refine hL (cs:=hI e) fx fx bl ?_;refine gy (z:= .agg #[.string ⟨#[]⟩,.int .i64 0]) fF (λG bb T bJ=>?_);refine hd (cs:=(hI e).toArray) bb fx fx fx fx (yb e) (λD aB be=>?_);have aE:Ext B D:=Ext.te T be λj aN e=>by have e':j=B.heap.size:=e;omega
  have F:Ext f D:=S.t aE;have bg:=ab.ext aE;have q0:D.drew.cell? ⟨B.heap.size,0,none⟩=some (.string (su e.path)):=aB.cell 0;have p1:D.cell? ⟨B.heap.size,1,none⟩=some (.int .i64 e.node):=aB.cell 1;refine YD ?_;refine qD (α:=Unit) (λ_=>[(1,.pointer (some ⟨w.heap.size,0,none⟩)),(3,.int .i64 (used:Int)),(4,.slice (some ⟨f.heap.size,0,none⟩) t.ns.length t.ns.length),(5,.int .i64 (i:Int)),(6,.pointer (some ⟨B.heap.size,0,none⟩)),(85,.bool !(O3 t.ns.length ((hT t.es i).map (·.path)) used e))]) (λ_ w'=>Ext D w') ?_ ?_
  ·unfold O3;refine fA ?_;refine fG fx fx (nT D.drew e.path av) (λr C a5=>?_);obtain⟨rfl,N⟩:=a5;have K:Ext D C:=(Fr.drew _ _).t N;have p0:C.cell? ⟨B.heap.size,0,none⟩=some (.string (su e.path)):=N.cell q0;have p1:C.cell? ⟨B.heap.size,1,none⟩=some (.int .i64 e.node):=K.cell p1;have bv:C.cell? ⟨w.heap.size,0,none⟩=some (.slice (some ⟨b,o,none⟩) t.es.length c):=K.cell (F.cell k0);have n1:C.cell? ⟨w.heap.size,1,none⟩=some (.slice J t.ns.length E):=K.cell (F.cell k1);cases hm:gU e.path with
   |false=>
    refine fA ?_;exact gn ⟨(),sub ⟨rfl,rfl,rfl,rfl,rfl,rfl⟩,K⟩
   |true=>
   rw[iU];have aU:∀q:Bool,q=(decide (0<=e.node)&&decide (e.node<=used)&&decide (e.node<t.ns.length))->(q=true↔0<=e.node/\e.node<=used/\e.node<t.ns.length):=λq hq=>by rw[hq];simp only[iO,decide_eq_true_eq,and_assoc]
   cases i with
   | zero=>
    simp only[hT,PH];rw[iU];have Q:=aU _ rfl;generalize(decide (0<=e.node)&&decide (e.node<=used)&&decide (e.node<t.ns.length))=q at Q⊢;cases q with
    |true=>
     obtain⟨ae,aY,aZ⟩:=Q.1 rfl;refine fA ?_;exact gn ⟨(),sub ⟨rfl,rfl,rfl,rfl,rfl,rfl⟩,K⟩
    |false=>
     have ae:¬(0<=e.node/\e.node<=used/\e.node<t.ns.length):=λh=>by have:=Q.2 h;cases this
     repeat' (first|refine fT ?_|refine kW rfl rfl (λhc=>?_) (λhc=>?_)|refine kX rfl rfl (λhc=>?_) (λhc=>?_)|refine kR rfl rfl (λhc=>?_) (λhc=>?_)|refine kU rfl rfl (λhc=>?_) (λhc=>?_)|refine lf rfl rfl (λhc=>?_) (λhc=>?_)|refine kY rfl rfl (λhc=>?_) (λhc=>?_)|fail)
     all_goals first|exact gn ⟨(),sub ⟨rfl,rfl,rfl,rfl,rfl,rfl⟩,K⟩|(exfalso;omega)
   | succ m=>
    obtain⟨y,aw⟩:∃y,t.es[m]? =some y:=⟨_,kp fy⟩;have bq:hT t.es (m+1)=some y:=aw;rw[bq];simp only[tH];obtain⟨H,o3,bK,I,_,ak,_,O⟩:=am.at_ (i:=m) fy;injection I with I
    injection I with a1 a2
    subst a1;subst a2;rw[aw]at ak;injection ak with ak
    subst ak;have bu:=ah.p y (jS aw);have p2:C.cell? ⟨b,o+m*2+0,none⟩=some (.string (su y.path)):=K.cell (F.cell (s.cell (O 0 _ rfl)))
    repeat' (first|refine gF m (o+m*2) rfl rfl rfl fy rfl fy ?_|refine fT ?_|fail)
    refine fG fx fx (yp C y.path e.path bu av) (λr L a6=>?_);obtain⟨rfl,aa⟩:=a6;have ap:Ext D L:=K.t aa;have p1:L.cell? ⟨B.heap.size,1,none⟩=some (.int .i64 e.node):=aa.cell p1;have n1:L.cell? ⟨w.heap.size,1,none⟩=some (.slice J t.ns.length E):=aa.cell n1;cases bF:ie y.path e.path with
    |false=>
     refine fA ?_;exact gn ⟨(),sub ⟨rfl,rfl,rfl,rfl,rfl,rfl⟩,ap⟩
    | true=>
     rw[iU];have Q:=aU _ rfl;generalize(decide (0<=e.node)&&decide (e.node<=used)&&decide (e.node<t.ns.length))=q at Q⊢;cases q with
     |true=>
      obtain⟨ae,aY,aZ⟩:=Q.1 rfl;refine fA ?_;exact gn ⟨(),sub ⟨rfl,rfl,rfl,rfl,rfl,rfl⟩,ap⟩
     |false=>
      have ae:¬(0<=e.node/\e.node<=used/\e.node<t.ns.length):=λh=>by have:=Q.2 h;cases this
      repeat' (first|refine fT ?_|refine kW rfl rfl (λhc=>?_) (λhc=>?_)|refine kX rfl rfl (λhc=>?_) (λhc=>?_)|refine kR rfl rfl (λhc=>?_) (λhc=>?_)|refine kU rfl rfl (λhc=>?_) (λhc=>?_)|refine lf rfl rfl (λhc=>?_) (λhc=>?_)|refine kY rfl rfl (λhc=>?_) (λhc=>?_)|fail)
      all_goals first|exact gn ⟨(),sub ⟨rfl,rfl,rfl,rfl,rfl,rfl⟩,ap⟩|(exfalso;omega)
  rintro _ C N;have aD:Ext f C:=F.t N;have p0:C.cell? ⟨B.heap.size,0,none⟩=some (.string (su e.path)):=N.cell q0;have p1:C.cell? ⟨B.heap.size,1,none⟩=some (.int .i64 e.node):=N.cell p1;cases ar:O3 t.ns.length ((hT t.es i).map (·.path)) used e with
  |false=>
   rw[ar]at a;simp only[hW]at a;refine fA ?_;exact fB fx fx ⟨by rw[←a];simp only[hW],s.t aD⟩
  |true=>
  rw[ar,iU]at a;have aK:=ar;simp only[O3,iO,decide_eq_true_eq]at aK;obtain⟨⟨⟨_,ae⟩,aY⟩,aZ⟩:=aK;obtain⟨k,hk⟩:=lO ae;have aO:k<t.ns.length:=fy;obtain⟨X,V⟩:∃X,X=if e.node<used then used else used+1:=⟨_,rfl⟩
  rw[←V]at a
  have aS:X<=t.ns.length:=by
   rw[V];split<;>omega
  refine YD ?_;refine qD (α:=Unit) (λ_=>[(1,.pointer (some ⟨w.heap.size,0,none⟩)),(3,.int .i64 (used:Int)),(4,.slice (some ⟨f.heap.size,0,none⟩) t.ns.length t.ns.length),(5,.int .i64 (i:Int)),(6,.pointer (some ⟨B.heap.size,0,none⟩)),(89,.bool !(decide (e.node<used)))]) (λ_ w'=>C=w') ?_ ?_
  ·by_cases g:e.node<used
   ·rw[decide_eq_true g];refine fA ?_;exact gn ⟨(),sub ⟨rfl,rfl,rfl,rfl,rfl,rfl⟩,rfl⟩
   ·rw[decide_eq_false g];refine fA ?_;exact gn ⟨(),sub ⟨rfl,rfl,rfl,rfl,rfl,rfl⟩,rfl⟩
  rintro _ _ rfl;refine YD ?_;refine qD (α:=Unit) (λ_=>[(1,.pointer (some ⟨w.heap.size,0,none⟩)),(3,.int .i64 (X:Int)),(4,.slice (some ⟨f.heap.size,0,none⟩) t.ns.length t.ns.length),(5,.int .i64 (i:Int)),(6,.pointer (some ⟨B.heap.size,0,none⟩))]) (λ_ w'=>C=w') ?_ ?_
  ·by_cases g:e.node<used
   ·rw[if_pos g]at V;rw[V,decide_eq_true g];refine fA ?_;exact gn ⟨(),sub ⟨rfl,rfl,rfl,rfl,rfl⟩,rfl⟩
   ·rw[if_neg g]at V;rw[V,decide_eq_false g];refine fA ?_;exact gn ⟨(),sub ⟨rfl,rfl,rfl,rfl,rfl⟩,rfl⟩
  rintro _ _ rfl;have aH:=bg.ext N;have bj:=WV k (t.es.take i);rw[kt]at bj
  have c1:C.cell? ⟨f.heap.size,k,none⟩=some (.int .i64 (j1 k (t.es.take i):Int)):=by
   rw[aH.cell,pB,qX,C5 aO];rfl
  have bz:f.heap.size<B.heap.size:=ab.lt
  repeat' (first|refine kV k k rfl rfl rfl hk fy aO ?_|refine fT ?_|fail)
  refine iq aH fx fx fx fx (by rw[decide_eq_true_eq];simp[oc];omega) (λL aC aG=>?_)
  have aI:fU L f.heap.size 3 ((oc t.ns.length (t.es.take (i+1))).map (Value.int .i64)).toArray:=by
   rw[Hl,←qu,MQ he hk]at aC;exact aC
  have aa:Ext f L:=Ext.te aD aG λj aN e=>by have e':j=f.heap.size:=e;omega
  have p0:L.cell? ⟨B.heap.size,0,none⟩=some (.string (su e.path)):=aG.cell p0 (λe'=>by have e':B.heap.size=f.heap.size:=e';omega);refine fA ?_;refine fG fx fx (D0 L e.path av) (λr ay a7=>?_);obtain⟨rfl,aq⟩:=a7;have ag:Ext f ay:=aa.t aq;cases ai:iL e.path with
  |none=>
   have Y:xJ t e=true:=by unfold xJ;rw[ai]
   rw[Y,iU]at a;refine fA ?_;exact gn ⟨(i+1,X),sub ⟨rfl,rfl,rfl,rfl⟩,⟨by dsimp only;omega,aS,aI.ext aq,a,ag⟩,(by show t.es.length-(i+1)<t.es.length-i;omega)⟩
  |some up=>
  have bt:vv e.path=up:=by rw[vv,ai];rfl
  rw[bt];have bc:fU ay w.heap.size 26 #[.slice (some ⟨b,o,none⟩) t.es.length c,.slice J fK.length E]:=ao.ext ag;refine fA ?_;refine gM (t:=26) bc fx fx ?_;refine fA ?_;refine fG fx fx (zm ay _ _ t.es up (W.e.ext (s.t ag))) (λr az a8=>?_);obtain⟨rfl,aF⟩:=a8;have M:Ext f az:=ag.t aF;have n1:az.cell? ⟨w.heap.size,1,none⟩=some (.slice J t.ns.length E):=M.cell k1;cases aM:fR t.es up with
  |none=>
   have Y:xJ t e=false:=by unfold xJ;rw[ai];dsimp only;rw[aM]
   rw[Y,hW]at a;refine fA ?_;exact y32
  | some j=>
   have Y:xJ t e=(decide (0<=j)&&decide (j<t.ns.length)&&decide (gf t.ns j=1)):=by unfold xJ;rw[ai];dsimp only;rw[aM]
   rw[Y]at a;have bE:(some j:Option Int).getD 0=j:=rfl
   by_cases ax:0<=j
   case neg=>
    rw[decide_eq_false ax]at a;simp only[hW]at a;refine fA ?_;exact y32
   by_cases aT:j<t.ns.length
   case neg=>
    rw[decide_eq_false aT]at a;simp only[hW,sO]at a;refine fA ?_;exact y32
   obtain⟨q,hq⟩:=lO ax;obtain⟨H,o3,n,I,_,R,_,O⟩:=an.at_ (i:=q) fy;subst I;have au:gf t.ns j=n.n.kind:=by unfold gf;rw[hq,jf,W.getD R]
   rw[decide_eq_true ax,decide_eq_true aT,iU,iU,au]at a;have r2:az.cell? ⟨H,o3+q*12+0,none⟩=some (.int .i64 n.n.kind):=M.cell (s.cell (O 0 _ rfl))
   by_cases g:n.n.kind=1
   ·rw[decide_eq_true g,iU]at a
    repeat' (first|refine gF q (o3+q*12) rfl rfl rfl hq rfl fy ?_|refine fT ?_|fail)
    exact gn ⟨(i+1,X),sub ⟨rfl,rfl,rfl,rfl⟩,⟨by dsimp only;omega,aS,(aI.ext aq).ext aF,a,M⟩,(by show t.es.length-(i+1)<t.es.length-i;omega)⟩
   ·rw[decide_eq_false g,hW]at a
    repeat' (first|refine gF q (o3+q*12) rfl rfl rfl hq rfl fy ?_|refine fT ?_|fail)
    exact y32
 ·have bn:i=t.es.length:=fy;subst bn;rw[jJ,sL]at a;rw[km]at ab;rw[←a,iU];have bs:=(SL t a.symm e0 (jS ad));refine fA ?_;refine gA (α:=Nat) (λj=>[(1,.pointer (some ⟨w.heap.size,0,none⟩)),(4,.slice (some ⟨f.heap.size,0,none⟩) t.ns.length t.ns.length),(11,.int .i64 (j:Int))]) (λj w'=>Ext B w'/\j<=t.ns.length/\((List.range t.ns.length).drop j).all (rn t)=(List.range t.ns.length).all (rn t)) (λj=>t.ns.length-j) 0 (sub ⟨rfl,rfl,rfl⟩) ⟨Fr.refl _ _,iy _,rfl⟩ ?_;rintro j G ⟨T,aN,v⟩;have Z:Ext f G:=S.t T;have m1:G.cell? ⟨w.heap.size,1,none⟩=some (.slice J t.ns.length E):=Z.cell k1
  by_cases hlj:j<t.ns.length
  ·obtain⟨H,o3,n,I,_,R,_,O⟩:=an.at_ (i:=j) fy;subst I;have aQ:∀q u,(gz n)[q]? =some u->G.cell? ⟨H,o3+j*12+q,none⟩=some u:=λq u hu=>Z.cell (s.cell (O q u hu))
   have bo:=W.i n (jS R);have aP:=jS (W.get R);have br:(List.range t.ns.length)[j]? =some j:=by simp[hlj]
   rw[lT br,rJ]at v
   have a3:rn t j=(fH n.n&&decide (j1 j t.es≠0)&&(decide (n.n.kind≠1)||decide (j1 j t.es=1))):=by
    unfold rn gf;rw[jf,W.getD R]
   rw[a3]at v
   repeat' (first|refine gF j (o3+j*12) rfl rfl rfl rfl rfl fy ?_|refine fT ?_|fail)
   refine hL (cs:=gz n) fx fx aQ ?_;refine fG fx fx (oW G n (bo.ext (s.t Z)) (ah.b n.n aP) (ah.g n.n aP)) (λr D a4=>?_);obtain⟨rfl,F⟩:=a4;have af:Ext f D:=Z.t F;cases aR:fH n.n with
   |false=>
    rw[aR]at v;simp only[hW]at v;refine fA ?_;exact fB fx fx ⟨by rw[←v];simp only[hW],s.t af⟩
   |true=>
   rw[aR,iU]at v
   have c1:D.cell? ⟨f.heap.size,j,none⟩=some (.int .i64 (j1 j t.es:Int)):=by
    rw[(ab.ext (T.t F)).cell,pB,qX,C5 hlj];rfl
   have c2:D.cell? ⟨H,o3+j*12+0,none⟩=some (.int .i64 n.n.kind):=F.cell (aQ 0 _ rfl);have n1:D.cell? ⟨w.heap.size,1,none⟩=some (.slice (some ⟨H,o3,none⟩) t.ns.length E):=af.cell k1
   by_cases aV:j1 j t.es=0
   ·rw[decide_eq_false (by simpa using aV)]at v;simp only[hW]at v
    repeat' (first|refine kV j j rfl rfl rfl rfl fy hlj ?_|refine fT ?_|fail)
    exact fB fx fx ⟨by rw[←v];simp only[hW],s.t af⟩
   rw[decide_eq_true (show j1 j t.es≠0 from aV),iU]at v
   by_cases aW:n.n.kind=1
   ·by_cases aX:j1 j t.es=1
    ·rw[decide_eq_true aX,Bool.or_true,iU]at v;exact y45
    ·rw[decide_eq_false aX,decide_eq_false (by simpa using aW)]at v;simp only[Bool.or_self,hW]at v;refine YK ?_;exact fB fx fx ⟨by rw[←v];simp only[hW],s.t af⟩
   ·rw[decide_eq_true (show n.n.kind≠1 from aW),Bool.true_or,iU]at v;exact y45
  ·have bp:j=t.ns.length:=fy;subst bp;have bk:(List.range t.ns.length).drop t.ns.length=[]:=by rw[RT];simp
   rw[bk]at v;rw[←v,Fq,iU];obtain⟨k,hk⟩:=lO bs.1;obtain⟨H,o3,n,I,_,R,_,O⟩:=an.at_ (i:=k) fy;subst I;have au:gf t.ns e0.node=n.n.kind:=by unfold gf;rw[hk,jf,W.getD R]
   rw[au];have U:Ext f G.drew:=Z.d;have bv:G.drew.cell? ⟨w.heap.size,0,none⟩=some (.slice (some ⟨b,o,none⟩) t.es.length c):=U.cell k0;have n1:G.drew.cell? ⟨w.heap.size,1,none⟩=some (.slice (some ⟨H,o3,none⟩) t.ns.length E):=U.cell k1;have q1:G.drew.cell? ⟨b,o+0*2+1,none⟩=some (.int .i64 e0.node):=U.cell (s.cell (aJ 1 _ rfl));have r1:G.drew.cell? ⟨H,o3+k*12+0,none⟩=some (.int .i64 n.n.kind):=U.cell (s.cell (O 0 _ rfl))
   by_cases g:n.n.kind=1
   ·rw[decide_eq_true g];refine Zh ?_;exact fB fx fx ⟨rfl,s.t U⟩
   ·rw[decide_eq_false g];refine Zh ?_;exact fB fx fx ⟨rfl,s.t U⟩
end
end Go.Proofs.YtecaahegomdbbaaGreatDoor.gp
