/- Parts of the proof. -/
import Derived.Test.YtecaahegomdbbaaGreatDoorRmWm
import Derived.Test.YtecaahegomdbbaaGreatDoorRmWn
set_option linter.all false
set_option maxRecDepth 99999
set_option maxHeartbeats 0
namespace Go.Proofs.YtecaahegomdbbaaGreatDoor.gr
open Go.Proofs.Tryz
open Go.RowKit
variable {e:En} {i k:Nat}
section
attribute [local irreducible] xs T
structure H8 (t:fZ):Prop where
 b:uV t.ns
 g:∀n∈t.ns,n.target.length<=1000000
 p:∀e∈t.es,e.path.length<=1000000
def oo (n:Nat) (l:ip En):ip Int:=(List.range n).map λk=>(ka k l:Int)
def M6 (n:Nat) (l:ip En):(oo n l).length=n:=by simp[oo]
def Ng (n:Nat):oo n []=List.replicate n 0:=by
 unfold oo ka;apply xM
 .simp
 .intro i h1 d;simp
def C9 {n:Nat} {l:ip En} (hk:k<n):(oo n l)[k]? =some (ka k l:Int):=by simp[oo,hk]
def GY {es:ip En} (he:es[i]? =some e):ka k (es.take (i+1))=ka k (es.take i)+if e.node=(k:Int)then 1 else 0:=by
 unfold ka;rw[j2,he,wD,List.countP_append,List.countP_singleton]
 by_cases h:e.node=(k:Int)<;>simp[h]
def Ox {n:Nat} {es:ip En} (he:es[i]? =some e) (hk:e.node=(k:Int)):(oo n (es.take i)).set k ((ka k (es.take i):Int)+1)=oo n (es.take (i+1)):=by
 apply xM
 .simp[oo]
 .intro j h1 d;rw[M6]at d;rw[List.getElem_set]
  by_cases h:k=j
  .subst h;rw[if_pos rfl];simp only[oo,List.getElem_map,W1,GY he,if_pos hk];omega
  .rw[if_neg h];have f:¬e.node=(j:Int):=fy;simp only[oo,List.getElem_map,W1,GY he,if_neg f,kB]
def Yl (k:Nat) (l:ip En):ka k l<=l.length:=Wt
def R9 (n:Nat) (prev:Option fL) (used:Nat) (e:En):Bool:=gX e.path&&(match prev with|none=>true|some p=>ix p e.path)&&decide (0<=e.node)&&decide (e.node<=used)&&decide (e.node<n)
def QI {t:fZ} {used:Nat} (he:t.es[i]? =some e):tn t ((h6 t.es i).map (·.path)) used (t.es.drop i)=(R9 t.ns.length ((h6 t.es i).map (·.path)) used e&&x9 t e&&tn t ((h6 t.es (i+1)).map (·.path)) (if e.node<used then used else used+1) (t.es.drop (i+1))):=by
 rw[mA he,prev_next he];generalize h6 t.es i=p;cases p<;>rfl
structure RtI (t:fZ) (w1:World) (x:Nat×Nat) (w:World):Prop where
 i:x.1<=t.es.length
 u:x.2<=t.ns.length
 gO:fW w w1.heap.size 3 ((oo t.ns.length (t.es.take x.1)).map (Value.int .i64)).toArray
 go:tn t ((h6 t.es x.1).map (·.path)) x.2 (t.es.drop x.1)=tn t none 0 t.es
 ext:Ext w1 w
def Sh (t:fZ) (e0:En) (d:t.es.headD default=e0):MO t=(decide (1<=t.es.length)&&decide (t.es.length<=100)&&decide (e0.path=[])&&tn t none 0 t.es&&(List.range t.ns.length).all (rC t)&&decide (fV t.ns e0.node=1)):=by
 subst d;rfl
theorem LC (t:fZ):∀(l:ip En) (p:Option fL) (u:Nat),tn t p u l=true->∀e∈l,0<=e.node/\e.node<t.ns.length
 |[],_,_,_,e,he=>by simp at he
 |x::r,p,u,h,e,he=>by
  simp only[tn,iU,decide_eq_true_eq]at h;rcases iu.1 he with rfl|he
  .exact⟨h.1.1.1.1.2,h.1.1.2⟩
  .exact LC t r _ _ h.2 e he
def Th (t:fZ) (h:tn t none 0 t.es=true) (e:En) (he:e∈t.es):0<=e.node/\e.node<t.ns.length:=LC t t.es _ _ h e he
def Aq (w:i5) (ve vn:i6) (fO:ip gG) (t:fZ) (al:mE w ve vn fO t) (aj:H8 t) (bI:t.ns.length<=1000000):fQ prog 40 #[.agg #[ve,vn]] w λr w'=>r= .bool (gM t)/\Ext w w':=by
 refine gD func40 fx fE ?_;rw[<-RL];have Y:=al;obtain⟨A,c,rfl,bC,bD,ao⟩:=al.e.op gi;obtain⟨L,G,rfl,bj,bE,ap⟩:=al.n.op gw;have hlen:=al.len;rw[hlen]at bj;refine fA ?_;refine hP fx (λv bc B bJ=>?_);have aq:fW v w.heap.size 26 #[.slice A t.es.length c,.slice L fO.length G]:=bc;have k0:gc v w.heap.size 0 (.slice A t.es.length c):=aq.cell 0;have k1:v.cell? ⟨w.heap.size,1,none⟩=some (.slice L t.ns.length G):=by rw[<-hlen];exact aq.cell 1
 by_cases g1:1<=t.es.length
 case neg=>
  have h0:t.es=[]:=zT.1 fy;refine fA ?_;exact fB fx fx ⟨by unfold MO;rw[h0];rfl,B⟩
 obtain⟨b,o,e0,bb,_,af,bF,aL⟩:=ao.at_ (i:=0) fy;subst bb
 have bo:t.es.headD default=e0:=by
  cases aN:t.es with
  |nil=>rw[aN]at af;cases af
  |cons x r=>rw[aN]at af;exact jb af
 rw[Sh t e0 bo,decide_eq_true g1,iV]
 by_cases g2:t.es.length<=100
 case neg=>
  refine fA ?_;exact fB fx fx ⟨by simp only[decide_eq_false g2,hW],B⟩
 rw[decide_eq_true g2,iV];have z0:gc v b (o+0*2+0) (.U e0.path):=B.cell (aL 0 _ rfl)
 by_cases g3:e0.path=[]
 case neg=>
  repeat' (first|refine gH 0 (o+0*2) fx fx fx fx fx fy ?_|refine gk (op:= .neq) (b:=[]) (r:=true) fx fx (by simp[hG,g3]) ?_|refine fT ?_|fail)
  exact fB fx fx ⟨by simp only[decide_eq_false g3,hW],B⟩
 rw[decide_eq_true g3,iV]
 repeat' (first|refine gH 0 (o+0*2) fx fx fx fx fx fy ?_|refine gk (op:= .neq) (b:=[]) (r:=false) fx fx (by simp[hG,g3]) ?_|refine fT ?_|fail)
 refine WA sC fx fx fx fy fy fy (λbz aC bf bK=>?_);rw[je]at aC|-
 have bh:fW bz v.heap.size 3 ((oo t.ns.length (t.es.take 0)).map (Value.int .i64)).toArray:=by
  rw[yb,Ng,ME];simpa using aC
 refine fA ?_;refine gC (α:=Nat×Nat) (λx=>[(1,.P w.heap.size),(3,.I (x.2:Int)),(4,.S v.heap.size 0 t.ns.length t.ns.length),(5,.I (x.1:Int))]) (RtI t v) (λx=>t.es.length-x.1) (0,0) (sub ⟨rfl,rfl,rfl,rfl⟩) ⟨iF _,iF _,bh,rfl,bf⟩ ?_;rintro⟨i,used⟩ D ⟨hi,hu,ae,f,U⟩;dsimp only at hi hu ae f U|-;have m0:gc D w.heap.size 0 (.S b o t.es.length c):=U.cell k0;have m1:gc D w.heap.size 1 (.slice L t.ns.length G):=U.cell k1
 by_cases fY:i<t.es.length
 .obtain⟨bA,o2,e,an,_,he,_,bk⟩:=ao.at_ fY;injection an with an
  injection an with a2 e4
  subst a2;subst e4;rw[QI he]at f;have ax:=aj.p e (jT he);have bn:∀j u,(hR e)[j]? =some u->gc D b (o+i*2+j) u:=λj u hu=>U.cell (B.cell (bk j u hu))
  refine zD ?_;refine hV (cs:=hR e) fx fx bn ?_;refine gx (z:= .agg #[.string ⟨#[]⟩,.I 0]) fE (λI bd V bL=>?_);refine gY (cs:=(hR e).toArray) bd fx fx fx fx (yy e) (λF aD bg=>?_);have aG:Ext D F:=Ext.te V bg λj aP e=>by have e':j=D.heap.size:=e;omega
  have H:Ext v F:=U.t aG;have bi:=ae.ext aG;have q0:gc F.drew D.heap.size 0 (.U e.path):=aD.cell 0;have p1:gc F D.heap.size 1 (.I e.node):=aD.cell 1;refine Zc ?_;refine p5 (α:=Unit) (λ_=>[(1,.P w.heap.size),(3,.I (used:Int)),(4,.S v.heap.size 0 t.ns.length t.ns.length),(5,.I (i:Int)),(6,.P D.heap.size),(85,.bool !(R9 t.ns.length ((h6 t.es i).map (·.path)) used e))]) (λ_ w'=>Ext F w') ?_ ?_
  .unfold R9;refine fA ?_;refine fH fx fx (lU F.drew e.path ax) (λr E a7=>?_);obtain⟨rfl,Q⟩:=a7;have M:Ext F E:=(Fr.drew _ _).t Q;have p0:gc E D.heap.size 0 (.U e.path):=Q.cell q0;have p1:gc E D.heap.size 1 (.I e.node):=M.cell p1;have bx:gc E w.heap.size 0 (.S b o t.es.length c):=M.cell (H.cell k0);have n1:gc E w.heap.size 1 (.slice L t.ns.length G):=M.cell (H.cell k1);cases hm:gX e.path with
   |false=>
    refine fA ?_;exact gl ⟨(),sub ⟨rfl,rfl,rfl,rfl,rfl,rfl⟩,M⟩
   |true=>
   rw[iV];have aW:∀q:Bool,q=(decide (0<=e.node)&&decide (e.node<=used)&&decide (e.node<t.ns.length))->(q=true↔0<=e.node/\e.node<=used/\e.node<t.ns.length):=λq hq=>by rw[hq];simp only[iU,decide_eq_true_eq,and_assoc]
   cases i with
   | zero=>
    simp only[h6,PW];rw[iV];have S:=aW _ rfl;generalize(decide (0<=e.node)&&decide (e.node<=used)&&decide (e.node<t.ns.length))=q at S|-;cases q with
    |true=>
     obtain⟨ag,a0,a1⟩:=S.1 rfl;refine fA ?_;exact gl ⟨(),sub ⟨rfl,rfl,rfl,rfl,rfl,rfl⟩,M⟩
    |false=>
     have ag:¬(0<=e.node/\e.node<=used/\e.node<t.ns.length):=λh=>by have:=S.2 h;cases this
     repeat' (first|refine fT ?_|refine lj fx fx (λhc=>?_) (λhc=>?_)|refine lg fx fx (λhc=>?_) (λhc=>?_)|refine lq fx fx (λhc=>?_) (λhc=>?_)|refine lh fx fx (λhc=>?_) (λhc=>?_)|refine lv fx fx (λhc=>?_) (λhc=>?_)|refine lf fx fx (λhc=>?_) (λhc=>?_)|fail)
     all_goals first|exact gl ⟨(),sub ⟨rfl,rfl,rfl,rfl,rfl,rfl⟩,M⟩|(exfalso;omega)
   | succ m=>
    obtain⟨y,ay⟩:∃y,t.es[m]? =some y:=⟨_,j9 fy⟩;have bs:h6 t.es (m+1)=some y:=ay;rw[bs];simp only[tT];obtain⟨J,o3,bM,K,_,am,_,R⟩:=ao.at_ (i:=m) fy;injection K with K
    injection K with a3 a4
    subst a3;subst a4;rw[ay]at am;injection am with am
    subst am;have bw:=aj.p y (jT ay);have p2:gc E b (o+m*2+0) (.U y.path):=M.cell (H.cell (B.cell (R 0 _ rfl)))
    repeat' (first|refine gH m (o+m*2) fx fx fx fy fx fy ?_|refine fT ?_|fail)
    refine fH fx fx (z8 E y.path e.path bw ax) (λr N a8=>?_);obtain⟨rfl,ad⟩:=a8;have ar:Ext F N:=M.t ad;have p1:gc N D.heap.size 1 (.I e.node):=ad.cell p1;have n1:gc N w.heap.size 1 (.slice L t.ns.length G):=ad.cell n1;cases bH:ix y.path e.path with
    |false=>
     refine fA ?_;exact gl ⟨(),sub ⟨rfl,rfl,rfl,rfl,rfl,rfl⟩,ar⟩
    | true=>
     rw[iV];have S:=aW _ rfl;generalize(decide (0<=e.node)&&decide (e.node<=used)&&decide (e.node<t.ns.length))=q at S|-;cases q with
     |true=>
      obtain⟨ag,a0,a1⟩:=S.1 rfl;refine fA ?_;exact gl ⟨(),sub ⟨rfl,rfl,rfl,rfl,rfl,rfl⟩,ar⟩
     |false=>
      have ag:¬(0<=e.node/\e.node<=used/\e.node<t.ns.length):=λh=>by have:=S.2 h;cases this
      repeat' (first|refine fT ?_|refine lj fx fx (λhc=>?_) (λhc=>?_)|refine lg fx fx (λhc=>?_) (λhc=>?_)|refine lq fx fx (λhc=>?_) (λhc=>?_)|refine lh fx fx (λhc=>?_) (λhc=>?_)|refine lv fx fx (λhc=>?_) (λhc=>?_)|refine lf fx fx (λhc=>?_) (λhc=>?_)|fail)
      all_goals first|exact gl ⟨(),sub ⟨rfl,rfl,rfl,rfl,rfl,rfl⟩,ar⟩|(exfalso;omega)
  rintro _ E Q;have aF:Ext v E:=H.t Q;have p0:gc E D.heap.size 0 (.U e.path):=Q.cell q0;have p1:gc E D.heap.size 1 (.I e.node):=Q.cell p1;cases av:R9 t.ns.length ((h6 t.es i).map (·.path)) used e with
  |false=>
   rw[av]at f;simp only[hW]at f;refine fA ?_;exact fB fx fx ⟨by rw[<-f];simp only[hW],B.t aF⟩
  |true=>
  rw[av,iV]at f;have aM:=av;simp only[R9,iU,decide_eq_true_eq]at aM;obtain⟨⟨⟨_,ag⟩,a0⟩,a1⟩:=aM;obtain⟨k,hk⟩:=lZ ag;have aQ:k<t.ns.length:=fy;obtain⟨Z,X⟩:∃Z,Z=if e.node<used then used else used+1:=⟨_,rfl⟩
  rw[<-X]at f
  have aU:Z<=t.ns.length:=by
   rw[X];split<;>omega
  refine Zc ?_;refine p5 (α:=Unit) (λ_=>[(1,.P w.heap.size),(3,.I (used:Int)),(4,.S v.heap.size 0 t.ns.length t.ns.length),(5,.I (i:Int)),(6,.P D.heap.size),(89,.bool !(decide (e.node<used)))]) (λ_ w'=>E=w') ?_ ?_
  .by_cases g:e.node<used
   .rw[decide_eq_true g];refine fA ?_;exact gl ⟨(),sub ⟨rfl,rfl,rfl,rfl,rfl,rfl⟩,rfl⟩
   .rw[decide_eq_false g];refine fA ?_;exact gl ⟨(),sub ⟨rfl,rfl,rfl,rfl,rfl,rfl⟩,rfl⟩
  rintro _ _ rfl;refine Zc ?_;refine p5 (α:=Unit) (λ_=>[(1,.P w.heap.size),(3,.I (Z:Int)),(4,.S v.heap.size 0 t.ns.length t.ns.length),(5,.I (i:Int)),(6,.P D.heap.size)]) (λ_ w'=>E=w') ?_ ?_
  .by_cases g:e.node<used
   .rw[if_pos g]at X;rw[X,decide_eq_true g];refine fA ?_;exact gl ⟨(),sub ⟨rfl,rfl,rfl,rfl,rfl⟩,rfl⟩
   .rw[if_neg g]at X;rw[X,decide_eq_false g];refine fA ?_;exact gl ⟨(),sub ⟨rfl,rfl,rfl,rfl,rfl⟩,rfl⟩
  rintro _ _ rfl;have aJ:=bi.ext Q;have bl:=Yl k (t.es.take i);rw[kv]at bl
  have c1:E.cell? ⟨v.heap.size,k,none⟩=some (.I (ka k (t.es.take i):Int)):=by
   rw[aJ.cell,po,qX,C9 aQ];rfl
  have bB:v.heap.size<D.heap.size:=ae.lt
  repeat' (first|refine kt k k fx fx fx hk fy aQ ?_|refine fT ?_|fail)
  refine ir aJ fx fx fx fx (by rw[decide_eq_true_eq];simp[oo];omega) (λN aE aI=>?_)
  have aK:fW N v.heap.size 3 ((oo t.ns.length (t.es.take (i+1))).map (Value.int .i64)).toArray:=by
   rw[LO,<-vz,Ox he hk]at aE;exact aE
  have ad:Ext v N:=Ext.te aF aI λj aP e=>by have e':j=v.heap.size:=e;omega
  have p0:gc N D.heap.size 0 (.U e.path):=aI.cell p0 (λe'=>by have e':D.heap.size=v.heap.size:=e';omega);refine fA ?_;refine fH fx fx (Fc N e.path ax) (λr aA a9=>?_);obtain⟨rfl,au⟩:=a9;have ai:Ext v aA:=ad.t au;cases ak:iI e.path with
  |none=>
   have aa:x9 t e=true:=by unfold x9;rw[ak]
   rw[aa,iV]at f;refine fA ?_;exact gl ⟨(i+1,Z),sub ⟨rfl,rfl,rfl,rfl⟩,⟨by dsimp only;omega,aU,aK.ext au,f,ai⟩,(by show t.es.length-(i+1)<t.es.length-i;omega)⟩
  |some up=>
  have bv:wi e.path=up:=by rw[wi,ak];rfl
  rw[bv];have be:fW aA w.heap.size 26 #[.S b o t.es.length c,.slice L fO.length G]:=aq.ext ai;refine fA ?_;refine gR (t:=26) be fx fx ?_;refine fA ?_;refine fH fx fx (um aA _ _ t.es up (Y.e.ext (B.t ai))) (λr aB ba=>?_);obtain⟨rfl,aH⟩:=ba;have O:Ext v aB:=ai.t aH;have n1:gc aB w.heap.size 1 (.slice L t.ns.length G):=O.cell k1;cases aO:fK t.es up with
  |none=>
   have aa:x9 t e=false:=by unfold x9;rw[ak];dsimp only;rw[aO]
   rw[aa,hW]at f;refine fA ?_;exact y34
  | some j=>
   have aa:x9 t e=(decide (0<=j)&&decide (j<t.ns.length)&&decide (fV t.ns j=1)):=by unfold x9;rw[ak];dsimp only;rw[aO]
   rw[aa]at f;have bG:(some j:Option Int).getD 0=j:=rfl
   by_cases az:0<=j
   case neg=>
    rw[decide_eq_false az]at f;simp only[hW]at f;refine fA ?_;exact y34
   by_cases aV:j<t.ns.length
   case neg=>
    rw[decide_eq_false aV]at f;simp only[hW,tl]at f;refine fA ?_;exact y34
   obtain⟨q,hq⟩:=lZ az;obtain⟨J,o3,n,K,_,T,_,R⟩:=ap.at_ (i:=q) fy;subst K;have aw:fV t.ns j=n.n.kind:=by unfold fV;rw[hq,je,Y.getD T]
   rw[decide_eq_true az,decide_eq_true aV,iV,iV,aw]at f;have r2:gc aB J (o3+q*12+0) (.I n.n.kind):=O.cell (B.cell (R 0 _ rfl))
   by_cases g:n.n.kind=1
   .rw[decide_eq_true g,iV]at f
    repeat' (first|refine gH q (o3+q*12) fx fx fx hq fx fy ?_|refine fT ?_|fail)
    exact gl ⟨(i+1,Z),sub ⟨rfl,rfl,rfl,rfl⟩,⟨by dsimp only;omega,aU,(aK.ext au).ext aH,f,O⟩,(by show t.es.length-(i+1)<t.es.length-i;omega)⟩
   .rw[decide_eq_false g,hW]at f
    repeat' (first|refine gH q (o3+q*12) fx fx fx hq fx fy ?_|refine fT ?_|fail)
    exact y34
 .have bp:i=t.es.length:=fy;subst bp;rw[jP,tn]at f;rw[kh]at ae;rw[<-f,iV];have bu:=(Th t f.symm e0 (jT af));refine fA ?_;refine gC (α:=Nat) (λj=>[(1,.P w.heap.size),(4,.S v.heap.size 0 t.ns.length t.ns.length),(11,.I (j:Int))]) (λj w'=>Ext D w'/\j<=t.ns.length/\((List.range t.ns.length).drop j).all (rC t)=(List.range t.ns.length).all (rC t)) (λj=>t.ns.length-j) 0 (sub ⟨rfl,rfl,rfl⟩) ⟨Fr.refl _ _,iF _,rfl⟩ ?_;rintro j I ⟨V,aP,C⟩;have ab:Ext v I:=U.t V;have m1:gc I w.heap.size 1 (.slice L t.ns.length G):=ab.cell k1
  by_cases hlj:j<t.ns.length
  .obtain⟨J,o3,n,K,_,T,_,R⟩:=ap.at_ (i:=j) fy;subst K;have aS:∀q u,(gB n)[q]? =some u->gc I J (o3+j*12+q) u:=λq u hu=>ab.cell (B.cell (R q u hu))
   have bq:=Y.i n (jT T);have aR:=jT (Y.get T);have bt:(List.range t.ns.length)[j]? =some j:=by simp[hlj]
   rw[mA bt,ra]at C
   have a5:rC t j=(fG n.n&&decide (ka j t.es≠0)&&(decide (n.n.kind≠1)||decide (ka j t.es=1))):=by
    unfold rC fV;rw[je,Y.getD T]
   rw[a5]at C
   repeat' (first|refine gH j (o3+j*12) fx fx fx fx fx fy ?_|refine fT ?_|fail)
   refine hV (cs:=gB n) fx fx aS ?_;refine fH fx fx (na I n (bq.ext (B.t ab)) (aj.b n.n aR) (aj.g n.n aR)) (λr F a6=>?_);obtain⟨rfl,H⟩:=a6;have ah:Ext v F:=ab.t H;cases aT:fG n.n with
   |false=>
    rw[aT]at C;simp only[hW]at C;refine fA ?_;exact fB fx fx ⟨by rw[<-C];simp only[hW],B.t ah⟩
   |true=>
   rw[aT,iV]at C
   have c1:F.cell? ⟨v.heap.size,j,none⟩=some (.I (ka j t.es:Int)):=by
    rw[(ae.ext (V.t H)).cell,po,qX,C9 hlj];rfl
   have c2:gc F J (o3+j*12+0) (.I n.n.kind):=H.cell (aS 0 _ rfl);have n1:gc F w.heap.size 1 (.S J o3 t.ns.length G):=ah.cell k1
   by_cases aX:ka j t.es=0
   .rw[decide_eq_false (by simpa using aX)]at C;simp only[hW]at C
    repeat' (first|refine kt j j fx fx fx fx fy hlj ?_|refine fT ?_|fail)
    exact fB fx fx ⟨by rw[<-C];simp only[hW],B.t ah⟩
   rw[decide_eq_true (show ka j t.es≠0 from aX),iV]at C
   by_cases aY:n.n.kind=1
   .by_cases aZ:ka j t.es=1
    .rw[decide_eq_true aZ,Bool.or_true,iV]at C;exact y47
    .rw[decide_eq_false aZ,decide_eq_false (by simpa using aY)]at C;simp only[Bool.or_self,hW]at C;refine aak ?_;exact fB fx fx ⟨by rw[<-C];simp only[hW],B.t ah⟩
   .rw[decide_eq_true (show n.n.kind≠1 from aY),MD,iV]at C;exact y47
  .have br:j=t.ns.length:=fy;subst br;have bm:(List.range t.ns.length).drop t.ns.length=[]:=by rw[QO];simp
   rw[bm]at C;rw[<-C,Gf,iV];obtain⟨k,hk⟩:=lZ bu.1;obtain⟨J,o3,n,K,_,T,_,R⟩:=ap.at_ (i:=k) fy;subst K;have aw:fV t.ns e0.node=n.n.kind:=by unfold fV;rw[hk,je,Y.getD T]
   rw[aw];have W:Ext v I.drew:=ab.d;have bx:gc I.drew w.heap.size 0 (.S b o t.es.length c):=W.cell k0;have n1:gc I.drew w.heap.size 1 (.S J o3 t.ns.length G):=W.cell k1;have q1:gc I.drew b (o+0*2+1) (.I e0.node):=W.cell (B.cell (aL 1 _ rfl));have r1:gc I.drew J (o3+k*12+0) (.I n.n.kind):=W.cell (B.cell (R 0 _ rfl))
   by_cases g:n.n.kind=1
   .rw[decide_eq_true g];refine ZE ?_;exact fB fx fx ⟨rfl,B.t W⟩
   .rw[decide_eq_false g];refine ZE ?_;exact fB fx fx ⟨rfl,B.t W⟩
