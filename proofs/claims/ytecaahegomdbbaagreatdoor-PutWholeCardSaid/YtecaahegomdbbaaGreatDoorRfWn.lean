/- Parts of the proof. -/
import Derived.Test.YtecaahegomdbbaaGreatDoorRfWi
import Derived.Test.YtecaahegomdbbaaGreatDoorRfWk
set_option linter.all false
set_option maxRecDepth 100000
set_option maxHeartbeats 64000000
namespace Go.Proofs.YtecaahegomdbbaaGreatDoor.gp
open Go.Proofs.Tryz
open Go.RowKit
section
attribute [local irreducible] xs T
theorem yb (e:En):(hI e).toArray.all (·.oneCell')=true:=by simp[hI,Value.oneCell']
theorem ka (w:World) (ve vn:Value) (l:List En) (p:fQ) (u:Rw hI w ve l):fL prog 63 #[.agg #[ve,vn],.string (su p)] w λr w'=>r= .tuple #[.int .i64 ((fR l p).getD 0),.bool (fR l p).isSome]/\Ext w w':=by
 refine gK func63 fx fF ?_;obtain⟨A,c,rfl,v,y,m⟩:=u.op gj;refine fA ?_;refine hD fx (λd s f B=>?_);have n:fU d w.heap.size 26 #[.slice A l.length c,vn]:=s;have k0:d.cell? ⟨w.heap.size,0,none⟩=some (.slice A l.length c):=n.cell 0;refine fA ?_;refine h9 (α:=Nat) 0 fx (λi=>[(1,.string (su p)),(2,.pointer (some ⟨w.heap.size,0,none⟩)),(6,.int .i64 (i:Int))]) (λi w'=>d=w'/\i<=l.length/\fR (l.drop i) p=fR l p) (λi=>l.length-i) ?_ ?_
 ·rintro i D ⟨rfl,hi,a⟩
  by_cases fW:i<l.length
  ·obtain⟨b,o,x,rfl,_,C,t,g⟩:=m.at_ fW;have q0:d.cell? ⟨b,o+i*2+0,none⟩=some (.string (su x.path)):=f.cell (g 0 _ rfl);have q1:d.cell? ⟨b,o+i*2+1,none⟩=some (.int .i64 x.node):=f.cell (g 1 _ rfl);rw[t,fR]at a
   by_cases e:x.path=p
   ·rw[if_pos e]at a;refine Z5 ?_;exact ia fx fx fx ⟨by rw[←a];rfl,f⟩
   ·rw[if_neg e]at a;refine aaL ?_;exact gX fx ⟨_,(by show l.length-(i+1)<l.length-i;omega),rfl,i+1,sub ⟨rfl,rfl,rfl⟩,⟨rfl,fy,a⟩,rfl⟩
  ·obtain rfl:i=l.length:=fy;rw[jJ]at a;refine fA ?_;exact ia fx fx fx ⟨by rw[←a];rfl,f⟩
 ·intro H;refine fA ?_;refine hv ?_;exact ic (H 0 d ⟨rfl,iy _,rfl⟩) (sub ⟨rfl,rfl,rfl⟩)
theorem zm (w:World) (ve vn:Value) (l:List En) (p:fQ) (u:Rw hI w ve l):fL prog 24 #[.agg #[ve,vn],.string (su p)] w λr w'=>r= .tuple #[.int .i64 ((fR l p).getD 0),.bool (fR l p).isSome]/\Ext w w':=by
 refine gK func24 fx fF ?_;obtain⟨A,c,rfl,v,y,m⟩:=u.op gj;refine fA ?_;refine hD fx (λd s f B=>?_);have n:fU d w.heap.size 26 #[.slice A l.length c,vn]:=s;have k0:d.cell? ⟨w.heap.size,0,none⟩=some (.slice A l.length c):=n.cell 0;refine fA ?_;refine gA (α:=Nat) (λi=>[(1,.string (su p)),(2,.pointer (some ⟨w.heap.size,0,none⟩)),(6,.int .i64 (i:Int))]) (λi w'=>d=w'/\i<=l.length/\fR (l.drop i) p=fR l p) (λi=>l.length-i) 0 (sub ⟨rfl,rfl,rfl⟩) ⟨rfl,iy _,rfl⟩ ?_;rintro i D ⟨rfl,hi,a⟩
 by_cases fW:i<l.length
 ·obtain⟨b,o,x,rfl,_,C,t,g⟩:=m.at_ fW;have q0:d.cell? ⟨b,o+i*2+0,none⟩=some (.string (su x.path)):=f.cell (g 0 _ rfl);have q1:d.cell? ⟨b,o+i*2+1,none⟩=some (.int .i64 x.node):=f.cell (g 1 _ rfl);rw[t,fR]at a
  by_cases e:x.path=p
  ·rw[if_pos e]at a;refine Z5 ?_;exact ia fx fx fx ⟨by rw[←a];rfl,f⟩
  ·rw[if_neg e]at a;refine aaL ?_;exact gn ⟨i+1,sub ⟨rfl,rfl,rfl⟩,⟨rfl,fy,a⟩,(by show l.length-(i+1)<l.length-i;omega)⟩
 ·obtain rfl:i=l.length:=fy;rw[jJ]at a;refine fA ?_;exact ia fx fx fx ⟨by rw[←a];rfl,f⟩
def tu (ns:List Nd):Prop:=∀n∈ns,fE n.data<=1000000
theorem oz:∀(a b:List Nd),gd (a++b)=gd a+gd b
 |[],b=>by simp[gd]
 |p::a,b=>by rw[qp,gd,gd,oz a b];omega
theorem mW {l:List Nd} {i:Nat} {n:Nd} (h:l[i]? =some n):gd (l.take (i+1))=gd (l.take i)+fE n.data:=by
 rw[kO,h,xN,oz];simp[gd]
theorem wv {l:List Nd} (h:tu l):gd l<=1000000*l.length:=by
 induction l with
 |nil=>simp[gd]
 |cons n r d=>
  have:=d λx a=>h x (by simp[a])
  have:=h n ir;rw[gd,iA];omega
theorem xi (w:World) (ve vn:Value) (fK:List gG) (t:fY) (d:nj w ve vn fK t) (v:tu t.ns) (N:t.ns.length<=1000000):fL prog 39 #[.agg #[ve,vn]] w λr w'=>r= .int .i64 (gd t.ns:Int)/\Ext w w':=by
 refine gr func39 fx fF ?_;obtain⟨A,c,rfl,K,L,B⟩:=d.n.op gI;have hlen:=d.len;refine fA ?_;refine hD fx (λf D g O=>?_);have C:fU f w.heap.size 26 #[ve,.slice A fK.length c]:=D;have k1:f.cell? ⟨w.heap.size,1,none⟩=some (.slice A fK.length c):=C.cell 1;refine fA ?_;refine h9 (α:=Nat) 0 fx (λi=>[(1,.pointer (some ⟨w.heap.size,0,none⟩)),(3,.int .i64 (gd (t.ns.take i):Int)),(4,.int .i64 (i:Int))]) (λi w'=>Ext f w'/\i<=fK.length) (λi=>fK.length-i) ?_ ?_
 ·rintro i s ⟨a,hi⟩;have m1:s.cell? ⟨w.heap.size,1,none⟩=some (.slice A fK.length c):=a.cell k1
  by_cases fW:i<fK.length
  ·obtain⟨b,o,x,rfl,_,m,M,G⟩:=B.at_ fW;have J:∀j u,(gz x)[j]? =some u->s.cell? ⟨b,o+i*12+j,none⟩=some u:=λj u hu=>a.cell (g.cell (G j u hu))
   have I:=d.i x (jS m);have F:=v x.n (jS (d.get m));have Q:=mW (d.get m)
   have hle:gd (t.ns.take (i+1))<=1000000*(i+1):=by
    have:=wv (l:=t.ns.take (i+1)) λn hm=>v n (BU hm)
    rw[kt]at this;omega
   refine Xr ?_;refine hL (cs:=gz x) fx fx J ?_;refine fG fx fx (p5 s x (I.ext (g.t a)) F) (λr R y=>?_);obtain⟨rfl,E⟩:=y;refine fA ?_;exact gX fx ⟨_,(by show fK.length-(i+1)<fK.length-i;omega),rfl,i+1,sub ⟨rfl,jX fy,rfl⟩,⟨a.t E,fy⟩,rfl⟩
  ·obtain rfl:i=fK.length:=fy;refine fA ?_;exact fB fx fx ⟨by rw[hlen,km],g.t a⟩
 ·intro H;refine fA ?_;refine hv ?_;exact ic (H 0 f ⟨Fr.refl _ _,iy _⟩) (sub ⟨rfl,rfl,rfl⟩)
theorem Ra {ns:List Nd} {es:List En} {i used:Nat} {e:En} (he:es[i]? =some e):uD ns ((hT es i).map (·.path)) used (es.drop i)=(gU e.path&&(match(hT es i).map (·.path)with|none=>decide (e.path=[])|some p=>ie p e.path)&&decide (0<=e.node)&&decide (e.node<=used)&&decide (e.node<ns.length)&&
  (if e.node<used then decide (gf ns e.node≠1)&&uD ns ((hT es (i+1)).map (·.path)) used (es.drop (i+1))else fH (ns.getD used default)&&uD ns ((hT es (i+1)).map (·.path)) (used+1) (es.drop (i+1)))):=by
 rw[lT he,prev_next he];generalize hT es i=p;cases p<;>rfl
structure OrI (t:fY) (w1:World) (x:Nat×Nat) (w:World):Prop where
 i:x.1<=t.es.length
 u:x.2<=t.ns.length
 go:uD t.ns ((hT t.es x.1).map (·.path)) x.2 (t.es.drop x.1)=uD t.ns none 0 t.es
 ext:Ext w1 w
theorem qn (w:World) (ve vn:Value) (fK:List gG) (t:fY) (v:nj w ve vn fK t) (af:tu t.ns):fL prog 61 #[.agg #[ve,vn]] w λr w'=>r= .bool (uD t.ns none 0 t.es)/\Ext w w':=by
 refine gr func61 fx fF ?_;obtain⟨A,c,rfl,ay,az,Z⟩:=v.e.op gj;obtain⟨J,K,rfl,ap,aA,aa⟩:=v.n.op gI;have hlen:=v.len;rw[hlen]at ap;refine fA ?_;refine hD fx (λF ak d aD=>?_);have ab:fU F w.heap.size 26 #[.slice A t.es.length c,.slice J fK.length K]:=ak;have k0:F.cell? ⟨w.heap.size,0,none⟩=some (.slice A t.es.length c):=ab.cell 0;have k1:F.cell? ⟨w.heap.size,1,none⟩=some (.slice J t.ns.length K):=by rw[←hlen];exact ab.cell 1
 refine fA ?_;refine h9 (α:=Nat×Nat) 0 fx (λx=>[(1,.pointer (some ⟨w.heap.size,0,none⟩)),(3,.int .i64 (x.2:Int)),(4,.int .i64 (x.1:Int))]) (OrI t F) (λx=>t.es.length-x.1) ?_ ?_
 ·rintro⟨i,used⟩ B ⟨hi,hu,a,G⟩;dsimp only at hi hu a G⊢;have m0:B.cell? ⟨w.heap.size,0,none⟩=some (.slice A t.es.length c):=G.cell k0;have m1:B.cell? ⟨w.heap.size,1,none⟩=some (.slice J t.ns.length K):=G.cell k1
  by_cases fW:i<t.es.length
  ·obtain⟨b,o,e,rfl,_,he,_,aq⟩:=Z.at_ fW;rw[Ra he]at a;have au:∀j u,(hI e)[j]? =some u->B.cell? ⟨b,o+i*2+j,none⟩=some u:=λj u hu=>G.cell (d.cell (aq j u hu))
   refine zF ?_;refine hL (cs:=hI e) fx fx au ?_;refine gy (z:= .agg #[.string ⟨#[]⟩,.int .i64 0]) fF (λaH al am aE=>?_);refine hd (cs:=(hI e).toArray) al fx fx fx fx (yb e) (λQ ad ao=>?_);have an:Ext F Q:=G.t (Ext.te am ao λj aC e=>by have e':j=B.heap.size:=e;omega);have q0:Q.cell? ⟨B.heap.size,0,none⟩=some (.string (su e.path)):=ad.cell 0;have q1:Q.cell? ⟨B.heap.size,1,none⟩=some (.int .i64 e.node):=ad.cell 1;refine fA ?_;refine fG fx fx (oa Q e.path) (λr s ai=>?_);obtain⟨rfl,T⟩:=ai;have D:Ext F s:=an.t T;have p0:s.cell? ⟨B.heap.size,0,none⟩=some (.string (su e.path)):=T.cell q0;have p1:s.cell? ⟨B.heap.size,1,none⟩=some (.int .i64 e.node):=T.cell q1;have aG:s.drew.cell? ⟨B.heap.size,0,none⟩=some (.string (su e.path)):=p0;cases hm:gU e.path with
   |false=>
    rw[hm]at a;simp only[hW]at a;refine fA ?_;exact fB fx fx ⟨by rw[←a],d.t D⟩
   |true=>
   rw[hm,iU]at a;cases i with
   | zero=>
    have aB:=a;simp only[hT,PH]at a
    by_cases g0:e.path=[]
    case neg=>
     rw[decide_eq_false g0]at a;simp only[hW]at a
     repeat' (first|refine gq (op:= .neq) (b:=[]) (r:=true) rfl rfl (by simp[hZ,g0]) ?_|refine fT ?_|fail)
     exact fB fx fx ⟨by rw[←a],d.t D⟩
    rw[decide_eq_true g0,iU]at a;have C:Ext s s.drew:=Fr.drew _ _
    repeat' (first|refine gq (op:= .neq) (b:=[]) (r:=false) rfl rfl (by simp[hZ,g0]) ?_|refine fT ?_|fail)
    have r1:s.drew.cell? ⟨B.heap.size,1,none⟩=some (.int .i64 e.node):=C.cell p1;have r2:s.drew.cell? ⟨w.heap.size,1,none⟩=some (.slice J t.ns.length K):=C.cell (D.cell k1);have f:Ext F s.drew:=D.t C
    by_cases g1:0<=e.node
    case neg=>
     rw[decide_eq_false g1]at a;simp only[hW]at a;exact Yp
    by_cases g2:e.node<=used
    case neg=>
     rw[decide_eq_false g2]at a;simp only[hW,sO]at a;exact Yp
    by_cases g3:e.node<t.ns.length
    case neg=>
     rw[decide_eq_false g3]at a;simp only[hW,sO]at a;exact Yp
    rw[decide_eq_true g1,decide_eq_true g2,decide_eq_true g3,iU,iU,iU]at a;obtain⟨k,hk⟩:=lO g1;have sX:k<fK.length:=fy;obtain⟨b',o',n,rfl,_,E,_,M⟩:=aa.at_ sX;have W:gf t.ns e.node=n.n.kind:=by unfold gf;rw[hk,jf,v.getD E]
    have r3:s.drew.cell? ⟨b',o'+k*12+0,none⟩=some (.int .i64 n.n.kind):=f.cell (d.cell (M 0 _ rfl))
    by_cases g4:e.node<used
    ·rw[if_pos g4,W]at a
     by_cases g5:n.n.kind=1
     ·rw[decide_eq_false (by simpa using g5),hW]at a;refine Tk ?_;exact fB fx fx ⟨by rw[←a],d.t f⟩
     ·rw[decide_eq_true (show n.n.kind≠1 from g5),iU]at a;refine Tk ?_;exact gX fx ⟨_,(by show t.es.length-(0+1)<t.es.length-0;omega),rfl,(0+1,used),sub ⟨rfl,rfl,rfl⟩,⟨by dsimp only;omega,hu,a,f⟩,rfl⟩
    ·rw[if_neg g4]at a;have X:k=used:=fy;rw[←X,v.getD E]at a;have Y:∀j u,(gz n)[j]? =some u->s.drew.cell? ⟨b',o'+k*12+j,none⟩=some u:=λj u hu=>f.cell (d.cell (M j u hu))
     have V:=v.i n (jS E);have U:=af n.n (jS (v.get E))
     repeat' (first|refine gF k (o'+k*12) rfl rfl rfl fy rfl fy ?_|refine fT ?_|fail)
     refine hL (cs:=gz n) fx fx Y ?_;refine fG fx fx (nL s.drew n (V.ext (d.t f)) U) (λr aw S=>?_);obtain⟨rfl,L⟩:=S;cases N:fH n.n with
     |false=>
      rw[N,hW]at a;refine fA ?_;exact fB fx fx ⟨by rw[←a],d.t (f.t L)⟩
     |true=>
      rw[N,iU]at a;refine fA ?_;exact gX fx ⟨_,(by show t.es.length-(0+1)<t.es.length-0;omega),rfl,(0+1,k+1),sub ⟨rfl,jX (by dsimp only;omega),rfl⟩,⟨by dsimp only;omega,by dsimp only;omega,a,f.t L⟩,rfl⟩
   | succ m=>
    obtain⟨y,ag⟩:∃y,t.es[m]? =some y:=⟨_,kp fy⟩;have av:hT t.es (m+1)=some y:=ag;rw[av]at a;simp only[tH]at a;obtain⟨ax,o2,aI,R,_,O,_,ar⟩:=Z.at_ (i:=m) fy;injection R with R
    injection R with ah e4
    subst ah;subst e4;rw[ag]at O;injection O with O
    subst O;have p2:s.drew.cell? ⟨b,o+m*2+0,none⟩=some (.string (su y.path)):=D.cell (d.cell (ar 0 _ rfl));have aF:s.drew.cell? ⟨w.heap.size,0,none⟩=some (.slice (some ⟨b,o,none⟩) t.es.length c):=D.cell k0
    repeat' (first|refine gF m (o+m*2) rfl rfl rfl fy rfl fy ?_|refine fT ?_|fail)
    refine fG fx fx (sA s.drew y.path e.path) (λr I C=>?_);obtain⟨rfl,aj⟩:=C;have C:Ext s I:=(Fr.drew _ _).t aj;cases ae:ie y.path e.path with
    |false=>
     rw[ae]at a;simp only[hW]at a;refine fA ?_;exact fB fx fx ⟨by rw[←a],d.t (D.t C)⟩
    | true=>
     rw[ae,iU]at a;refine fA ?_;have r1:I.cell? ⟨B.heap.size,1,none⟩=some (.int .i64 e.node):=C.cell p1;have r2:I.cell? ⟨w.heap.size,1,none⟩=some (.slice J t.ns.length K):=C.cell (D.cell k1);have f:Ext F I:=D.t C
     by_cases g1:0<=e.node
     case neg=>
      rw[decide_eq_false g1]at a;simp only[hW]at a;exact Yp
     by_cases g2:e.node<=used
     case neg=>
      rw[decide_eq_false g2]at a;simp only[hW,sO]at a;exact Yp
     by_cases g3:e.node<t.ns.length
     case neg=>
      rw[decide_eq_false g3]at a;simp only[hW,sO]at a;exact Yp
     rw[decide_eq_true g1,decide_eq_true g2,decide_eq_true g3,iU,iU,iU]at a;obtain⟨k,hk⟩:=lO g1;have sX:k<fK.length:=fy;obtain⟨b',o',n,rfl,_,E,_,M⟩:=aa.at_ sX;have W:gf t.ns e.node=n.n.kind:=by unfold gf;rw[hk,jf,v.getD E]
     have r3:I.cell? ⟨b',o'+k*12+0,none⟩=some (.int .i64 n.n.kind):=f.cell (d.cell (M 0 _ rfl))
     by_cases g4:e.node<used
     ·rw[if_pos g4,W]at a
      by_cases g5:n.n.kind=1
      ·rw[decide_eq_false (by simpa using g5),hW]at a;refine Tk ?_;exact fB fx fx ⟨by rw[←a],d.t f⟩
      ·rw[decide_eq_true (show n.n.kind≠1 from g5),iU]at a;refine Tk ?_;exact gX fx ⟨_,(by show t.es.length-(m+1+1)<t.es.length-(m+1);omega),rfl,(m+1+1,used),sub ⟨rfl,rfl,rfl⟩,⟨by dsimp only;omega,hu,a,f⟩,rfl⟩
     ·rw[if_neg g4]at a;have X:k=used:=fy;rw[←X,v.getD E]at a;have Y:∀j u,(gz n)[j]? =some u->I.cell? ⟨b',o'+k*12+j,none⟩=some u:=λj u hu=>f.cell (d.cell (M j u hu))
      have V:=v.i n (jS E);have U:=af n.n (jS (v.get E))
      repeat' (first|refine gF k (o'+k*12) rfl rfl rfl fy rfl fy ?_|refine fT ?_|fail)
      refine hL (cs:=gz n) fx fx Y ?_;refine fG fx fx (nL I n (V.ext (d.t f)) U) (λr aw S=>?_);obtain⟨rfl,L⟩:=S;cases N:fH n.n with
      |false=>
       rw[N,hW]at a;refine fA ?_;exact fB fx fx ⟨by rw[←a],d.t (f.t L)⟩
      |true=>
       rw[N,iU]at a;refine fA ?_;exact gX fx ⟨_,(by show t.es.length-(m+1+1)<t.es.length-(m+1);omega),rfl,(m+1+1,k+1),sub ⟨rfl,jX (by dsimp only;omega),rfl⟩,⟨by dsimp only;omega,by dsimp only;omega,a,f.t L⟩,rfl⟩
  ·obtain rfl:i=t.es.length:=fy;rw[jJ,uD]at a
   by_cases g:used=t.ns.length
   ·refine fA ?_;exact fB fx fx ⟨by rw[←a,decide_eq_true g],d.t G⟩
   ·refine fA ?_;exact fB fx fx ⟨by rw[←a,decide_eq_false g],d.t G⟩
 ·intro H;refine fA ?_;refine hv ?_;exact ic (H (0,0) F ⟨iy _,iy _,rfl,Fr.refl _ _⟩) (sub ⟨rfl,rfl,rfl⟩)
end
end Go.Proofs.YtecaahegomdbbaaGreatDoor.gp
