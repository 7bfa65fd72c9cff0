/- Parts of the proof. -/
import Derived.Test.YtecaahegomdbbaaGreatDoorRfWn
set_option linter.all false
set_option maxRecDepth 100000
set_option maxHeartbeats 64000000
namespace Go.Proofs.YtecaahegomdbbaaGreatDoor.gp
open Go.Proofs.Tryz
open Go.RowKit
section
attribute [local irreducible] xs T
theorem SZ {p:fQ} (h:fZ p≠[]):iL p=some (oF p)/\vv p=oF p:=by
 have e:iL p=some (oF p):=by unfold iL;rw[if_neg h]
 exact⟨e,by rw[vv,e];rfl⟩
theorem sg (w:World) (ve vn:Value) (fK:List gG) (t:fY) (G:nj w ve vn fK t) (O:tu t.ns):fL prog 29 #[.agg #[ve,vn]] w λr w'=>r= .bool (gQ t)/\Ext w w':=by
 refine gr func29 fx fF ?_;have B:=G;obtain⟨A,c,rfl,aK,aL,T⟩:=G.e.op gj;obtain⟨S,v,rfl,aq,aM,U⟩:=G.n.op gI;have hlen:=G.len;rw[hlen]at aq;unfold gQ;refine fA ?_;refine hD fx (λu am f aP=>?_);have y:fU u w.heap.size 26 #[.slice A t.es.length c,.slice S fK.length v]:=am;have k0:u.cell? ⟨w.heap.size,0,none⟩=some (.slice A t.es.length c):=y.cell 0;have k1:u.cell? ⟨w.heap.size,1,none⟩=some (.slice S t.ns.length v):=by rw[←hlen];exact y.cell 1
 refine fA ?_
 by_cases g1:1<=t.es.length
 case neg=>
  refine iX ?_;refine fA ?_;exact fB fx fx ⟨by simp only[decide_eq_false g1,hW],f⟩
 by_cases g2:t.es.length<=100
 case neg=>
  refine iX ?_;refine fA ?_;exact fB fx fx ⟨by simp only[decide_eq_false g2,hW,sO],f⟩
 rw[decide_eq_true g1,decide_eq_true g2,iU,iU];cases F:uD t.ns none 0 t.es with
 |false=>
  refine iX ?_;refine fA ?_;refine gM (t:=26) y fx fx ?_;refine fA ?_;refine fG fx fx (qn u _ _ fK t (B.ext f) O) (λr m C=>?_);obtain⟨rfl,a⟩:=C;rw[F];refine fA ?_;exact fB fx fx ⟨by simp only[hW],f.t a⟩
 |true=>
 rw[iU];obtain⟨ad,aC,_⟩:=(jB t.ns t.es none 0 (iy _)).1 F;have ab:=po aC;obtain⟨b,o,e0,ak,_,E,X,V⟩:=T.at_ (i:=0) fy;subst ak
 have ax:t.es.headD default=e0:=by
  cases Z:t.es with
  |nil=>rw[Z]at E;cases E
  |cons x r=>rw[Z]at E;exact jk E
 rw[ax];have aB:=ab e0 (jS E);obtain⟨k,hk⟩:=lO aB.1;have sX:k<fK.length:=fy;obtain⟨b',o',I,al,_,aD,_,W⟩:=U.at_ sX;subst al;have aA:gf t.ns e0.node=I.n.kind:=by unfold gf;rw[hk,jf,B.getD aD]
 rw[aA]
 have ae:ik (some e0.path) (t.es.drop 1)=true:=by
  rw[vU]at X;rw[X,ik,iO]at ad;exact ad.2
 by_cases g3:I.n.kind=1
 case neg=>
  refine iX ?_;refine fA ?_;refine gM (t:=26) y fx fx ?_;refine fA ?_;refine fG fx fx (qn u _ _ fK t (B.ext f) O) (λr m C=>?_);obtain⟨rfl,a⟩:=C;rw[F];have m0:m.drew.cell? ⟨w.heap.size,0,none⟩=some (.slice (some ⟨b,o,none⟩) t.es.length c):=a.cell k0;have m1:m.drew.cell? ⟨w.heap.size,1,none⟩=some (.slice (some ⟨b',o',none⟩) t.ns.length v):=a.cell k1;have q1:m.drew.cell? ⟨b,o+0*2+1,none⟩=some (.int .i64 e0.node):=a.cell (f.cell (V 1 _ rfl));have r1:m.drew.cell? ⟨b',o'+k*12+0,none⟩=some (.int .i64 I.n.kind):=a.cell (f.cell (W 0 _ rfl));refine YX ?_;exact fB fx fx ⟨by simp only[decide_eq_false g3,hW],(f.t a).d⟩
 rw[decide_eq_true g3,iU];refine h9 (α:=Nat) 0 fx (λi=>[(1,.pointer (some ⟨w.heap.size,0,none⟩)),(3,.int .i64 (i:Int))]) (λi w'=>Ext u w'/\1<=i/\i<=t.es.length/\(t.es.drop i).all (rp t)=(t.es.drop 1).all (rp t)) (λi=>t.es.length-i) ?_ ?_
 ·rintro i m ⟨a,aO,hi,s⟩;have m0:m.cell? ⟨w.heap.size,0,none⟩=some (.slice (some ⟨b,o,none⟩) t.es.length c):=a.cell k0
  by_cases fW:i<t.es.length
  ·obtain⟨aI,o2,e,J,_,he,av,ar⟩:=T.at_ fW;injection J with J
   injection J with af e4
   subst af;subst e4;have q0:m.cell? ⟨b,o+i*2+0,none⟩=some (.string (su e.path)):=a.cell (f.cell (ar 0 _ rfl));rw[av,rJ]at s
   have Y:e∈t.es.drop 1:=by
    refine jS (i:=i-1) ?_;rw[Ab,show 1+(i-1)=i from by omega,he]
   have aG:=na ae e Y;have aH:=pX ae e Y;have aF:=SZ (p:=e.path) (by rw[ig aG aH];exact kK _);refine zF ?_;refine fG fx fx (lM m e.path) (λr Q ai=>?_);obtain⟨rfl,ao⟩:=ai;have M:Ext u Q:=a.t ao;rw[aF.2];have an:fU Q w.heap.size 26 #[.slice (some ⟨b,o,none⟩) t.es.length c,.slice (some ⟨b',o',none⟩) fK.length v]:=y.ext M;refine fA ?_;refine gM (t:=26) an fx fx ?_;refine fA ?_;refine fG fx fx (ka Q _ _ t.es (oF e.path) (B.e.ext (f.t M))) (λr R aj=>?_);obtain⟨rfl,ap⟩:=aj;have D:Ext u R:=M.t ap;cases N:fR t.es (oF e.path)with
   |none=>
    have L:rp t e=false:=by unfold rp;rw[N]
    rw[L,hW]at s;refine fA ?_;exact fB fx fx ⟨by rw[←s],f.t D⟩
   | some j=>
    have L:rp t e=decide (gf t.ns j=1):=by unfold rp;rw[N]
    rw[L]at s;obtain⟨e',aw,_,ay⟩:=hB N;have aa:=ab e' aw;rw[ay]at aa;obtain⟨q,hq⟩:=lO aa.1;obtain⟨aJ,o3,n,K,_,aE,_,au⟩:=U.at_ (i:=q) fy;injection K with K
    injection K with ag ah
    subst ag;subst ah;have az:gf t.ns j=n.n.kind:=by unfold gf;rw[hq,jf,B.getD aE]
    rw[az]at s;have r1:R.cell? ⟨w.heap.size,1,none⟩=some (.slice (some ⟨b',o',none⟩) t.ns.length v):=D.cell k1;have r2:R.cell? ⟨b',o'+q*12+0,none⟩=some (.int .i64 n.n.kind):=D.cell (f.cell (au 0 _ rfl));have aN:(some j:Option Int).getD 0=j:=rfl
    by_cases g:n.n.kind=1
    ·rw[decide_eq_true g,iU]at s
     repeat' (first|refine gF q (o'+q*12) rfl rfl rfl hq rfl fy ?_|refine fT ?_|fail)
     exact gX fx ⟨_,(by show t.es.length-(i+1)<t.es.length-i;omega),rfl,i+1,sub ⟨rfl,rfl⟩,⟨D,fy,by omega,s⟩,rfl⟩
    ·rw[decide_eq_false g,hW]at s
     repeat' (first|refine gF q (o'+q*12) rfl rfl rfl hq rfl fy ?_|refine fT ?_|fail)
     exact fB fx fx ⟨by rw[←s],f.t D⟩
  ·obtain rfl:i=t.es.length:=fy;rw[jJ]at s;refine fA ?_;exact fB fx fx ⟨by rw[←s];rfl,f.t a⟩
 ·intro H;refine fA ?_;refine gM (t:=26) y fx fx ?_;refine fA ?_;refine fG fx fx (qn u _ _ fK t (B.ext f) O) (λr m C=>?_);obtain⟨rfl,a⟩:=C;rw[F];have m0:m.drew.cell? ⟨w.heap.size,0,none⟩=some (.slice (some ⟨b,o,none⟩) t.es.length c):=a.cell k0;have m1:m.drew.cell? ⟨w.heap.size,1,none⟩=some (.slice (some ⟨b',o',none⟩) t.ns.length v):=a.cell k1;have q1:m.drew.cell? ⟨b,o+0*2+1,none⟩=some (.int .i64 e0.node):=a.cell (f.cell (V 1 _ rfl));have r1:m.drew.cell? ⟨b',o'+k*12+0,none⟩=some (.int .i64 I.n.kind):=a.cell (f.cell (W 0 _ rfl));refine YX ?_;refine hv ?_;exact ic (H 1 m.drew ⟨a.d,gJ _,fy,rfl⟩) (sub ⟨rfl,rfl⟩)
theorem Oe {t:fY} {p:fQ} {i:Nat} {e:En} (he:t.es[i]? =some e):nE ⟨t.es.take (i+1),t.ns⟩ p=nE ⟨t.es.take i,t.ns⟩ p++(if iL e.path=some p then[mO e.path]else[]):=by
 unfold nE;rw[kO,he,xN,Ox,pE]
 by_cases h:iL e.path=some p
 ·simp[h]
 ·simp[h]
structure KiI (f:Nat->List fQ) (n:Nat) (w1:World) (x:Nat×Value) (w:World):Prop where
 i:x.1<=n
 own:Ow qK 1 w w1.heap.size 9 x.2 (f x.1)
 len:(f x.1).length<=x.1
 ext:Ext w1 w
theorem Fp (t:fY) (p:fQ) (i:Nat):(nE ⟨t.es.take i,t.ns⟩ p).length<=i:=by
 unfold nE;rw[jF];show(List.filter (λe:En=>decide (iL e.path=some p)) (t.es.take i)).length<=i
 have:=UX (λe:En=>decide (iL e.path=some p)) (t.es.take i);rw[kt]at this;omega
theorem NT (w:World) (ve vn:Value) (t:fY) (p:fQ) (V:Rw hI w ve t.es) (ab:t.es.length<=1000000):fL prog 109 #[.agg #[ve,vn],.string (su p)] w λr w'=>Ow qK 1 w' w.heap.size 9 r (nE t p)/\Ext w w':=by
 refine gK func109 fx fF ?_;obtain⟨A,c,rfl,Y,Z,M⟩:=V.op gj;refine fA ?_;refine hD fx (λa O s ad=>?_);have N:fU a w.heap.size 26 #[.slice A t.es.length c,vn]:=O;have k0:a.cell? ⟨w.heap.size,0,none⟩=some (.slice A t.es.length c):=N.cell 0;refine fA ?_;refine h9 (α:=Nat×Value) 0 fx (λx=>[(1,.string (su p)),(2,.pointer (some ⟨w.heap.size,0,none⟩)),(5,x.2),(6,.int .i64 (x.1:Int))]) (KiI (λi=>nE ⟨t.es.take i,t.ns⟩ p) t.es.length a) (λx=>t.es.length-x.1) ?_ ?_
 ·rintro⟨i,v⟩ D ⟨hi,d,hlen,f⟩;dsimp only at hi d hlen f⊢;have m0:D.cell? ⟨w.heap.size,0,none⟩=some (.slice A t.es.length c):=f.cell k0
  by_cases fW:i<t.es.length
  ·obtain⟨b,o,e,rfl,_,he,_,S⟩:=M.at_ fW;have q0:D.cell? ⟨b,o+i*2+0,none⟩=some (.string (su e.path)):=f.cell (s.cell (S 0 _ rfl));have I:=Oe (p:=p) he;refine zF ?_;refine fG fx fx (lM D e.path) (λr E K=>?_);obtain⟨rfl,y⟩:=K;have n:Ext a E:=f.t y
   have none_:iL e.path≠some p->Ow qK 1 E a.heap.size 9 v (nE ⟨t.es.take (i+1),t.ns⟩ p):=λh=>by
    rw[I,if_neg h,nk];exact d.ext y
   cases m:iL e.path with
   |none=>
    have C:=none_ (by rw[m];exact λh=>by cases h);refine fA ?_;exact y30
   | some u=>
    have hu:vv e.path=u:=by rw[vv,m];rfl
    rw[hu]
    by_cases g:u=p
    ·repeat' (first|refine gq (op:= .eql) (r:=true) rfl rfl (by simp[hZ,g]) ?_|refine fT ?_|fail)
     refine fG fx fx (Mr E e.path) (λr W L=>?_);obtain⟨rfl,G⟩:=L;have F:Ext a W:=n.t G;refine fA ?_;refine Ia kF fx fx fV fV (λu hu=>by rw[kl.1 hu];rfl) (λag Q B ae=>?_);refine jI (news:=qK (mO e.path)) kF fx fV fx (gD.ext d (y.t (G.t B))) fx (gS Q fV fx) fx (λu hu=>by rw[kl.1 hu];rfl) (by unfold maxLen;omega) fy (by have:=F.size;have:=B.size;omega) (λJ X T R af=>?_)
     have U:Ow qK 1 X a.heap.size 9 J (nE ⟨t.es.take (i+1),t.ns⟩ p):=by
      rw[I,if_pos (by rw[m,g])];exact Ow.ext1 (l':=[mO e.path]) (by simpa using T)
     refine fA ?_;exact gX fx ⟨_,(by show t.es.length-(i+1)<t.es.length-i;omega),rfl,(i+1,J),sub ⟨rfl,rfl,rfl,rfl⟩,⟨by dsimp only;omega,U,Fp _ _ _,Ext.te (F.t B) R λj aa e=>by have:=(d.gH e).1;omega⟩,rfl⟩
    ·have C:=none_ (by rw[m];exact λh=>g (jk h))
     repeat' (first|refine gq (op:= .eql) (r:=false) rfl rfl (by simp[hZ,g]) ?_|refine fT ?_|fail)
     exact y30
  ·obtain rfl:i=t.es.length:=fy;rw[km]at d;refine fA ?_;exact fB fx fx ⟨d.mono s.size,s.t f⟩
 ·intro H;refine fA ?_;refine hv ?_;exact ic (H (0,.slice none 0 0) a ⟨iy _,by rw[rk];exact Ow.nil _ _ _,by rw[rk];exact gJ _,Fr.refl _ _⟩) (sub ⟨rfl,rfl,rfl,rfl⟩)
def E3 (es:List En) (k:Int):List fQ:=(es.filter λe=>decide (e.node=k)).map (·.path)
theorem Qx {es:List En} {k:Int} {i:Nat} {e:En} (he:es[i]? =some e):E3 (es.take (i+1)) k=E3 (es.take i) k++(if e.node=k then[e.path]else[]):=by
 unfold E3;rw[kO,he,xN,Ox,pE]
 by_cases h:e.node=k
 ·simp[h]
 ·simp[h]
theorem KA (es:List En) (k:Int) (i:Nat):(E3 (es.take i) k).length<=i:=by
 unfold E3;rw[jF];have:=UX (λe:En=>decide (e.node=k)) (es.take i);rw[kt]at this;omega
theorem IE (w:World) (ve vn:Value) (t:fY) (p:fQ) (F:Rw hI w ve t.es) (V:t.es.length<=1000000):fL prog 110 #[.agg #[ve,vn],.string (su p)] w λr w'=>Ow qK 1 w' w.heap.size 9 r (tJ t p)/\Ext w w':=by
 refine gK func110 fx fF ?_;have G:=F;obtain⟨A,c,rfl,R,S,J⟩:=F.op gj;unfold tJ;refine fA ?_;refine hD fx (λn K d W=>?_);have B:fU n w.heap.size 26 #[.slice A t.es.length c,vn]:=K;refine fA ?_;cases E:fR t.es p with
 |none=>
  refine iX ?_;refine fA ?_;refine gM (t:=26) B fx fx ?_;refine fA ?_;refine fG fx fx (ka n _ _ t.es p (G.ext d)) (λr m y=>?_);obtain⟨rfl,a⟩:=y;rw[E];refine fA ?_;exact fB fx fx ⟨Ow.nil _ _ _,d.t a⟩
 |some k=>
 dsimp only;show T prog _ (λr w'=>Ow qK 1 w' w.heap.size 9 r (E3 t.es k)/\Ext w w') _ _ _
 refine h9 (α:=Nat×Value) 0 fx (λx=>[(2,.pointer (some ⟨w.heap.size,0,none⟩)),(5,.int .i64 k),(7,x.2),(8,.int .i64 (x.1:Int))]) (KiI (λi=>E3 (t.es.take i) k) t.es.length n) (λx=>t.es.length-x.1) ?_ ?_
 ·rintro⟨i,v⟩ m ⟨hi,f,hlen,a⟩;dsimp only at hi f hlen a⊢;have m0:m.cell? ⟨w.heap.size,0,none⟩=some (.slice A t.es.length c):=(B.ext a).cell 0
  by_cases fW:i<t.es.length
  ·obtain⟨b,o,e,rfl,_,he,_,D⟩:=J.at_ fW;have q0:m.cell? ⟨b,o+i*2+0,none⟩=some (.string (su e.path)):=a.cell (d.cell (D 0 _ rfl));have q1:m.cell? ⟨b,o+i*2+1,none⟩=some (.int .i64 e.node):=a.cell (d.cell (D 1 _ rfl));have s:=Qx (k:=k) he
   by_cases g:e.node=k
   ·rw[if_pos g]at s;refine zF ?_;refine Ia kF fx fx fV fV (λu hu=>by rw[kl.1 hu];rfl) (λZ L C X=>?_);refine jI (news:=qK e.path) kF fx fV fx (gD.ext f C) fx (gS L fV fx) fx (λu hu=>by rw[kl.1 hu];rfl) (by unfold maxLen;omega) fy (by have:=a.size;have:=C.size;omega) (λI Q N M Y=>?_)
    have O:Ow qK 1 Q n.heap.size 9 I (E3 (t.es.take (i+1)) k):=by
     rw[s];exact Ow.ext1 (l':=[e.path]) (by simpa using N)
    refine fA ?_;exact gX fx ⟨_,(by show t.es.length-(i+1)<t.es.length-i;omega),rfl,(i+1,I),sub ⟨rfl,rfl,rfl,rfl⟩,⟨by dsimp only;omega,O,KA _ _ _,Ext.te (a.t C) M λj U e=>by have:=(f.gH e).1;omega⟩,rfl⟩
   ·rw[if_neg g,nk]at s;refine zF ?_;exact gX fx ⟨_,(by show t.es.length-(i+1)<t.es.length-i;omega),rfl,(i+1,v),sub ⟨rfl,rfl,rfl,rfl⟩,⟨by dsimp only;omega,by dsimp only;rw[s];exact f,KA _ _ _,a⟩,rfl⟩
  ·obtain rfl:i=t.es.length:=fy;rw[km]at f;refine fA ?_;exact fB fx fx ⟨f.mono d.size,d.t a⟩
 ·intro H;refine fA ?_;refine gM (t:=26) B fx fx ?_;refine fA ?_;refine fG fx fx (ka n _ _ t.es p (G.ext d)) (λr m y=>?_);obtain⟨rfl,a⟩:=y;rw[E];refine fA ?_;refine hv ?_;exact ic (H (0,.slice none 0 0) m ⟨iy _,by rw[rk];exact Ow.nil _ _ _,by rw[rk];exact gJ _,a⟩) (sub ⟨rfl,rfl,rfl,rfl⟩)
end
end Go.Proofs.YtecaahegomdbbaaGreatDoor.gp
