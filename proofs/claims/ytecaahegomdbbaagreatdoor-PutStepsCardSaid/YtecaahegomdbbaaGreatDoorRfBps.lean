/- Parts of the proof. -/
import Derived.Test.YtecaahegomdbbaaGreatDoorRfB11
set_option linter.all false
set_option maxRecDepth 100000
set_option maxHeartbeats 64000000
namespace Go.Proofs.YtecaahegomdbbaaGreatDoor.gp
open Go.Proofs.Tryz
open Go.RowKit
section
theorem PY {n:Nd} (h:fH n=true):uR n=n.data.length+if n.kind=2/\n.size≠mz n.data then 1 else 0:=by
 unfold uR
 by_cases hk:n.kind=2
 ·rw[if_pos hk]
  by_cases hs:n.size=mz n.data
  ·rw[if_pos hs,if_neg (λa=>a.2 hs)]
  ·rw[if_neg hs,if_pos ⟨hk,hs⟩]
 ·rw[if_neg hk,if_neg (λa=>hk a.1),←(qh (c:=0) h hk).2.2.1];rfl
theorem RM {l:List hJ} {k:Nat} {p:hJ} (d:l.length=k+1) (a:l[k]? =some p):mz l=gO p:=by
 have:=Ai a;rwa[pG fy]at this
attribute [local irreducible] xs T
theorem Bq (bc:MkD) (bf:QT) (w:World) (v:Value) (zs:List Int) (bh:qZ w v zs) (a2:Dp w):fL prog 3 #[v] w λr w'=>r= .bool true/\Ext w w':=by
 refine gr func3 fx fF ?_;have aA:∀{a b c:World} {g:Nat},Ext a b->Fr (· =g) b c->a.heap.size<=g->Ext a c:=λh1 Y bv=>h1.trans Y λj aD e=>absurd aD fy
 refine fA ?_;refine fI fx fx (bc w v zs bh) (λr G h1=>?_);obtain⟨ve,vn,fK,rfl,U,aU⟩:=h1;have I:=Ek (zs.map uN);have bg:=Sz.CS (zs.map uN);have hlen:=D2 (zs.map uN);obtain⟨t,ht⟩:∃t,t=Oi (zs.map uN):=⟨_,rfl⟩;rw[←ht]at U I bg hlen;clear ht;have ai:=U;obtain⟨A,c,rfl,br,bs,bp⟩:=U.e.op gj;obtain⟨N,d,rfl,bt,bu,aR⟩:=U.n.op gI;have bd:=U.len;have bw:=Jr I;have bo:=DF I;refine fA ?_;refine gy (z:= .agg #[.slice none 0 0,.slice none 0 0]) fF (λbL aS aW bz=>?_);refine fA ?_;refine hd aS fx fx fF fx (fJ (l:=[.slice A t.es.length c,.slice N fK.length d]) fx) (λC an aY=>?_);have O:Ext G C:=aA aW aY (gJ _);have aq:=aU.t O;have aa:=ai.ext O;have z3:G.heap.size<C.heap.size:=an.lt;refine fA ?_;refine fI fx fx (AG C (.slice none 0 0) 200000 [] (Rw.nil _ _ fV) fV) ?_;rintro r ak ⟨Q,aj⟩;rcases aj with⟨aj,_⟩|⟨_,g,vf,aM,aN,aK,rfl,R⟩
 ·exact absurd fx aj
 have R:nC ak C.heap.size g (pM 200000) vf aM aN aK jH:=R;have ao:fU ak G.heap.size 26 #[.slice A t.es.length c,.slice N fK.length d]:=fU.ext an Q;refine fA ?_;refine gM (t:=26) ao fx fx ?_;refine fA ?_;refine fI fx fx (tv ak C.heap.size g (pM 200000) vf aM aN _ _ aK fK jH t R (hy nU) (aa.ext Q) (λb K=>aa.J1 K) I ⟨by decide,by decide⟩) ?_;rintro r V ⟨rfl,bH,bJ,bj,T⟩;obtain⟨p1,p2,bl,aL,_⟩:=GR I (Rp 200000) fy (by show(gd t.ns:Int)<=200000;omega);have ay:=T.low R;rw[p1];rw[p2]at T;obtain⟨aQ,aC⟩:∃S,S=(n9 (pM 200000) jH t).2.2:=⟨_,rfl⟩;rw[←aC]at T bl aL;clear aC;have a0:=T.o;have ad:fU V G.heap.size 26 #[.slice A t.es.length c,.slice N fK.length d]:=ao.fr T.f (R.not z3);have m0:V.cell? ⟨G.heap.size,0,none⟩=some (.slice A t.es.length c):=ad.cell 0;have m1:V.cell? ⟨G.heap.size,1,none⟩=some (.slice N fK.length d):=ad.cell 1;have bB:=WT I
 have be:∀i,mq (t.ns.take i)<=mq t.ns:=λi=>by
  have:=zK (t.ns.take i) (t.ns.drop i);rw[lv]at this;omega
 refine fA ?_;refine gA (α:=Nat) (λi=>[(3,.pointer (some ⟨G.heap.size,0,none⟩)),(4,.pointer (some ⟨g,0,none⟩)),(5,.int .i64 ((t.es.length-1:Nat):Int)),(6,.int .i64 ((t.es.length-1+5*t.ns.length+mq (t.ns.take i):Nat):Int)),(7,.int .i64 (i:Int))]) (λi w'=>i<=fK.length/\Ext V w') (λi=>fK.length-i) 0 (sub ⟨rfl,rfl,jX fy,jX (by rw[rk];show _=((_+0:Nat):Int);omega),rfl⟩) ⟨iy _,Fr.refl _ _⟩ ?_;rintro i B ⟨hi,Z⟩;have q1:=Z.cell m1
 by_cases fW:i<fK.length
 ·obtain⟨b,o,x,rfl,K,aG,_,a8⟩:=aR.at_ fW;have bi:=jS aG;have aJ:=ai.i x bi;have aI:=ai.get aG;have ab:=wo I x.n (jS aI);have aw:Fr (C.heap.size<=·) C B:=(Q.fr.t ay).te Z;have E:=wD aI;rw[PY ab]at E;have bx:=be (i+1);rcases x with⟨s,aO,aP,bM⟩
  obtain⟨D,X,aH,a6,a7,ap⟩:=aJ.d.op ha;dsimp only at E ab ap a6 a7 aH;subst aH;refine Xr ?_;refine hL (cs:=gz ⟨s,aO,aP,.slice D s.data.length X⟩) fx fF (λj u hu=>aw.cell (O.cell (a8 j u hu)) (show ¬C.heap.size<=b by omega)) ?_;refine gy (z:= .agg tP) fF (λal M J bA=>?_);refine hd M fx fx fF fx (fJ (l:=gz ⟨s,aO,aP,.slice D s.data.length X⟩) (lj.2 (iN aJ))) (λy af aZ=>?_);have av:Ext B y:=aA J aZ (gJ _);have au:=Z.t av;have k0:y.cell? ⟨B.heap.size,0,none⟩=some (.int .i64 s.kind):=af.cell 0;have k7:y.cell? ⟨B.heap.size,7,none⟩=some (.int .i64 s.size):=af.cell 7;have k8:y.cell? ⟨B.heap.size,8,none⟩=some (.slice D s.data.length X):=af.cell 8
  have H:(s.kind=2/\s.size=mz s.data/\mq (t.ns.take (i+1))=mq (t.ns.take i)+s.data.length)∨(s.kind=2/\s.size≠mz s.data/\mq (t.ns.take (i+1))=mq (t.ns.take i)+s.data.length+1)∨(s.kind≠2/\mq (t.ns.take (i+1))=mq (t.ns.take i)+s.data.length):=by
   by_cases hk:s.kind=2
   ·by_cases hs:s.size=mz s.data
    ·rw[if_neg (λh=>h.2 hs)]at E;exact .inl ⟨hk,hs,E⟩
    ·rw[if_pos ⟨hk,hs⟩]at E;exact .inr (.inl ⟨hk,hs,E⟩)
   ·rw[if_neg (λh=>hk h.1)]at E;exact .inr (.inr ⟨hk,E⟩)
  clear E
  have a5:∀(l:Nat) (p:hJ),s.data[l]? =some p->0<=p.pos/\gO p<=1099511627776:=λl p L=>by
   by_cases Y:s.kind=2
   ·have F:=EI ab Y;obtain⟨_,g1,g2⟩:=F.pc p (jS L);have:=F.s1;omega
   ·rw[←(qh (c:=0) ab Y).2.2.1]at L;cases L
  cases aE:s.data.length with
  | zero=>
   have hle:mz s.data=0:=by rw[zf aE];rfl
   rcases H with⟨hk,hs,H⟩|⟨hk,hs,H⟩|⟨hk,H⟩
   all_goals
    refine fA ?_;exact gn ⟨i+1,sub ⟨rfl,rfl,rfl,jX fy,jX fy⟩,⟨fW,au⟩,by show fK.length-(i+1)<fK.length-i;omega⟩
  | succ m=>
   obtain⟨W,od,p,rfl,bq,L,_,aF⟩:=ap.at_ (show m<s.data.length by omega);obtain⟨g1,g2⟩:=a5 m p L;have g3:gO p=p.pos+(p.data.length:Int):=rfl;have hle:=RM aE L;have ax:Fr (C.heap.size<=·) G y.drew:=(((O.fr).t aw).te av).te (Fr.drew hG y);have am:¬C.heap.size<=W:=by have:=O.size;omega
   have bE:y.drew.cell? ⟨B.heap.size,8,none⟩=some (.slice (some ⟨W,od,none⟩) s.data.length X):=k8;have bC:y.drew.cell? ⟨B.heap.size,0,none⟩=some (.int .i64 s.kind):=k0;have bD:y.drew.cell? ⟨B.heap.size,7,none⟩=some (.int .i64 s.size):=k7;have bF:y.drew.cell? ⟨W,od+m*2+0,none⟩=some (.int .i64 p.pos):=ax.cell (aF 0 _ rfl) am;have bG:y.drew.cell? ⟨W,od+m*2+1,none⟩=some (.string (su p.data)):=ax.cell (aF 1 _ rfl) am;rcases H with⟨hk,hs,H⟩|⟨hk,hs,H⟩|⟨hk,H⟩
   all_goals
    repeat' (first|refine gF m (od+m*2) rfl rfl rfl fy rfl fy ?_|refine iu rfl rfl ?_|refine iH rfl rfl ?_|refine fT ?_|fail)
    exact gn ⟨i+1,sub ⟨rfl,rfl,rfl,jX fy,jX fy⟩,⟨fW,au.t (Fr.drew hG y)⟩,by show fK.length-(i+1)<fK.length-i;omega⟩
 ·obtain rfl:i=fK.length:=fy;have ba:=Fr.drew hG B;have ag:Ext V B.drew:=Z.t ba;have ae:=ad.ext ag;have a1:=a0.ext ag;have az:=ay.te ag;have a3:=(aa.ext Q).A4 az λb K=>KV.2 (aa.J1 K)
  have ar:Ext w B.drew:=(aq.t Q).trans az λj aD K=>by have:C.heap.size<=j:=K;have:=aq.size;omega
  have bb:mq (t.ns.take fK.length)=mq t.ns:=by rw[bd,km]
  have a9:(sf (pM 200000) ((t.es.length-1)+((t.es.length-1)+mq t.ns+5*t.ns.length))).calls=(((t.es.length-1)+(t.es.length-1+5*t.ns.length+mq t.ns):Nat):Int):=by
   show 0+(((t.es.length-1)+((t.es.length-1)+mq t.ns+5*t.ns.length):Nat):Int)=_
   omega
  rw[bb];refine fA ?_;refine kZ [93] (λw'=>fU w' G.heap.size 26 #[.slice A t.es.length c,.slice N fK.length d]) fF (by decide+kernel) ae ?_;refine fA ?_;refine fI fx fx (bf B.drew (a2.ext ar)) ?_ (λr w' h=>ae.ext h.2);rintro r al ⟨rfl,J⟩;have M:=ae.ext J;have aB:=a1.ext J;refine fA ?_;refine fI fx fx (Xc al g _ vf _ _ aB.i.k _ a9) ?_ (λr w' h=>by rw[←h.2];exact M);rintro r y ⟨rfl,rfl⟩;refine fA ?_;refine fI fx fx (Cm al g _ vf _ _ bj aQ t aB.i aL) ?_ (λr w' h=>by obtain⟨_,_,_,_,_,h⟩:=h;exact M.ext h);rintro r bn ⟨bI,bK,bk,rfl,a4,ah⟩;have aT:=M.ext ah;refine fA ?_;refine wZ (cs:=[.slice A t.es.length c,.slice N fK.length d]) fx fF (λw' (h:fU w' _ _ _) j u hu=>by rw[iC,h.cell,pB];exact hu) ?_;refine fA ?_;refine fI fx fx (As bn _ _ _ _ bk fK t t a4.v ((a3.ext J).ext ah)) ?_ (λr w' h=>aT.ext h.2);rintro r bm ⟨rfl,aV⟩;rw[FD];have aX:Ext w bm:=((ar.t J).t ah).t aV;refine fA ?_;exact fB fx fx ⟨rfl,aX⟩
end
end Go.Proofs.YtecaahegomdbbaaGreatDoor.gp
