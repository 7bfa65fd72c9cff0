/- Parts of the proof. -/
import Derived.Test.YtecaahegomdbbaaGreatDoorRfB11
set_option linter.all false
set_option maxRecDepth 100000
set_option maxHeartbeats 64000000
namespace Go.Proofs.YtecaahegomdbbaaGreatDoor.gp
open Go.Proofs.Tryz
open Go.RowKit
section
theorem aac (q:Int):0<=(pM q).calls/\(pM q).calls<=1000000:=by show(0:Int)<=0/\(0:Int)<=1000000;decide
attribute [local irreducible] xs T
theorem Ba (aW:MkD) (av:QT) (w:World) (v:Value) (zs:List Int) (aY:qZ w v zs) (aR:Dp w):fL prog 4 #[v] w λr w'=>r= .bool true/\Ext w w':=by
 refine gr func4 fx fF ?_;have aP:∀{a b c:World} {g:Nat},Ext a b->Fr (· =g) b c->a.heap.size<=g->Ext a c:=λh1 aG a7=>h1.trans aG λj aa e=>absurd aa fy
 refine fA ?_;refine fI fx fx (aW w v zs aY) (λr H h1=>?_);obtain⟨ve,vn,fK,rfl,O,aL⟩:=h1;have x:=Ek (zs.map uN);have aX:=Sz.CS (zs.map uN);have hlen:=D2 (zs.map uN);obtain⟨t,ht⟩:∃t,t=Oi (zs.map uN):=⟨_,rfl⟩;rw[←ht]at O x aX hlen;clear ht;have aT:=O;have a8:=Jr x;obtain⟨A,c,rfl,_,_,_⟩:=O.e.op gj;obtain⟨N,d,rfl,_,_,_⟩:=O.n.op gI;refine fA ?_;refine gy (z:= .agg #[.slice none 0 0,.slice none 0 0]) fF (λbh aI aM a9=>?_);refine fA ?_;refine hd aI fx fx fF fx (fJ (l:=[.slice A t.es.length c,.slice N fK.length d]) fx) (λad U aO=>?_);have ak:Ext H ad:=aP aM aO (gJ _);have aj:=aL.t ak;have Q:=aT.ext ak;have z3:H.heap.size<ad.heap.size:=U.lt;have ld:∀w',fU w' H.heap.size 26 #[.slice A t.es.length c,.slice N fK.length d]->∀j u,[Value.slice A t.es.length c,.slice N fK.length d][j]? =some u->w'.cell? ⟨H.heap.size,0+j,none⟩=some u:=λw' h j u hu=>by rw[iC,h.cell,pB];exact hu
 refine fA ?_;refine gM (t:=26) U fx fx ?_;refine fA ?_;refine fI fx fx (Hf ad _ _ fK t Q (JO x).1 fy) ?_;rintro r T ⟨rfl,D⟩;have aJ:=fU.ext U D;have z4:=D.size;obtain⟨n,R⟩:∃n,n=gd t.ns:=⟨_,rfl⟩;rw[←R];refine fA ?_;refine fI fx fx (AG T (.slice none 0 0) (n:Int) [] (Rw.nil _ _ fV) fV) ?_;rintro r y ⟨K,s⟩;rw[QZ fy]at s;rcases s with⟨s,_⟩|⟨_,g,vf,aC,aF,ax,rfl,Z⟩
 ·exact absurd fx s
 have Z:nC y T.heap.size g (pM n) vf aC aF ax jH:=Z;have aq:=(Q.ext D).ext K;have aV:=Fr.drew hG y;have F:Ext y y.drew:=aV;have V:=(aJ.ext K).ext F;have M:=Z.ext F;obtain⟨p1,p2,a1,az,aA,_⟩:=GR x (Rp n) fy (by rw[←R];exact Q0 _);refine fA ?_;refine kZ [17,24] (λw'=>fU w' H.heap.size 26 #[.slice A t.es.length c,.slice N fK.length d]) fF (by decide+kernel) V ?_;refine fA ?_;refine wZ (cs:=[.slice A t.es.length c,.slice N fK.length d]) fx fF ld ?_;refine fA ?_
 refine fI fx fx (tv y.drew T.heap.size g (pM n) vf aC aF _ _ ax fK jH t M (hy nU) (aq.ext F) (λb m=>uY (Q.J1 m) z4) x (aac _)) ?_ (λr w' h=>by
  obtain⟨_,_,_,_,h⟩:=h
  exact V.fr h.f (M.not (uY z3 z4)))
 rintro r a4 ⟨rfl,bc,bf,ay,G⟩;have X:=G.low M;have ag:=V.fr G.f (M.not (uY z3 z4));have ar:=(aq.ext F).A4 X λb m=>KV.2 (uY (Q.J1 m) z4)
 rw[p1];rw[p2]at G;obtain⟨ae,ap⟩:∃S,S=(n9 (pM n) jH t).2.2:=⟨_,rfl⟩;rw[←ap]at G a1 az aA;clear ap;have an:=G.o;refine fA ?_;refine fI fx fx (Cm a4 g _ vf _ _ ay ae t an.i az) ?_ (λr w' h=>by obtain⟨_,_,_,_,_,h⟩:=h;exact ag.ext h);rintro r a5 ⟨bd,bg,a0,rfl,aU,E⟩;have ah:=ag.ext E;refine fA ?_;refine wZ (cs:=[.slice A t.es.length c,.slice N fK.length d]) fx fF ld ?_;refine fA ?_;refine fI fx fx (As a5 _ _ _ _ a0 fK t t aU.v (ar.ext E)) ?_ (λr w' h=>ah.ext h.2);rintro r a6 ⟨rfl,L⟩;rw[FD];have ai:=ah.ext L;have aQ:=(an.ext E).ext L;refine fA ?_;refine fI fx fx (Dc a6 g _ vf _ _ ay ae aQ.i) ?_ (λr w' h=>ai.ext h.2);rintro r C ⟨rfl,W⟩;rw[aA,←R];have aK:=ai.ext W;have au:=((ar.ext E).ext L).ext W;have al:=(E.t L).t W;have I:Ext w C:=(((aj.t D).t K).t F).trans (X.te al) λj aa m=>by have:T.heap.size<=j:=m;have:=(aj.t D).size;omega
 have z59:=(X.te al).size;have bi:y.drew.heap.size=y.heap.size:=rfl;have z5:=K.size;have ao:=aR.ext I
 by_cases aZ:n=0
 ·subst aZ;refine fA ?_;refine fI fx fx (av C ao) ?_;rintro r ab ⟨rfl,B⟩;refine fA ?_;exact fB fx fx ⟨rfl,I.t B⟩
 refine fA ?_;refine fI fx fx (AG C (.slice none 0 0) ((n:Int)-1) [] (Rw.nil _ _ fV) fV) ?_;rintro r ab ⟨B,s⟩;rw[QZ fy]at s;rcases s with⟨s,_⟩|⟨_,af,aD,aB,aE,aw,rfl,Y⟩
 ·exact absurd fx s
 have Y:nC ab C.heap.size af (pM ((n:Int)-1)) aD aB aE aw jH:=Y;refine fA ?_;refine fI fx fx (av ab (ao.ext B)) ?_;rintro r a2 ⟨rfl,J⟩;have am:=Y.ext J;have aH:=(aK.ext B).ext J;refine fA ?_;refine gM (t:=26) aH fx fx ?_;refine fA ?_;refine fI fx fx (tv a2 C.heap.size af (pM ((n:Int)-1)) aD aB aE _ _ aw fK jH t am (hy nU) ((au.ext B).ext J) (λb m=>au.J1 m) x (aac _)) ?_;rintro r a3 ⟨rfl,bb,be,ba,aS⟩;rw[OX x (hy nU) (Rp _) (by show 1+t.es.length<=100;omega) (yH x) (by show((0:Nat):Int)<=(n:Int)-1;omega) (by rw[oT,iC,←R];show(n:Int)-1<n;omega)];have aN:Ext w a3:=((I.t B).t J).trans (aS.low am) λj aa m=>by have:C.heap.size<=j:=m;have:=I.size;omega
 refine fA ?_;exact fB fx fx ⟨rfl,aN⟩
end
end Go.Proofs.YtecaahegomdbbaaGreatDoor.gp
