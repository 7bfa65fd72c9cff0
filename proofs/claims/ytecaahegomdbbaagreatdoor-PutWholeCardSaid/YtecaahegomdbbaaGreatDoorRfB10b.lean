/- Parts of the proof. -/
import Derived.Test.YtecaahegomdbbaaGreatDoorRfB10a
set_option linter.all false
set_option maxRecDepth 100000
set_option maxHeartbeats 64000000
namespace Go.Proofs.YtecaahegomdbbaaGreatDoor.gp
open Go.Proofs.Tryz
open Go.RowKit
variable {i:Nat} {p:fQ} {t:fY}
section
def Sw (l:List hJ):Nat->Int
 |0=>0
 |j+1=>gO (l.getD j default)
theorem FH (l:List hJ):Sw l l.length=mz l:=by
 unfold mz;rcases Cs l with rfl|⟨r,x,rfl⟩
 ·rfl
 ·rw[Da,hQ,List.getLast?_append];show gO ((r++[x]).getD (r.length) default)=_
  simp
theorem Pf (p:fQ) (j:Nat):Gq p (j+1)=Gq p j++[⟨3,p,[],(j:Int)⟩]:=by
 grind [Gq,List.range_succ]
theorem Ky (p:fQ) (j:Nat):(Gq p j).length=j:=by unfold Gq;simp
structure MdS where
 j:Nat
 v:Value
 a:Nat
 b:Nat
structure MdI (w:World) (B:Nat) (l:List om) (e:En) (y:gG) (x:MdS) (w':World):Prop where
 j:x.j<=y.n.data.length
 s:Oo B w (l++⟨2,e.path,[],0⟩::Gq e.path x.j) x.v w'
 a:fU w' x.a 49 (hI e).toArray
 b:fU w' x.b 37 (gz y).toArray
attribute [local irreducible] xs T
theorem Na (w:World) (B S i:Nat) (ve vn v:Value) (fK:List gG) (t:fY) (l:List om) (N:nj w ve vn fK t) (W:∀b,RW ve vn fK t b->b<B) (aV:gQ t=true) (a3:fU w S 3 (tj t 0)) (hO:Ow mV 4 w B 83 v l) (bj:B<=w.heap.size) (bv:l.length<=900000) (hi:i<t.es.length):
  fL prog 66 #[v,.agg #[ve,vn],.slice (some ⟨S,0,none⟩) t.ns.length t.ns.length,.int .i64 (i:Int)] w (Oo B w (l++nI t i)):=by
 refine wS func66 fx fF ?_;have aq:=(hy aV).f.g;have hlen:=N.len;have aB:=N;obtain⟨A,c,rfl,bo,bq,al⟩:=N.e.op gj;obtain⟨bg,aj,rfl,bp,br,aJ⟩:=N.n.op gI;obtain⟨b,o,e,rfl,bk,he,_,aX⟩:=al.at_ hi;have aw:=jS he;obtain⟨h1,ak⟩:=aq.inr e aw;obtain⟨k,hk⟩:=lO h1;have sX:k<fK.length:=fy;obtain⟨b',o',y,rfl,bl,ba,_,aY⟩:=aJ.at_ sX;have aD:nodeAt t e.node=y.n:=by unfold nodeAt;rw[hk];exact N.getD ba
 have a6:fH y.n=true:=by rw[←aD];exact aq.node e aw
 have bA:=N.i y fS;have a2:gY t i=e:=h8 he;have bm:b<B:=W b (.inl ⟨fy,rfl⟩);have bn:b'<B:=W b' (.inr (.inl ⟨fy,rfl⟩));obtain⟨f1,f2,f3,f4⟩:=iE he;have ax:gx t.es e.node<t.es.length:=fy;obtain⟨_,_,eF,aI,_,aT,_,aS⟩:=al.at_ ax;cases aI;have a0:eF=gY t (gx t.es e.node):=by rw[f2]at aT;exact fS
 refine fA ?_;refine hD fx (λE aK ao bw=>?_);have ae:fU E w.heap.size 26 #[.slice (some ⟨b,o,none⟩) t.es.length c,.slice (some ⟨b',o',none⟩) fK.length aj]:=aK;have q0:E.cell? ⟨w.heap.size,0,none⟩=some (.slice (some ⟨b,o,none⟩) t.es.length c):=ae.cell 0
 have a7:nI t i=if y.n.kind=1 then[⟨1,e.path,[],0⟩]else if gx t.es e.node<i then[⟨5,e.path,eF.path,0⟩]else⟨2,e.path,[],0⟩::n3 e.path y.n:=by
  unfold nI;rw[a2,aD,←a0]
 rw[a7];have fin:∀{K m:World} {s:om} {v3:Value},qC 83 B w K->Ow mV 4 m B 83 v3 (l++[s])->qC 83 B K m->Oo B w (l++[s]) v3 m:=λh1 ak aH=>⟨ak,h1.t aH⟩
 refine fA ?_;refine h9 (α:=MdS) 0 fx (λx=>[(0,x.v),(9,.pointer (some ⟨x.a,0,none⟩)),(10,.pointer (some ⟨x.b,0,none⟩)),(11,.int .i64 (Sw y.n.data x.j)),(12,.int .i64 (x.j:Int))]) (λx w'=>y.n.kind=2/\¬y.n.kind=1/\¬gx t.es e.node<i/\MdI w B l e y x w') (λx=>y.n.data.length-x.j) ?_ ?_
 ·rintro⟨j,v1,a,ab⟩ K ⟨M,J,I,aU⟩;obtain⟨a5,⟨U,Q⟩,af,V⟩:=aU;dsimp only at a5 U af V⊢;rw[if_neg J,if_neg I];have z2:=Q.size;have a8:=Q.tr aB W;have bb:=a8.i y fS;obtain⟨D,d,ai,bs,bt,aN⟩:=bb.d.op ha;obtain⟨g1,g2,g3,g4,g5,g6⟩:=(kB y.n).1 (jc a6 M);have q8:K.cell? ⟨ab,8,none⟩=some (.slice D y.n.data.length d):=by rw[V.cell,←ai];rfl
  have q9:K.cell? ⟨a,0,none⟩=some (.string (su e.path)):=af.cell 0
  have ay:(l++(⟨2,e.path,[],0⟩::Gq e.path j)).length<=1000000:=by
   rw[hQ,iA,Ky];omega
  by_cases fW:j<y.n.data.length
  ·obtain⟨R,od,pc,rfl,_,az,_,bu⟩:=aN.at_ fW;obtain⟨_,p1,p2⟩:=g6 pc fS;unfold gO at p2
   have a1:Sw y.n.data (j+1)=pc.pos+(pc.data.length:Int):=by
    show gO (y.n.data.getD j default)=_
    rw[kv,az];rfl
   refine fA ?_;refine Cr ⟨3,e.path,[],(j:Int)⟩ (vs:=[(0,.int .i64 3),(1,.string (su e.path)),(3,.int .i64 (j:Int))]) fx fF U ay fy fx fx fx (λv3 m ar G=>?_);have aW:=G.gH af fV;have au:=G.gH V fV;have ap:=Q.t G
   have av:∀aE u,(j5 pc)[aE]? =some u->m.cell? ⟨R,od+j*2+aE,none⟩=some u:=by
    have a9:=ap.tr aB W;obtain⟨bh,bi,aC,_,_,aO⟩:=(a9.i y fS).d.op ha;rw[ai]at aC;injection aC with aF _ _
    subst aF;obtain⟨_,_,bC,aG,_,aA,_,aZ⟩:=aO.at_ fW;cases aG;rw[az]at aA;obtain rfl:=jk aA;exact aZ
   have r8:m.drew.cell? ⟨ab,8,none⟩=some (.slice (some ⟨R,od,none⟩) y.n.data.length d):=by show m.cell? _=_;rw[au.cell,←ai];rfl
   have r0:m.drew.cell? ⟨R,od+j*2+0,none⟩=some (.int .i64 pc.pos):=av 0 _ rfl;have r1:m.drew.cell? ⟨R,od+j*2+1,none⟩=some (.string (su pc.data)):=av 1 _ rfl
   repeat' (first|refine gF j (od+j*2) rfl rfl rfl rfl rfl fW ?_|refine iH rfl rfl ?_|refine fT ?_|fail)
   exact gX fx ⟨_,fS,rfl,⟨j+1,v3,a,ab⟩,sub ⟨rfl,rfl,rfl,jX (by rw[a1]),rfl⟩,⟨M,J,I,fW,⟨by dsimp only;rw[Pf,←qp,←j7];exact ar,(ap.te (Fr.drew hG m))⟩,aW,au⟩,rfl⟩
  ·obtain rfl:j=y.n.data.length:=fy;have q7:K.cell? ⟨ab,7,none⟩=some (.int .i64 y.n.size):=V.cell 7
   have a4:n3 e.path y.n=Gq e.path y.n.data.length++if y.n.size=Sw y.n.data y.n.data.length then[]else[⟨4,e.path,[],0⟩]:=by
    unfold n3;rw[if_pos M,FH]
   rw[a4,FH]
   by_cases hs:y.n.size=mz y.n.data
   ·rw[if_pos hs,nk];refine fA ?_;exact fB fx fx ⟨U,Q⟩
   ·rw[if_neg hs];refine fA ?_;refine Cr ⟨4,e.path,[],0⟩ (vs:=[(0,.int .i64 4),(1,.string (su e.path))]) fx fF U ay fy fx fx fx (λv3 m ar G=>?_);refine fA ?_;exact fB fx fx ⟨by grind,Q.t G⟩
 ·intro H;have q1:∀w',Ext E w'->w'.cell? ⟨w.heap.size,1,none⟩=some (.slice (some ⟨b',o',none⟩) fK.length aj):=λw' h=>(ae.ext h).cell 1
  repeat' (first|refine gF i (o+i*2) rfl rfl rfl rfl rfl hi ?_|refine fT ?_|fail)
  refine hL (cs:=hI e) fx fF (λj u hu=>ao.cell (aX j u hu)) ?_;refine gy (z:= .agg #[.string ⟨#[]⟩,.int .i64 0]) fF (λK aL aP bx=>?_);refine hd aL fx fx fF fx (fJ (l:=hI e) fx) (λm am G=>?_);have Z:Ext E m:=aP.trans G fS;have an:Ext w m:=ao.t Z;have m1:=q1 m Z;have m2:m.cell? ⟨E.heap.size,1,none⟩=some (.int .i64 (k:Int)):=by rw[←hk];exact am.cell 1
  refine Uw ?_;refine hL (cs:=gz y) fx fF (λj u hu=>an.cell (aY j u hu)) ?_;refine gy (z:= .agg tP) fF (λbD aM aQ bz=>?_);refine hd aM fx fx fF fx (by grind [fJ,gz,List.all_eq_true,iN]) (λC Y aR=>?_);have aa:Ext m C:=aQ.trans aR fS;have O:Ext w C:=an.t aa;have z5:=O.size;have ad:=hO.ext O;have T:qC 83 B w C:=qC.ext O;have ag:fU C E.heap.size 49 (hI e).toArray:=am.ext aa;have bB:C.cell? ⟨m.heap.size,0,none⟩=some (.int .i64 y.n.kind):=Y.cell 0;have n1:C.cell? ⟨E.heap.size,0,none⟩=some (.string (su e.path)):=ag.cell 0;have bc:C.cell? ⟨E.heap.size,1,none⟩=some (.int .i64 (k:Int)):=by rw[←hk];exact ag.cell 1
  have bd:C.cell? ⟨S,0+k,none⟩=some (.int .i64 ((gx t.es e.node:Nat):Int)):=by rw[(a3.ext O).cell,iC];exact(by grind [Gz])
  have be:C.cell? ⟨w.heap.size,0,none⟩=some (.slice (some ⟨b,o,none⟩) t.es.length c):=(ae.ext (Z.t aa)).cell 0;have bf:C.cell? ⟨b,o+gx t.es e.node*2+0,none⟩=some (.string (su eF.path)):=O.cell (aS 0 _ rfl);have ah:l.length<=1000000:=fy
  by_cases J:y.n.kind=1
  ·rw[if_pos J];refine fA ?_;refine Cr ⟨1,e.path,[],0⟩ (vs:=[(0,.int .i64 1),(1,.string (su e.path))]) fx fF ad ah fy fx fx fx (λv6 X L F=>?_);refine fA ?_;exact fB fx fx (fin T L F)
  ·rw[if_neg J]
   by_cases I:gx t.es e.node<i
   ·rw[if_pos I];have d1:C.drew.cell? ⟨E.heap.size,0,none⟩=some (.string (su e.path)):=n1;have d2:C.drew.cell? ⟨E.heap.size,1,none⟩=some (.int .i64 (k:Int)):=bc;have d3:C.drew.cell? ⟨S,0+k,none⟩=some (.int .i64 ((gx t.es e.node:Nat):Int)):=bd;have d4:C.drew.cell? ⟨w.heap.size,0,none⟩=some (.slice (some ⟨b,o,none⟩) t.es.length c):=be;have d5:C.drew.cell? ⟨b,o+gx t.es e.node*2+0,none⟩=some (.string (su eF.path)):=bf
    repeat' (first|refine pj rfl rfl rfl fy ?_|refine gF (gx t.es e.node) (o+gx t.es e.node*2) rfl rfl rfl rfl rfl ax ?_|refine fT ?_|fail)
    refine Cr ⟨5,e.path,eF.path,0⟩ (vs:=[(0,.int .i64 5),(1,.string (su e.path)),(2,.string (su eF.path))]) fx fF (ad.ext (Fr.drew hG C)) ah (by show B<=C.heap.size;omega) fx fx fx (λv6 X L F=>?_);refine fA ?_;exact fB fx fx (fin (T.te (Fr.drew hG C)) L F)
   ·rw[if_neg I]
    repeat' (first|refine pj rfl rfl rfl fy ?_|refine fT ?_|fail)
    refine Cr ⟨2,e.path,[],0⟩ (vs:=[(0,.int .i64 2),(1,.string (su e.path))]) fx fF ad ah fy fx fx fx (λv6 X L F=>?_);have n6:X.cell? ⟨m.heap.size,0,none⟩=some (.int .i64 y.n.kind):=(F.gH Y fV).cell 0
    by_cases M:y.n.kind=2
    ·refine fA ?_;refine hv ?_;rw[if_neg J,if_neg I]at H;exact ic (H ⟨0,v6,E.heap.size,m.heap.size⟩ X ⟨M,J,I,⟨iy _,⟨L,T.t F⟩,F.gH ag fV,F.gH Y fV⟩⟩) (sub ⟨rfl,rfl,rfl,rfl,rfl⟩)
    ·have:n3 e.path y.n=[]:=by unfold n3;rw[if_neg M]
     rw[this];refine fA ?_;exact fB fx fx (fin T L F)
end
section
theorem si (f:Nat->List om) (k:Nat):(List.range (k+1)).flatMap f=(List.range k).flatMap f++f k:=by
 rw[sV,tO,Cw]
theorem ug (t:fY):∀k,(uw t k).length<=5*k
 |0=>gJ _
 |k+1=>by
  have:=ug t k;unfold uw at this⊢;rw[si,hQ]
  grind [NF,ny]
theorem uC (t:fY) (d:Nat):∀k,(qI t d k).length<=5*k
 |0=>gJ _
 |k+1=>by
  have:=uC t d k;unfold qI at this⊢;rw[si,hQ]
  grind [NP,ny]
theorem vV (t:fY):∀d,(l8 t d).length<=5*t.es.length*(d+1)
 |0=>by grind [l8,uC,List.length]
 |d+1=>by
  have h1:=uC t (d+1) t.es.length;have a:=vV t d
  grind [l8,List.length_append,Nat.mul_succ]
attribute [local irreducible] xs T
theorem GG (w:World) (B d:Nat) (ve vn v:Value) (fK:List gG) (t:fY) (l:List om) (C:nj w ve vn fK t) (T:∀b,RW ve vn fK t b->b<B) (ad:gQ t=true) (al:fU w d 3 (tj t 0)) (hO:Ow mV 4 w B 83 v l) (ar:B<=w.heap.size) (aB:l.length<=800000):
  fL prog 67 #[v,.agg #[ve,vn],.slice (some ⟨d,0,none⟩) t.ns.length t.ns.length] w (Oo B w (l++uw t t.es.length)):=by
 refine kz func67 fx fF ?_;have O:=(hy ad).f.g;have hlen:=C.len;have ap:=O.len;obtain⟨A,c,rfl,ax,az,V⟩:=C.e.op gj;obtain⟨U,L,rfl,ay,aA,W⟩:=C.n.op gI;refine fA ?_;refine hD fx (λK X N aD=>?_);have af:fU K w.heap.size 26 #[.slice A t.es.length c,.slice U fK.length L]:=X;refine fA ?_;refine h9 (α:=Nat×Value) 0 fx (λx=>[(0,x.2),(2,.slice (some ⟨d,0,none⟩) t.ns.length t.ns.length),(4,.pointer (some ⟨w.heap.size,0,none⟩)),(7,.int .i64 (x.1:Int))]) (λx w'=>x.1<=t.es.length/\Oo B K (l++uw t x.1) x.2 w') (λx=>t.es.length-x.1) ?_ ?_
 ·rintro⟨i,v1⟩ D ⟨hi,I,G⟩;dsimp only at hi I⊢;have s:=(qC.ext N).t G;have z2:=s.size;have Q:=G.gH af fV;have m0:D.cell? ⟨w.heap.size,0,none⟩=some (.slice A t.es.length c):=Q.cell 0
  by_cases fW:i<t.es.length
  ·obtain⟨b,o,e,rfl,av,he,_,ai⟩:=V.at_ fW;have ak:=jS he;obtain⟨h1,aq⟩:=O.inr e ak;obtain⟨k,hk⟩:=lO h1;have sX:k<fK.length:=fy;obtain⟨b',o',y,rfl,aw,an,_,aj⟩:=W.at_ sX;have ao:nodeAt t e.node=y.n:=by unfold nodeAt;rw[hk];exact C.getD an
   have ag:b<B:=T b (.inl ⟨fy,rfl⟩);have ah:b'<B:=T b' (.inr (.inl ⟨fy,rfl⟩))
   have J:uw t (i+1)=uw t i++if y.n.kind≠1/\gx t.es e.node=i then ny e.path else[]:=by
    unfold uw;rw[si];unfold NF;rw[h8 he,ao]
   have aC:=ug t i;have am:(l++uw t i).length<=900000:=by rw[hQ];omega
   refine zF ?_;refine hL (cs:=hI e) fx fF (λj u hu=>s.cell (ai j u hu) ag) ?_;refine gy (z:= .agg #[.string ⟨#[]⟩,.int .i64 0]) fF (λaF Y Z aE=>?_);refine hd Y fx fx fF fx (fJ (l:=hI e) fx) (λa M aa=>?_);have m:Ext D a:=Z.trans aa fS;have F:=G.te m;have E:=s.te m;have m1:a.cell? ⟨w.heap.size,1,none⟩=some (.slice (some ⟨b',o',none⟩) fK.length L):=(Q.ext m).cell 1;have m2:a.cell? ⟨D.heap.size,0,none⟩=some (.string (su e.path)):=M.cell 0;have m3:a.cell? ⟨D.heap.size,1,none⟩=some (.int .i64 (k:Int)):=by rw[←hk];exact M.cell 1
   have m4:a.cell? ⟨b',o'+k*12+0,none⟩=some (.int .i64 y.n.kind):=E.cell (aj 0 _ rfl) ah;have m5:a.cell? ⟨d,0+k,none⟩=some (.int .i64 ((gx t.es e.node:Nat):Int)):=by rw[(E.gH al fV).cell,iC];exact(by grind [Gz])
   have ae:=I.ext m;have z4:=E.size
   by_cases S:y.n.kind=1
   ·rw[if_neg (λh=>h.1 S),nk]at J;refine Uw ?_;exact gX fx ⟨_,fS,rfl,(i+1,v1),sub ⟨rfl,rfl,rfl,rfl⟩,⟨fW,⟨by grind,F⟩⟩,rfl⟩
   ·by_cases R:gx t.es e.node=i
    ·rw[if_pos ⟨S,R⟩]at J
     repeat' (first|refine gF k (o'+k*12) rfl rfl rfl rfl rfl sX ?_|refine pj rfl rfl rfl fy ?_|refine fT ?_|fail)
     refine fI fx fx (ze a B _ _ e.path ae fy am) ?_;rintro r aG ⟨au,ab⟩;refine fA ?_;exact gX fx ⟨_,fS,rfl,(i+1,r),sub ⟨rfl,rfl,rfl,rfl⟩,⟨fW,⟨by grind,F.t ab⟩⟩,rfl⟩
    ·rw[if_neg (λh=>R h.2),nk]at J
     repeat' (first|refine gF k (o'+k*12) rfl rfl rfl rfl rfl sX ?_|refine pj rfl rfl rfl fy ?_|refine fT ?_|fail)
     exact gX fx ⟨_,fS,rfl,(i+1,v1),sub ⟨rfl,rfl,rfl,rfl⟩,⟨fW,⟨by grind,F⟩⟩,rfl⟩
  ·obtain rfl:i=t.es.length:=fy;refine fA ?_;exact fB fx fx ⟨I,s⟩
 ·intro H;refine fA ?_;refine hv ?_;exact ic (H (0,v) K ⟨iy _,by show Ow _ _ _ _ _ _ (l++[]);rw[nk];exact hO.ext N,qC.ext (Fr.refl _ _)⟩) (sub ⟨rfl,rfl,rfl,rfl⟩)
structure DiS where
 d:Nat
 i:Nat
 v:Value
 L:List om
theorem Nk (w:World) (B:Nat) (ve vn v:Value) (fK:List gG) (t:fY) (l:List om) (J:nj w ve vn fK t) (Z:∀b,RW ve vn fK t b->b<B) (am:gQ t=true) (hO:Ow mV 4 w B 83 v l) (aB:B<=w.heap.size) (aL:l.length<=800000):
  fL prog 68 #[v,.agg #[ve,vn]] w (Oo B w (l++l8 t 8)):=by
 refine gK func68 fx fF ?_;have M:=(hy am).f.g;have hlen:=J.len;have az:=M.len;obtain⟨A,c,rfl,aG,aI,af⟩:=J.e.op gj;obtain⟨ab,O,rfl,aH,aJ,ag⟩:=J.n.op gI
 have hbound:(l++l8 t 8).length<=850000:=by
  have:=vV t 8;rw[hQ];omega
 refine fA ?_;refine hD fx (λK ah R aM=>?_);have ap:fU K w.heap.size 26 #[.slice A t.es.length c,.slice ab fK.length O]:=ah;refine fA ?_
 refine vG (α:=DiS) (β:=DiS) 0 1 fV fx fx
  (λx=>[(0,x.v),(3,.pointer (some ⟨w.heap.size,0,none⟩)),(5,.int .i64 (x.d:Int))])
  (λx w'=>x.d<=8/\Oo B K x.L x.v w'/\x.L++l8 t x.d=l++l8 t 8) (λx=>x.d*1000+999)
  (λx=>[(0,x.v),(3,.pointer (some ⟨w.heap.size,0,none⟩)),(5,.int .i64 (x.d:Int)),(6,.int .i64 (x.i:Int))])
  (λx w'=>(x.d<=8/\x.i<=t.es.length)/\Oo B K (x.L++qI t x.d x.i) x.v w'/\x.L++l8 t x.d=l++l8 t 8) (λx=>x.d*1000+(t.es.length-x.i)) ?_ ?_ ?_
 ·rintro⟨d,i,v1,L⟩ s ⟨m,⟨D,C⟩,a⟩ I;dsimp only at m D a I⊢;refine fA ?_;refine hv ?_;exact ic (I ⟨d,0,v1,L⟩ s ⟨fS,⟨by show Ow _ _ _ _ _ _ (L++[]);grind,C⟩,a⟩ fS) (sub ⟨rfl,rfl,rfl,rfl⟩)
 ·rintro⟨d,i,v1,L⟩ s ⟨⟨m,hi⟩,⟨D,C⟩,a⟩ I;dsimp only at m hi D a I⊢;have H:=(qC.ext R).t C;have z2:=H.size;have V:=C.gH ap fV;have m0:s.cell? ⟨w.heap.size,0,none⟩=some (.slice A t.es.length c):=V.cell 0
  have aC:L.length<=850000:=by
   have:=congrArg List.length a;rw[hQ]at this;omega
  have aK:=uC t d i;have aw:(L++qI t d i).length<=900000:=by rw[hQ];omega
  by_cases fW:i<t.es.length
  ·obtain⟨b,o,e,rfl,aE,he,_,au⟩:=af.at_ fW;have X:=jS he;obtain⟨h1,aA⟩:=M.inr e X;obtain⟨k,hk⟩:=lO h1;have sX:k<fK.length:=fy;obtain⟨b',o',y,rfl,aF,ax,_,av⟩:=ag.at_ sX;have ay:nodeAt t e.node=y.n:=by unfold nodeAt;rw[hk];exact J.getD ax
   have aq:b<B:=Z b (.inl ⟨fy,rfl⟩);have ar:b'<B:=Z b' (.inr (.inl ⟨fy,rfl⟩))
   have N:qI t d (i+1)=qI t d i++if y.n.kind=1/\(fZ e.path).length=d then ny e.path else[]:=by
    unfold qI;rw[si];unfold NP;rw[h8 he,ay]
   refine zF ?_;refine hL (cs:=hI e) fx fF (λj u hu=>H.cell (au j u hu) aq) ?_;refine gy (z:= .agg #[.string ⟨#[]⟩,.int .i64 0]) fF (λaP ai aj aN=>?_);refine hd ai fx fx fF fx (fJ (l:=hI e) fx) (λE Q ak=>?_);have F:Ext s E:=aj.trans ak fS;have T:=C.te F;have S:=H.te F;have m1:E.cell? ⟨w.heap.size,1,none⟩=some (.slice (some ⟨b',o',none⟩) fK.length O):=(V.ext F).cell 1;have m2:E.cell? ⟨s.heap.size,0,none⟩=some (.string (su e.path)):=Q.cell 0;have m3:E.cell? ⟨s.heap.size,1,none⟩=some (.int .i64 (k:Int)):=by rw[←hk];exact Q.cell 1
   have m4:E.cell? ⟨b',o'+k*12+0,none⟩=some (.int .i64 y.n.kind):=S.cell (av 0 _ rfl) ar;have an:=D.ext F;have z4:=S.size
   by_cases Y:y.n.kind=1
   ·refine Uw ?_;refine fI fx fx (JE E e.path (M.path e X)) ?_;rintro r aa ⟨rfl,G⟩;have aO:aa.cell? ⟨s.heap.size,0,none⟩=some (.string (su e.path)):=G.cell m2;have ao:=an.ext G;have U:=T.te G;have z5:=G.size
    by_cases W:(fZ e.path).length=d
    ·rw[if_pos ⟨Y,W⟩]at N;refine fA ?_;refine fI fx fx (ze aa B _ _ e.path ao fy aw) ?_;rintro r aQ ⟨aD,al⟩;refine fA ?_;exact gX fx ⟨_,fS,.inr ⟨rfl,⟨d,i+1,r,L⟩,sub ⟨rfl,rfl,rfl,rfl⟩,⟨⟨m,fW⟩,⟨by grind,U.t al⟩,a⟩,rfl⟩⟩
    ·rw[if_neg (λh=>W h.2),nk]at N;refine fA ?_;exact gX fx ⟨_,fS,.inr ⟨rfl,⟨d,i+1,v1,L⟩,sub ⟨rfl,rfl,rfl,rfl⟩,⟨⟨m,fW⟩,⟨by grind,U⟩,a⟩,rfl⟩⟩
   ·rw[if_neg (λh=>Y h.1),nk]at N;refine Uw ?_;exact gX fx ⟨_,fS,.inr ⟨rfl,⟨d,i+1,v1,L⟩,sub ⟨rfl,rfl,rfl,rfl⟩,⟨⟨m,fW⟩,⟨by grind,T⟩,a⟩,rfl⟩⟩
  ·obtain rfl:i=t.es.length:=fy;rcases d with _|d
   ·refine fA ?_;exact fB fx fx ⟨by rw[←a];exact D,H⟩
   ·have ae:((d+1:Nat):Int)-1=(d:Int):=fy;refine fA ?_;exact gX fx ⟨_,fS,.inl ⟨rfl,⟨d,0,v1,L++qI t (d+1) t.es.length⟩,sub ⟨rfl,rfl,jX ae⟩,⟨Nat.le_of_succ_le m,⟨D,C⟩,by rw[j7];exact a⟩,rfl⟩⟩
 ·intro ad H1;refine fA ?_;refine hv ?_;exact ic (ad ⟨8,0,v,l⟩ K ⟨gJ _,⟨hO.ext R,qC.ext (Fr.refl _ _)⟩,rfl⟩) (sub ⟨rfl,rfl,rfl⟩)
end
section
def xM (t:fY) (p:fQ):Bool:=match fR t.es p with
 |some k=>decide ((nodeAt t k).kind=1)
 |none=>false
def xz (t:fY) (th:List fQ) (p:fQ):Bool:=decide (p∈th)&&xM t p
def RQ (t:fY) (th:List fQ) (i:Nat):List (fQ×Int):=((th.take i).filter (xM t)).map λp=>(p,1)
theorem DH (p:fQ):∀l:List fQ,IT p (l.map λq=>(q,(1:Int)))=if p∈l then some 1 else none
 |[]=>rfl
 |q::l=>by
  rw[jm,IT,DH p l]
  grind
theorem Uu (t:fY) (th:List fQ) (p:fQ):((IT p (RQ t th th.length)).getD 0=0)=(xz t th p=false):=by
 grind [RQ,xz,DH,List.take_length,xM]
theorem Uq {th:List fQ} (a:th.Nodup) (h:th[i]? =some p):IT p (RQ t th i)=none:=by
 grind [RQ,DH,List.getElem?_eq_some_iff,List.mem_take_iff_getElem,List.pairwise_iff_getElem]
theorem P9 {th:List fQ} (h:th[i]? =some p):RQ t th (i+1)=RQ t th i++if xM t p then[(p,1)]else[]:=by
 grind [RQ,List.take_add_one,Option.toList_some,xM]
theorem Mt (t:fY) (d:gQ t=true) (hi:i<t.es.length):(nI t i).length<=20:=by
 have m:fH (nodeAt t (gY t i).node)=true:=(hy d).f.g.node _ (by simp_all [jS,kp,h8]);unfold nI;split
 ·simp
 ·split
  ·simp
  ·unfold n3;split
   ·rename_i a;have:=((kB _).1 (jc m a)).2.2.1
    grind [List.length_cons,List.length_append,Ky]
   ·simp
theorem Ad (t:fY) (D:fQ->Bool) (h:1<=i):nH t D (i+1)=nH t D i++if D (gY t i).path then[]else nI t i:=by
 grind [nH,List.range_succ,List.flatMap_singleton]
theorem zU (t:fY) (D:fQ->Bool) (a:gQ t=true):∀k,k<=t.es.length->(nH t D k).length<=20*k
 |0,_=>gJ _
 |1,_=>iy _
 |k+2,h=>by
  have:=zU t D a (k+1) fy
  grind [Mt,Ad,List.length_append]
theorem qC.ms {e:TypeId} {B g:Nat} {w w':World} {l:List (fQ×Int)} (h:qC e B w w') (a:EO w g l):EO w' g l:=a.fr h λ⟨_,_,d⟩=>by
 obtain⟨es,clock,h1,_⟩:=a
 grind [fU]
theorem Xu {w w':World} (h:Fr (w.heap.size<=·) w w'):Ext w w':=(Fr.refl hG w).trans h fS
structure AlS where
 i:Nat
 v:Value
 g:Nat
attribute [local irreducible] xs T
theorem Nq (w:World) (ve vn H5:Value) (fK:List gG) (t:fY) (th:List fQ) (L:nj w ve vn fK t) (am:Rw qK w H5 th) (aI:th.Nodup) (u:gQ t=true):
  fL prog 31 #[.agg #[ve,vn],H5] w λr w'=>∃v,r= .tuple #[v,.int .i64 0]/\Ow mV 4 w' w.heap.size 83 v (pO t (xz t th))/\Ext w w':=by
 refine gK func31 fx fF ?_;have S:=(hy u).f.g;have F:=L;have hlen:=L.len;have aO:=S.len;have aK:t.ns.length<=1000000:=by have:=Jr u;omega
 have aL:tu t.ns:=(JO u).1;have M:∀b,RW ve vn fK t b->b<w.heap.size:=λb J=>L.J1 J
 have a4:∀b,R4 H5 th b->b<w.heap.size:=λb J=>am.J1 J
 obtain⟨A,c,rfl,aU,aW,ax⟩:=L.e.op gj;obtain⟨ag,ah,rfl,aV,aX,ay⟩:=L.n.op gI;obtain⟨ar,av,rfl,aZ,a0,hH⟩:=am.op oO
 have aP:1<=t.es.length:=by
  obtain⟨e,he,_⟩:=S.root;exact fS
 refine fA ?_;refine hD fx (λG az Q a2=>?_);have T:fU G w.heap.size 26 #[.slice A t.es.length c,.slice ag fK.length ah]:=az;refine fA ?_
 refine vG (α:=AlS) (β:=AlS×Nat) 0 1 fV fx fx
  (λx=>[(1,.slice ar th.length av),(2,.pointer (some ⟨w.heap.size,0,none⟩)),(6,.map (some x.g)),(7,.int .i64 (x.i:Int))])
  (λx w'=>(x.i<=th.length/\G.heap.size<=x.g)/\Ext G w'/\EO w' x.g (RQ t th x.i)) (λx=>1000+(th.length-x.i))
  (λx=>[(2,.pointer (some ⟨w.heap.size,0,none⟩)),(6,.map (some x.1.g)),(7,.int .i64 (x.1.i:Int)),(10,x.1.v),(11,.slice (some ⟨x.2,0,none⟩) t.ns.length t.ns.length)])
  (λx w'=>(1<=x.1.i/\x.1.i<=t.es.length)/\Oo w.heap.size G (nH t (xz t th) x.1.i) x.1.v w'/\EO w' x.1.g (RQ t th th.length)/\fU w' x.2 3 (tj t 0)) (λx=>t.es.length-x.1.i) ?_ ?_ ?_
 ·rintro⟨i,v1,gm⟩ a ⟨⟨hi,aG⟩,C,B⟩ V;dsimp only at hi aG B V⊢;have O:Ext w a:=Q.t C;have D:=T.ext C
  by_cases fW:i<th.length
  ·obtain⟨b,o,p,rfl,J,al,_,ad⟩:=hH.at_ fW
   have c0:w.cell? ⟨b,o+i,none⟩=some (.string (su p)):=by
    have:=ad 0 _ rfl;rwa[ph,kS]at this
   have m0:a.drew.cell? ⟨b,o+i,none⟩=some (.string (su p)):=O.cell c0;refine fA ?_;refine gM (t:=26) D.drew fx fx ?_;refine fA ?_;refine fI fx fx (ka a.drew _ _ t.es p (F.e.ext (O.t (Fr.drew hG a)))) ?_;rintro r m ⟨rfl,E⟩;have X:Ext a m:=(Fr.drew hG a).t E;have aa:=B.ext X;have H:=C.t X;have aA:Ext w m:=Q.t H;have m1:m.cell? ⟨w.heap.size,1,none⟩=some (.slice ag fK.length ah):=(T.ext H).cell 1;have m2:m.cell? ⟨b,o+i,none⟩=some (.string (su p)):=X.cell (O.cell c0);have aM:=P9 (t:=t) al;have aJ:=Uq (t:=t) aI al;have skip:xM t p=false->EO m gm (RQ t th (i+1)):=fS;cases U:fR t.es p with
   |none=>
    have ae:xM t p=false:=by unfold xM;rw[U]
    simp only[vt,D3];refine fA ?_;exact y25
   | some z=>
    obtain⟨d,aE,_,aF⟩:=hB U;obtain⟨h1,aw⟩:=S.inr d aE;rw[aF]at h1 aw;obtain⟨k,rfl⟩:=lO h1;have sX:k<fK.length:=fy;obtain⟨b',o',y,rfl,aS,aN,_,aD⟩:=ay.at_ sX;have ao:nodeAt t (k:Int)=y.n:=F.getD aN;have m4:m.cell? ⟨b',o'+k*12+0,none⟩=some (.int .i64 y.n.kind):=aA.cell (aD 0 _ rfl);simp only[tc,Bd]
    by_cases ak:y.n.kind=1
    ·have ae:xM t p=true:=by unfold xM;rw[U];dsimp only;rw[ao];exact decide_eq_true ak
     rw[ae,if_pos rfl]at aM;refine Uw ?_;refine abU underlying110 underlying9 aa aJ fx fx fx (λaq aR Z=>?_);have aQ:Ext G aq:=H.trans Z fS;refine fA ?_;exact y25
    ·have ae:xM t p=false:=by unfold xM;rw[U];dsimp only;rw[ao];exact decide_eq_false ak
     refine Uw ?_;exact y25
  ·obtain rfl:i=th.length:=fy;refine fA ?_;refine gM (t:=26) D fx fx ?_;refine fA ?_;refine fI fx fx (HT a _ _ fK t (F.ext O) S.inr fy aK) ?_;rintro r m ⟨g,rfl,s,aY,E⟩;have H:=C.t E;refine fA ?_;refine hv ?_;exact ic (V (⟨1,.slice none 0 0,gm⟩,g) m ⟨fS,⟨Ow.nil _ _ _,qC.ext H⟩,B.ext E,s⟩ fy) (sub ⟨rfl,rfl,rfl,rfl,rfl⟩)
 ·rintro⟨⟨i,v1,gm⟩,N⟩ a ⟨⟨aj,hi⟩,⟨ab,I⟩,B,K⟩ V;dsimp only at aj hi ab I B K V⊢;have R:=(qC.ext Q).t I;have z2:=R.size;have D:=I.gH T fV;have an:=R.tr F M;have m0:a.cell? ⟨w.heap.size,0,none⟩=some (.slice A t.es.length c):=D.cell 0;have aT:=zU t (xz t th) u i hi
  by_cases fW:i<t.es.length
  ·obtain⟨b,o,e,rfl,J,he,_,ad⟩:=ax.at_ fW;have aC:b<w.heap.size:=fy;have q0:a.cell? ⟨b,o+i*2+0,none⟩=some (.string (su e.path)):=R.cell (ad 0 _ rfl) aC;have af:=Ad t (xz t th) aj;rw[h8 he]at af;have aH:=Uu t th e.path;refine zF ?_;refine aev underlying110 underlying9 (λ_=>rfl) B fx fx ?_
   by_cases ap:(IT e.path (RQ t th th.length)).getD 0=0
   ·have W:xz t th e.path=false:=by rw[←aH];exact ap
    rw[ap];rw[W,if_neg fV]at af;refine fA ?_;refine gM (t:=26) D fx fx ?_;refine fA ?_;refine fI fx fx (Na a w.heap.size N i _ _ _ fK t _ an M u K ab fy fy fW) ?_;rintro r m ⟨ai,s⟩;refine fA ?_;exact gX fx ⟨_,fS,.inr ⟨rfl,(⟨i+1,r,gm⟩,N),sub ⟨rfl,rfl,rfl,rfl,rfl⟩,⟨fS,⟨by grind,I.t s⟩,s.ms B,s.gH K fV⟩,rfl⟩⟩
   ·have W:xz t th e.path=true:=by
     cases h:xz t th e.path
     ·grind
     ·rfl
    rw[W,if_pos rfl,nk]at af;refine fA ?_;exact gX fx ⟨_,fS,.inr ⟨rfl,(⟨i+1,v1,gm⟩,N),sub ⟨rfl,rfl,rfl,rfl,rfl⟩,⟨fS,⟨by grind,I⟩,B,K⟩,rfl⟩⟩
  ·obtain rfl:i=t.es.length:=fy;refine fA ?_;refine gM (t:=26) D fx fx ?_;refine fA ?_;refine fI fx fx (GG a w.heap.size N _ _ _ fK t _ an M u K ab fy fy) ?_;rintro r m ⟨ai,s⟩;have Y:=R.t s;have z3:=Y.size;have a1:=ug t t.es.length;refine fA ?_;refine gM (t:=26) (s.gH D fV) fx fx ?_;refine fA ?_;refine fI fx fx (Nk m w.heap.size _ _ _ fK t _ (Y.tr F M) M u ai fy fS) ?_;rintro r aq ⟨aB,Z⟩;refine fA ?_;exact ia fx fx fx ⟨_,rfl,aB,Xu ((Y.t Z).mono λ_ _ h=>h.1)⟩
 ·intro au H1;refine fA ?_;refine gM (t:=26) T fx fx ?_;refine fA ?_;refine fI fx fx (sg G _ _ fK t (F.ext Q) aL) ?_;rintro r a ⟨rfl,C⟩;rw[u];refine fA ?_;refine adh (λm aa E a3=>?_);refine fA ?_;refine hv ?_;exact ic (au ⟨0,.slice none 0 0,a.heap.size⟩ m ⟨⟨iy _,C.size⟩,C.t E,aa⟩) (sub ⟨rfl,rfl,rfl,rfl⟩)
end
section
theorem M5 {m:gZ} {pos:Int} {s:fQ} (h:lU t) (hc:0<=(gi m).2.2.calls):lU (oZ m t p pos s):=by
 unfold oZ;split
 ·exact h
 ·exact An h hc λn a _=>⟨mA a _ _,nc _ _ _⟩
theorem RU {m:gZ} {z:Int} (h:lU t) (hc:0<=(gi m).2.2.calls):lU (sZ m t p z):=by
 unfold sZ;split
 ·exact h
 ·exact An h hc λn a _=>⟨yd a _,CX _ _⟩
theorem N1 {l:List xn} {n:Nd} (a:fH n=true) (hm:gT (sG l n)=true):fH (sG l n)=true/\(sG l n).kind=n.kind:=⟨mY a hm ⟨rfl,rfl,rfl,rfl,rfl,rfl⟩,rfl⟩
theorem Nn {l:List Ac} {n:Nd} (a:fH n=true) (hm:gT (tA l n)=true):fH (tA l n)=true/\(tA l n).kind=n.kind:=⟨mY a hm ⟨rfl,rfl,rfl,rfl,rfl,rfl⟩,rfl⟩
end
section
section
variable {hs:List Nat} {H:World->Prop} {full:Array Oper} {K:Env->World->Prop} {rest:List Oper} {env:Env} {w:World} {d:Tmp} {ty:TypeId} {pos:String} {af:Array Edge}
end
theorem Xc (w:World) (g:Nat) (m:gZ) (vf ve vn:Value) (h:fU w g 88 (H9 m vf ve vn)) (c:Int) (hc:m.calls=c):fL prog 11 #[.pointer (some ⟨g,0,none⟩)] w λr w'=>r= .int .i64 c/\w=w':=by
 subst hc;exact Aa w g m vf ve vn h
attribute [local irreducible] xs T
end
end Go.Proofs.YtecaahegomdbbaaGreatDoor.gp
