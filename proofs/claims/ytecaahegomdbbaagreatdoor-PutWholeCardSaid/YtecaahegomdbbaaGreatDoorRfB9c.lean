/- Parts of the proof. -/
import Derived.Test.YtecaahegomdbbaaGreatDoorRfB9b
import Derived.Test.YtecaahegomdbbaaGreatDoorRfKb
import Derived.Test.YtecaahegomdbbaaGreatDoorRfWp
import Derived.Test.YtecaahegomdbbaaGreatDoorRfWv
import Derived.Test.YtecaahegomdbbaaGreatDoorRfYc
set_option linter.all false
set_option maxRecDepth 100000
set_option maxHeartbeats 64000000
namespace Go.Proofs.YtecaahegomdbbaaGreatDoor.gp
open Go.Proofs.Tryz
open Go.RowKit
variable {g3:Nat} {n:Nd} {w w' w0:World} {t:fY} {m:wg}
section
open Wr
attribute [local irreducible] xs T
theorem Oy {p:hJ} {r:List hJ} {size:Int} (h0:0<=p.pos) (a:p.data≠[]) (h:p.pos<size):gW (p::r) 0 size=⟨p.pos,p.data.take (min (p.data.length:Int) (size-p.pos)).toNat⟩::gW r 0 size:=by
 have d:=tE.2 a;have he:gO p=p.pos+(p.data.length:Int):=rfl
 have e:mP 0 size p=some ⟨p.pos,p.data.take (min (p.data.length:Int) (size-p.pos)).toNat⟩:=by
  unfold mP;rw[if_pos fy,show max 0 p.pos=p.pos from by omega,show(p.pos-p.pos).toNat=0 from by omega,vU,show min size (gO p)-p.pos=min (p.data.length:Int) (size-p.pos)from by omega]
 unfold gW;rw[VP,e]
theorem zt {size:Int}:∀{l:List hJ},(∀p∈l,size<=p.pos)->gW l 0 size=[]
 |[],_=>rfl
 |p::r,h=>by
  have a:=h p ir;have e:mP 0 size p=none:=by unfold mP;rw[if_neg fy]
  unfold gW;rw[VP,e];exact zt λq hq=>h q (by simp[hq])
def YU (w:World) (x:gG) (size:Int) (r:Value) (w':World):Prop:=
 ∃x',r= .tuple #[.agg (gz x').toArray,.int .i64 (ki x.n size).2]/\x'.n=(ki x.n size).1/\ix w' x'/\((ki x.n size).2=0->qH w' w.heap.size x')/\Ext w w'
structure CuS (Wb:World) (g:Nat) (fin:Nd) (va vc:Value) (L:List hJ) (size:Int) (x:Nat×Value×List hJ) (w':World):Prop where
 i:x.1<=L.length
 b:fU w' g 37 (gz ⟨fin,va,vc,x.2.1⟩).toArray
 d:Ow j5 2 w' Wb.heap.size 39 x.2.1 x.2.2
 n:x.2.2.length<=x.1
 f:Fr (· =g) Wb w'
 m:gW L 0 size=x.2.2++gW (L.drop x.1) 0 size
theorem MJ (w:World) (x:gG) (size:Int) (O:ix w x) (bq:G0 x.n) (F:fE x.n.data<=1000000):fL prog 176 #[.agg (gz x).toArray,.int .i64 size] w (YU w x size):=by
 refine gK func176 fx fF ?_;unfold YU;refine fA ?_;refine hD fx (λK a9 aL bT=>?_);refine fA ?_;refine gy (z:= .agg tP) fF (λaC bi aq bW=>?_);have aG:fU aC w.heap.size 37 (gz x).toArray:=fU.ext a9 aq;have aK:Ext w aC:=aL.t aq;have b4:=aL.size;have z2:=aq.size;refine fA ?_;refine gM (t:=37) aG fx fx ?_;refine fA ?_;refine fG fx fx (wN aC x (O.ext aK) F) (λr al a7=>?_);obtain⟨rfl,ah⟩:=a7;have Z:=aG.ext ah;have ai:=fU.ext bi ah;have aa:=aK.t ah;have ak:=O.ext aa;have z3:=ah.size;have V:∀{w:World} {y:gG},ix w y->∀u∈gz y,u.oneCell'=true:=λh=>iN h
 by_cases bad:fH x.n=false∨x.n.kind≠2∨size<0∨1099511627776<size
 ·have hw:ki x.n size=(x.n,1):=by unfold ki;rw[if_pos bad]
  rw[hw]
  have af:(decide (x.n.kind=2)&&fH x.n)=false∨((decide (x.n.kind=2)&&fH x.n)=true/\(size<0∨1099511627776<size)):=by
   cases h1:fH x.n with
   |false=>left;simp
   | true=>
    by_cases Q:x.n.kind=2
    ·right;refine⟨by simp[Q],?_⟩;rcases bad with h|h|h
     ·rw[h1]at h;cases h
     ·exact absurd Q h
     ·exact h
    ·left;simp[Q]
  rcases af with af|⟨af,aw⟩
  ·rw[af];exact y3
  ·rw[af];rcases aw with aw|aw
   ·exact y3
   ·exact y3
 have a0:fH x.n=true:=by cases h:fH x.n with
  |true=>rfl
  |false=>exact absurd (.inl h) bad
 have aY:x.n.kind=2:=by
  by_cases h:x.n.kind=2
  ·exact h
  ·exact absurd (.inr (.inl h)) bad
 have bP:0<=size:=by
  by_cases h:0<=size
  ·exact h
  ·exact absurd (.inr (.inr (.inl fy))) bad
 have bQ:size<=1099511627776:=by
  by_cases h:size<=1099511627776
  ·exact h
  ·exact absurd (.inr (.inr (.inr fy))) bad
 rw[show(decide (x.n.kind=2)&&fH x.n)=true from by rw[aY,a0];rfl];have bA:jP x.n=true:=jc a0 aY;obtain⟨f1,f2,f3,f4,f5,f6⟩:=(kB x.n).1 bA;obtain⟨fin,U⟩:∃fin:Nd,fin={x.n with data:=gW x.n.data 0 size,size:=size}:=⟨_,rfl⟩;have bH:ki x.n size=(fin,0):=by unfold ki;rw[if_neg bad,U]
 rw[bH];refine fA ?_;refine gM (t:=37) Z fx fx ?_;refine fA ?_;refine fG fx fx (tn al x ak bq) (λr g a8=>?_);obtain⟨⟨n1,C,D,bI⟩,rfl,ad,a3,m⟩:=a8;dsimp only at a3;subst a3;have M:=Z.ext m;have bv:=ai.ext m;have bl:=aa.t m;have z4:=m.size;refine fA ?_;refine gy (z:= .agg tP) fF (λb2 bj aO bX=>?_);refine fA ?_;refine hd bj fx fx fF fx (fJ (l:=gz ⟨x.n,C,D,bI⟩) (lj.2 (V ad.in))) (λb3 bk aS=>?_);have z5:=aO.size;have b6:=aS.size;refine fA ?_;refine iq bk fx fx fF fx fx (λb0 ba bn=>?_);refine fA ?_;refine iq ba fx fx fF fx fx (λG bb bo=>?_);have aH:fU G g.heap.size 37 (gz ⟨fin,C,D,.slice none 0 0⟩).toArray:=by rw[U];exact bb
 have S:Ext g G:=aO.trans ((aS.t bn).t bo) λj N e=>by have:j=g.heap.size:=e;omega
 have aJ:=bl.t S;have bc:=M.ext S;have z12:=S.size;have bO:=aH.lt;obtain⟨L,aT⟩:∃L,L=x.n.data:=⟨_,rfl⟩;obtain⟨an,cL,ao,bw,bN,aF⟩:=(O.d.ext aJ).op ha;rw[←aT]at aF f3 f4 f5 f6 U bw ao;have k8:G.cell? ⟨w.heap.size,8,none⟩=some (.slice an L.length cL):=by rw[←ao];exact bc.cell 8
 have br:∀b o,an=some ⟨b,o,none⟩->0<L.length->b≠g.heap.size:=λb o e h0=>by
  obtain⟨bK,c0,e0,_,_,h1⟩:=O.d.op ha;rw[←aT]at e0 h1;rw[ao]at e0;injection e0 with a6
  obtain⟨bL,o1,X,Q,_⟩:=h1 h0;rw[←a6,e]at X;injection X with X
  injection X with X
  omega
 have bu:=bv.ext S;have aZ:∀b,b<g.heap.size->¬b=g.heap.size:=λb F e=>fy
 have aV:∀(v:Value) (w':World),Ow j5 2 w' G.heap.size 39 v (gW L 0 size)->Fr (· =g.heap.size) G w'->qH w' al.heap.size ⟨fin,C,D,v⟩:=λv w' hO T=>by
  refine⟨?_,?_,?_⟩
  ·have h:=(ad.a.ext S).fr T λb F=>aZ b (ad.a.gH F).2
   rw[U];exact h
  ·have h:=(ad.c.ext S).fr T λb F=>aZ b (ad.c.gH F).2
   rw[U];exact h
  ·rw[U];exact hO.mono fy
 have aX:∀(v:Value) (w' W:World),qH w' al.heap.size ⟨fin,C,D,v⟩->Fr (· =g.heap.size) G w'->Fr (· =K.heap.size) w' W->∃x',Value.tuple #[.agg (gz ⟨fin,C,D,v⟩).toArray,.int .i64 0]= .tuple #[.agg (gz x').toArray,.int .i64 0]/\x'.n=fin/\ix W x'/\((0:Int)=0->qH W w.heap.size x')/\Ext w W:=λv w' W hO T aR=>by
  have aU:qH W al.heap.size ⟨fin,C,D,v⟩:=hO.fr aR λb F e=>by have:=hO.f b F;have:b=K.heap.size:=e;omega
  exact⟨⟨fin,C,D,v⟩,rfl,rfl,aU.in,(λ_=>aU.mono fy),(aJ.trans T λj N e=>by have:j=g.heap.size:=e;omega).trans aR λj N e=>by have:j=K.heap.size:=e;omega⟩
 refine fA ?_;refine gA (α:=Nat×Value×List hJ) (λy=>[(1,.int .i64 size),(4,.pointer (some ⟨K.heap.size,0,none⟩)),(6,.pointer (some ⟨g.heap.size,0,none⟩)),(28,.slice an L.length cL),(29,.int .i64 (L.length:Int)),(30,.int .i64 (y.1:Int))]) (CuS G g.heap.size fin C D L size) (λy=>L.length-y.1) (0,.slice none 0 0,[]) (sub ⟨rfl,rfl,rfl,rfl,rfl,rfl⟩) ⟨iy _,aH,Ow.nil _ _ _,gJ _,Fr.refl _ _,rfl⟩ ?_;rintro⟨i,v,out⟩ E ⟨hi,Y,J,bC,I,aj⟩;dsimp only at hi Y J bC I aj⊢;have b5:=I.size;have aW:=bu.fr I (show ¬K.heap.size=g.heap.size by omega)
 by_cases fW:i<L.length
 ·obtain⟨aE,op,p,rfl,bM,a1,av,bx⟩:=aF.at_ (i:=i) fW;have ay:=f6 p (jS a1);have bS:=tE.2 ay.1;have bR:=nR (jS a1);have bG:∀k u,(j5 p)[k]? =some u->E.cell? ⟨aE,op+i*2+k,none⟩=some u:=λk u hu=>I.cell (bx k u hu) (br aE op rfl fy)
  repeat' (first|refine gF i (op+i*2) rfl rfl rfl rfl rfl fW ?_|refine fT ?_|fail)
  refine hL (cs:=j5 p) fx fx bG ?_;refine gy (z:= .agg #[.int .i64 0,.string ⟨#[]⟩]) fF (λb1 bd bm bU=>?_);refine hd (cs:=(j5 p).toArray) bd fx fx fx fx (uB p) (λH aI bp=>?_);have R:Ext E H:=Ext.te bm bp λj N e=>by have e':j=E.heap.size:=e;omega
  have q0:H.cell? ⟨E.heap.size,0,none⟩=some (.int .i64 p.pos):=aI.cell 0;have q1:H.cell? ⟨E.heap.size,1,none⟩=some (.string (su p.data)):=aI.cell 1
  by_cases bB:size<=p.pos
  ·have ax:out=gW L 0 size:=by
    rw[aj,zt (l:=L.drop i),nk];rw[av];have aA:=f5;unfold js at aA;rw[←lv i L,av]at aA;have Q:=jr.1 (j6.1 aA).2.1;intro r az;rcases hX.1 az with rfl|az
    ·exact bB
    ·have:=Q.1 r az;unfold gO at this;omega
   rw[ax]at J;have ae:=aV v H (J.ext R) (I.te R);refine fA ?_;refine gM (t:=37) (Y.ext R) fx fx ?_;refine fA ?_;refine hd (aW.ext R) fx fx fF fx (fJ (l:=gz ⟨fin,C,D,v⟩) (lj.2 (V ae.in))) (λaD ap ar=>?_);refine fA ?_;exact hP fx fx fx ap fF (aX v H aD ae (I.te R) ar)
  ·repeat' (first|refine iH rfl rfl ?_|refine FO ?_|fail)
   obtain⟨nl,bD⟩:∃nl:Nat,nl=(min (p.data.length:Int) (size-p.pos)).toNat:=⟨_,rfl⟩;have bE:nl<=p.data.length:=fy;rw[show min (p.data.length:Int) (size-p.pos)=(nl:Int)from by omega];obtain⟨s,a2⟩:∃s:hJ,s=⟨p.pos,p.data.take nl⟩:=⟨_,rfl⟩;have bz:=Fr.drew hG H;have aM:Ext E H.drew:=R.t bz;have aB:H.drew.cell? ⟨g.heap.size,8,none⟩=some v:=(Y.ext aM).cell 8;have bY:H.drew.cell? ⟨E.heap.size,0,none⟩=some (.int .i64 p.pos):=q0;have bZ:H.drew.cell? ⟨E.heap.size,1,none⟩=some (.string (su p.data)):=q1;refine wC 11 [47] (λw'=>w'.cell? ⟨g.heap.size,8,none⟩=some v) fF (by decide+kernel) aB ?_
   repeat' (first|refine B1 nl rfl rfl rfl rfl bE ?_|refine rO rfl rfl (λ_ h=>h) ?_|refine fT ?_|fail)
   refine qv (parts:=[(0,.tmp 49),(1,.tmp 53)]) (cells:=(j5 s).toArray) (vs:=[(0,.int .i64 s.pos),(1,.string (su s.data))]) (by rw[a2];rfl) fF ?_;refine fA ?_;refine nY kk fx fx fV fV (λbJ be aN bV=>?_) (λw' he=>he.cell aB);refine FQ ?_;have ag:Ext E bJ:=aM.t aN;refine jI (B:=G.heap.size) (news:=j5 s) kk fx fV fx (J.ext ag) fx (gS be fV fx) fx (λu hu=>lV [_] u (by simpa using hu)) (by unfold maxLen;omega) fy (by have:=ag.size;omega) (λv17 a4 bs aP _=>?_) (λw' T=>T.cell (aN.cell aB) λe=>by have:=(J.gH (b:=g.heap.size) e).1;omega);have au:Ow j5 2 a4 G.heap.size 39 v17 (out++[s]):=Ow.ext1 (l':=[s]) (by simpa using bs);obtain⟨am,rI,rfl,_,_⟩:=au.form;have bf:fU a4 g.heap.size 37 (gz ⟨fin,C,D,v⟩).toArray:=(Y.ext ag).fr aP λe=>by have:=(J.gH e).1;omega
   refine lC ?_;refine fA ?_;refine iq bf fx fx fF fx fx (λa5 bg aQ=>?_);have bh:fU a5 g.heap.size 37 (gz ⟨fin,C,D,.slice am (out++[s]).length rI⟩).toArray:=bg;have bt:Ow j5 2 a5 G.heap.size 39 (.slice am (out++[s]).length rI) (out++[s]):=au.fr aQ λb F e=>by have:=(au.gH F).1;have:b=g.heap.size:=e;omega
   refine fA ?_;exact gn ⟨(i+1,.slice am (out++[s]).length rI,out++[s]),sub ⟨rfl,rfl,rfl,rfl,rfl,rfl⟩,⟨fW,bh,bt,by simp only[hQ,Bx];omega,((I.te ag).trans aP λj N e=>by have:=(J.gH e).1;omega).t aQ,by rw[aj,av,Oy ay.2.1 ay.1 fy,←bD,←a2];simp⟩,(by show L.length-(i+1)<L.length-i;omega)⟩
 ·obtain rfl:i=L.length:=fy;have ax:out=gW L 0 size:=by rw[aj,jJ,zt (l:=[]) (λp bF=>by simp at bF),nk]
  rw[ax]at J;have ae:=aV v E J I;refine fA ?_;refine gM (t:=37) Y fx fx ?_;refine fA ?_;refine hd aW fx fx fF fx (fJ (l:=gz ⟨fin,C,D,v⟩) (lj.2 (V ae.in))) (λaD ap ar=>?_);refine fA ?_;exact hP fx fx fx ap fF (aX v E aD ae I ar)
end
section
def sG (l:List xn) (n:Nd):Nd:={n with attrs:=l}
def tA (l:List Ac) (n:Nd):Nd:={n with acl:=l}
theorem MU {l:List Ac} (h:(j4 l).1=0):j4 l=qm lk acLt 16 l/\(qm lk acLt 16 l).1=0:=by
 unfold j4 at*;split at h
 ·rename_i h1;exact absurd h h1
 ·rename_i h1;split at h
  ·cases h
  ·rename_i a;rw[if_neg h1,if_neg a];exact⟨rfl,h⟩
theorem Q7 {l:List xn} (h:(lW l).1=0):(lW l).2.length<=1000000:=by
 obtain⟨h1,a⟩:=Hw h;have:=h1.length_eq;unfold lW;omega
theorem Qa {l:List Ac} (h:(j4 l).1=0):(j4 l).2.length<=1000000:=by
 obtain⟨h0,h⟩:=MU h;obtain⟨h1,a⟩:=Hw h;have:=h1.length_eq;rw[h0];omega
attribute [local irreducible] xs T
theorem SG (w:World) (b d:Nat) (y:gG) (v:Value) (l:List xn) (f:fU w b 37 (gz y).toArray) (C:w.cell? ⟨d,0,none⟩=some v) (B:Rw jK w v l) (x:l.length<=100000):
  fL prog 178 #[.pointer (some ⟨b,0,none⟩),.pointer (some ⟨d,0,none⟩)] w λr w'=>∃a,r= .int .i64 (lW l).1/\fU w' b 37 (gz ⟨sG (lW l).2 y.n,a,y.vc,y.vd⟩).toArray/\Ow jK 2 w' w.heap.size 68 a (lW l).2/\Fr (· =b) w w':=by
 refine gK func178 fx fF ?_;refine fA ?_;refine fG fx fx (JI w v l B x) (λr F h1=>?_);exact y14
theorem Kb (w:World) (B g:Nat) (m:gZ) (vf ve vn:Value) (fK:List gG) (t:fY) (p:fQ) (v:Value) (l:List xn) (h:nC w B g m vf ve vn fK t) (hc:0<=m.calls/\m.calls<=4000000000000000000) (K:Rw jK w v l) (O:∀b,R4 v l b->b≠g) (f:l.length<=100000):
  fL prog 118 #[.pointer (some ⟨g,0,none⟩),.string (su p),v] w λr w'=>r= .int .i64 (nZ m t p (λ_=>(lW l).1) (sG (lW l).2))/\∃D,iS w B g vf ve vn fK w' (gi m).2.2 (nr m t p (λ_=>(lW l).1) (sG (lW l).2)) ve vn D:=by
 refine kz func118 fx fF ?_;have V:=h.i.k.lt;have S:=h.b;obtain⟨A,c,ev,T,U,_⟩:=K.op jN;refine fA ?_;refine hD fx (λE H x W=>?_);have k1:E.cell? ⟨w.heap.size,0,none⟩=some v:=by rw[ev]at H⊢;exact fU.cell H 0
 refine Bi ?_
 have N:EdC E B g 178 #[.pointer (some ⟨w.heap.size,0,none⟩)] (λ_=>(lW l).1) (sG (lW l).2):=λQ b y C I G hO=>by
  have z2:=C.size;refine fL.mono (SG Q b w.heap.size y v l G (C.cell k1 (show ¬w.heap.size=g by omega)) ((K.ext x).A4 C λb I e=>O b I e) f) λr R ⟨X,h1,L,F,u⟩=>⟨_,h1,λ_=>rfl,L,λ_=>?_,λb' a=>?_,u⟩
  ·have J:∀b',(y.va.ownBlock=some b'∨y.vc.ownBlock=some b'∨y.vd.ownBlock=some b')->¬b'=b:=λb' a=>hO.ne G fV fV fV a
   exact⟨F.mono fy,hO.c.fr u λb' a=>J b' (.inr (.inl a)),hO.d.fr u λb' a=>J b' (.inr (.inr a))⟩
  ·rcases a with a|a|a
   ·exact .inr (F.gH a).1
   ·exact .inl (.inr (.inl a))
   ·exact .inl (.inr (.inr a))
 refine fI fx fx (rS E B g m vf ve vn fK t p 178 #[.pointer (some ⟨w.heap.size,0,none⟩)] _ _ (h.ext x) hc fF N
  (λn f he=>⟨⟨Q7 he,(h.i.l n f).c,(h.i.l n f).d⟩,h.i.s n f⟩)) ?_
 rintro r R ⟨rfl,D,M⟩;refine fA ?_;exact fB fx fx ⟨rfl,D,(iS.ext h x).t M⟩
theorem Sc (w:World) (b d:Nat) (y:gG) (v:Value) (l:List Ac) (f:fU w b 37 (gz y).toArray) (C:w.cell? ⟨d,0,none⟩=some v) (B:Rw lh w v l) (x:l.length<=100000):
  fL prog 180 #[.pointer (some ⟨b,0,none⟩),.pointer (some ⟨d,0,none⟩)] w λr w'=>∃a,r= .int .i64 (j4 l).1/\fU w' b 37 (gz ⟨tA (j4 l).2 y.n,y.va,a,y.vd⟩).toArray/\Ow lh 3 w' w.heap.size 70 a (j4 l).2/\Fr (· =b) w w':=by
 refine gK func180 fx fF ?_;refine fA ?_;refine fG fx fx (J7 w v l B x) (λr F h1=>?_);exact y14
theorem Qh (w:World) (B g:Nat) (m:gZ) (vf ve vn:Value) (fK:List gG) (t:fY) (p:fQ) (v:Value) (l:List Ac) (h:nC w B g m vf ve vn fK t) (hc:0<=m.calls/\m.calls<=4000000000000000000) (L:Rw lh w v l) (Q:∀b,R4 v l b->b≠g) (u:l.length<=100000):
  fL prog 119 #[.pointer (some ⟨g,0,none⟩),.string (su p),v] w λr w'=>r= .int .i64 (nZ m t p (λ_=>(j4 l).1) (tA (j4 l).2))/\∃E,iS w B g vf ve vn fK w' (gi m).2.2 (nr m t p (λ_=>(j4 l).1) (tA (j4 l).2)) ve vn E:=by
 refine kz func119 fx fF ?_;have W:=h.i.k.lt;have T:=h.b;obtain⟨A,c,ev,U,V,_⟩:=L.op jZ;refine fA ?_;refine hD fx (λF I C X=>?_);have k1:F.cell? ⟨w.heap.size,0,none⟩=some v:=by rw[ev]at I⊢;exact fU.cell I 0
 refine Bi ?_
 have O:EdC F B g 180 #[.pointer (some ⟨w.heap.size,0,none⟩)] (λ_=>(j4 l).1) (tA (j4 l).2):=λR b y D J H hO=>by
  have z2:=D.size;refine fL.mono (Sc R b w.heap.size y v l H (D.cell k1 (show ¬w.heap.size=g by omega)) ((L.ext C).A4 D λb J e=>Q b J e) u) λr S ⟨Y,h1,M,G,x⟩=>⟨_,h1,λ_=>rfl,M,λ_=>?_,λb' f=>?_,x⟩
  ·have K:∀b',(y.va.ownBlock=some b'∨y.vc.ownBlock=some b'∨y.vd.ownBlock=some b')->¬b'=b:=λb' f=>hO.ne H fV fV fV f
   exact⟨hO.a.fr x λb' f=>K b' (.inl f),G.mono fy,hO.d.fr x λb' f=>K b' (.inr (.inr f))⟩
  ·rcases f with f|f|f
   ·exact .inl (.inl f)
   ·exact .inr (G.gH f).1
   ·exact .inl (.inr (.inr f))
 refine fI fx fx (rS F B g m vf ve vn fK t p 180 #[.pointer (some ⟨w.heap.size,0,none⟩)] _ _ (h.ext C) hc fF O
  (λn u he=>⟨⟨(h.i.l n u).a,Qa he,(h.i.l n u).d⟩,h.i.s n u⟩)) ?_
 rintro r S ⟨rfl,E,N⟩;refine fA ?_;exact fB fx fx ⟨rfl,E,(iS.ext h C).t N⟩
end
section
section
variable {hs:List Nat} {H:World->Prop} {full:Array Oper} {K:Env->World->Prop} {rest:List Oper} {env:Env} {w:World} {d:Tmp} {ty:TypeId} {pos:String} {af:Array Edge}
theorem My {size:Nat} {css:List (List Value)} (d:∀cs∈css,cs.length=size) (h0:0<size) (init:Array Value) (hi:init.size=css.length*size):Instr.fill (λi=>some (i*size,size)) init ((css.zipIdx 0).map λx=>(x.2,Value.agg x.1.toArray))=some css.flatten.toArray:=by
 obtain⟨r,g,C,hk⟩:=Great.fill_dense (s:=size) h0 (css.map λcs=>Value.agg cs.toArray) 0 init (λv y=>by
  obtain⟨cs,a,rfl⟩:=lN.1 y
  exact d cs a) (by rw[hi,jF];simp)
 have m:(((css.map λcs=>Value.agg cs.toArray).zipIdx 0).map λx=>(x.2,x.1))=((css.zipIdx 0).map λx=>(x.2,Value.agg x.1.toArray)):=by
  rw[List.zipIdx_map,sH];rfl
 rw[m]at g;rw[g]
 congr 1
 have u:∀(l:List (List Value)),(∀cs∈l,cs.length=size)->l.flatten.length=l.length*size:=by
  intro l
  induction l with
  |nil=>intro _;simp
  |cons x l f=>intro h;rw[List.flatten_cons,hQ,f (λcs a=>h cs (by simp[a])),h x ir,iA,qV];omega
 have w:∀(l:List (List Value)),(∀cs∈l,cs.length=size)->∀k,k<l.length*size->l.flatten[k]? =(l[k/size]?).bind λcs=>cs[k% size]? :=by
  intro l
  induction l with
  |nil=>intro _ k hk;simp at hk
  | cons x l f=>
   intro h k hk;have B:=h x ir;rw[List.flatten_cons]
   by_cases fW:k<size
   ·rw[pR fy,Ll fW,ud fW];rfl
   ·rw[iA,qV]at hk;rw[qE fy,B,f (λcs a=>h cs (by simp[a])) (k-size) fy]
    have n:k/size=(k-size)/size+1:=by
     rw[←Nat.add_div_right _ h0,U4 fy]
    have t:k% size=(k-size)% size:=by
     conv=>lhs;rw[←U4 (show size<=k by omega),Nat.add_mod_right]
    rw[n,t];rfl
 apply VE;intro k;rw[hk k,jF];simp only[td,iy,true_and,iC,Lc,pB]
 by_cases fW:k<css.length*size
 ·rw[if_pos fW,w css d k fW,qX];cases css[k/size]? with
  |none=>rfl
  |some cs=>simp[Value.cells]
 ·rw[if_neg fW,Ds fy,A6 (by rw[u css d];omega)]
def evz (env:Env):Nat->List (Nat×Operand)->Option (List (List Value))
 |_,[]=>some []
 |k,(j,x)::r=>match Nat.beq j k,gh env x,evz env (k+1) r with
  |true,some (.agg cs),some css=>some (cs.toList::css)
  |_,_,_=>none
theorem FY:∀{l:List (Nat×Operand)} {k:Nat} {css:List (List Value)},evz env k l=some css->(l.map λp=>(p.1,ev env p.2))=(css.zipIdx k).map (λx=>(x.2,Value.agg x.1.toArray))/\∀p∈l,(gh env p.2).isSome=true
 |[],k,css,h=>by injection h with h;subst h;exact⟨rfl,by simp⟩
 | (j,x)::r,k,css,h=>by
  simp only[evz]at h;split at h
  ·rename_i cs s f a n;injection h with h;subst h
   obtain⟨h1,d⟩:=FY n;have g:=jd f;subst g;refine⟨by simp[fM a,h1,F9],λp m=>(hX.1 m).elim (λe=>by rw[e,a];rfl) (d p)⟩
  ·cases h
theorem adq {t e:TypeId} {z:Value} {size bytes n:Nat} {parts:List (Nat×Operand)} {css:List (List Value)} (m:xv t e z size bytes) (a:evz env 0 parts=some css) (y:∀cs∈css,cs.length=size) (u:css.length=n) (h0:0<size) (h1:0<n) (G:n*size<=10000)
  (h:∀w',fU w' w.heap.size e css.flatten.toArray->Ext w w'->w'.heap.size=w.heap.size+1->xs prog fD fC hs H full K rest ((d,.slice (some ⟨w.heap.size,0,none⟩) n n)::env) w') (hH:∀w',Ext w w'->H w':=by intros;trivial):
  xs prog fD fC hs H full K (⟨some d,.buildSlice t n parts.toArray,ty,pos,af,none⟩::rest) env w:=by
 obtain⟨hu,i,hi,D,f,E⟩:=m;obtain⟨he,B⟩:=FY a;refine xw (by simp only[fX,Op.operands];rw[lj];intro x a;simp at a;obtain⟨j,s⟩:=a;exact B _ s) fx (v:= .slice (some ⟨w.heap.size,0,none⟩) n n) (w':=w.alloc (.cells css.flatten.toArray e)) ?_ (h _ (fU.new _ _ _) (Fr.alloc _ _ _) ir) (hH _ (Fr.alloc _ _ _));have F:n<=n*size:=RF n h0
 have C:=run_buildSlice (P:=prog) w t e n ((parts.map λp=>(p.1,ev env p.2)).toArray) css.flatten.toArray i z hu hi D (by rw[f];omega) (by rw[f];have:0<n*size:=Lr h1 h0;omega) (by
  rw[f];show Instr.fill _ _ (parts.map λp=>(p.1,ev env p.2))=_
  rw[he]
  exact My y h0 _ (by simp[u]))
 have g:(parts.toArray.map λx=>match x with|(i,x)=>(i,ev env x))=(parts.map λp=>(p.1,ev env p.2)).toArray:=by simp
 simp only[execOp];rw[g];simp[C]
end
attribute [local irreducible] xs T
def Vh (k:Nat):List Value:=[.int .i64 (k:Int)]
theorem TN (k:Nat):(Vh k).length=1:=rfl
theorem j2 (h:fH n=true):fE n.data<=4000/\n.target.length<=200:=by
 by_cases a:n.kind=2
 ·have d:=jc h a;have:=(kB n).1 d;refine⟨this.2.2.2.1,?_⟩;unfold fH at h;rw[a]at h;simp[jq]at h;rw[h.2.1.2];simp
 ·have key:n.data=[]/\n.target.length<=200:=by
   unfold fH at h;rw[if_neg a]at h;split at h
   ·simp[ib,jq]at h;exact⟨h.2.1.1.2,by rw[h.2.1.2];simp⟩
   ·split at h
    ·simp[ib]at h;exact⟨h.2.1.1.1.1.2,h.2.1.2⟩
    ·split at h
     ·simp[ib,jq]at h;exact⟨h.2.1.1.1.1.1.2,by rw[h.2.1.1.1.1.2];simp⟩
     ·simp at h
  rw[key.1];exact⟨by simp[fE],key.2⟩
structure MkW where
 i:Nat
 m:wg
 va:Value
 vf:Value
 ve:Value
 vn:Value
 nv:List gG
structure Xd (zs:List Int) (w0:World) (g3:Nat) (x:MkW) (w:World):Prop where
 ext:Ext w0 w
 i:x.i<=zs.length/\x.i<=25
 m:x.m=((zs.take x.i).map uN).foldl iw mD
 res:fU w w0.heap.size 26 #[.slice none 0 0,.slice none 0 0]
 xe:fU w g3 26 #[x.ve,x.vn]
 oe:Ow hI 2 w w0.heap.size 49 x.ve x.m.es
 on:Ow gz 12 w w0.heap.size 37 x.vn x.nv
 od:Ow qK 1 w w0.heap.size 9 x.va x.m.hx
 of:Ow Vh 1 w w0.heap.size 3 x.vf x.m.files
 nd:x.nv.map (·.n)=x.m.ns
 LO:∀y∈x.nv,NG w y
theorem Xd.ext' {zs:List Int} {x:MkW} (h:Xd zs w0 g3 x w) (a:Ext w w'):Xd zs w0 g3 x w':=
 ⟨h.ext.t a,h.i,h.m,h.res.ext a,h.xe.ext a,h.oe.ext a,h.on.ext a,h.od.ext a,h.of.ext a,h.nd,λy d=>(h.LO y d).ext a⟩
structure uu (w0:World) (g3:Nat) (m:wg) (va vf ve vn:Value) (nv:List gG) (w:World):Prop where
 ext:Ext w0 w
 res:fU w w0.heap.size 26 #[.slice none 0 0,.slice none 0 0]
 xe:fU w g3 26 #[ve,vn]
 oe:Ow hI 2 w w0.heap.size 49 ve m.es
 on:Ow gz 12 w w0.heap.size 37 vn nv
 od:Ow qK 1 w w0.heap.size 9 va m.hx
 of:Ow Vh 1 w w0.heap.size 3 vf m.files
 nd:nv.map (·.n)=m.ns
 LO:∀y∈nv,NG w y
theorem uu.ext' {va vf ve vn:Value} {nv:List gG} (h:uu w0 g3 m va vf ve vn nv w) (a:Ext w w'):uu w0 g3 m va vf ve vn nv w':=
 ⟨h.ext.t a,h.res.ext a,h.xe.ext a,h.oe.ext a,h.on.ext a,h.od.ext a,h.of.ext a,h.nd,λy d=>(h.LO y d).ext a⟩
theorem uu.node {g12:Nat} {va vf ve vn:Value} {nv:List gG} {cs:Array Value} (h:uu w0 g3 m va vf ve vn nv w) (g:fU w g12 37 cs) (h0:w0.heap.size<g12) (s:∀b,vn.ownBlock=some b->b<g12) (d:Fr (· =g12) w w'):uu w0 g3 m va vf ve vn nv w':=by
 have f:∀{b:Nat} {t:TypeId} {c:Array Value},fU w b t c->t≠37->¬b=g12:=λa ht e=>a.Br g ht e
 refine⟨h.ext.trans d λj n e=>absurd n fy,h.res.fr d (show ¬w0.heap.size=g12 by omega),h.xe.fr d (f h.xe fV),h.oe.fr d λb a=>?_,h.on.fr d λb a=>?_,h.od.fr d λb a=>?_,h.of.fr d λb a=>?_,h.nd,λy u=>(h.LO y u).fr d (qM.one g fV)⟩
 ·obtain⟨c,hc⟩:=h.oe.x3 a;exact f hc fV
 ·have:=s b a;show ¬b=g12;omega
 ·obtain⟨c,hc⟩:=h.od.x3 a;exact f hc fV
 ·obtain⟨c,hc⟩:=h.of.x3 a;exact f hc fV
structure EM (g12:Nat) (x:gG) (n:Nd) (w:World):Prop where
 gH:fU w g12 37 (gz x).toArray
 k:NG w x
 n:x.n=n
theorem EM.ext {g12:Nat} {x:gG} {n:Nd} {w w':World} (h:EM g12 x n w) (a:Ext w w'):EM g12 x n w':=⟨h.gH.ext a,h.k.ext a,h.n⟩
theorem oE {u:Nat} {p:fQ} (t:nG (m.hx.getD (u% m.hx.length) []) (j3.getD (u/7% 7) [])=some p) (s:(fR m.es p).isSome=false) {ds:List fQ} {fs:List Nat}
  (h:(u/3% 9<2/\n={mkNode u with kind:=1}/\ds=m.hx++[p]/\fs=m.files)∨(¬u/3% 9<2/\¬(u/3% 9=2/\0<m.files.length)/\ds=m.hx/\
   ((u/3% 9=3/\n={mkNode u with kind:=3,target:=[46,46,47]++p}/\fs=m.files)∨(u/3% 9≠3/\u/3% 9=4/\n={mkNode u with kind:=4,major:=(u% 300:Nat),minor:=(u/2% 300:Nat)}/\fs=m.files)∨
    (u/3% 9≠3/\u/3% 9≠4/\u/3% 9=5/\n={mkNode u with kind:=6}/\fs=m.files)∨(u/3% 9≠3/\u/3% 9≠4/\u/3% 9≠5/\n=n2 u p (mkNode u)/\fs=m.files++[m.ns.length])))):
  iw m u=⟨m.es++[⟨p,(m.ns.length:Int)⟩],m.ns++[n],ds,fs⟩:=by
 unfold iw;rw[t];dsimp only;rw[if_neg (by rw[s];decide)];rcases h with⟨h1,rfl,rfl,rfl⟩|⟨h1,g,rfl,h⟩
 ·rw[if_pos h1];rfl
 ·rw[if_neg h1,if_neg g];rcases h with⟨a,rfl,rfl⟩|⟨a,d,rfl,rfl⟩|⟨a,d,f,rfl,rfl⟩|⟨a,d,f,rfl,rfl⟩
  ·rw[if_pos a];rfl
  ·rw[if_neg a,if_pos d];rfl
  ·rw[if_neg a,if_neg d,if_pos f];rfl
  ·rw[if_neg a,if_neg d,if_neg f];rfl
end
section
attribute [local irreducible] xs T
def MkD:Prop:=∀(w:World) (v:Value) (zs:List Int),qZ w v zs->fL prog 7 #[v] w λr w'=>∃ve vn fK,r= .agg #[ve,vn]/\nj w' ve vn fK (Oi (zs.map uN))/\Ext w w'
theorem wo (h:gQ t=true):∀n∈t.ns,fH n=true:=by
 obtain⟨es,ns⟩:=t;unfold gQ at h;simp only[iO,decide_eq_true_eq]at h;have:=((jB ns es none 0 (iy _)).1 h.1.1.2).2.2.2.1;intro n d;obtain⟨i,hi,rfl⟩:=Bc d;have a:=this i (iy _) hi;rwa[kv,kp hi]at a
theorem BG (h:fH n=true):G0 n:=by
 have hm:gT n=true:=by
  unfold fH at h;rw[iO]at h;exact h.1
 unfold gT og at hm;simp only[iO,decide_eq_true_eq]at hm;refine⟨fy,by omega,?_⟩
 by_cases a:n.kind=2
 ·have:=(xZ (jc h a)).2.2.2.2;omega
 ·have d:=(j2 h).1
  have key:n.data=[]:=by
   unfold fH at h;rw[if_neg a]at h;split at h
   ·simp[ib,jq]at h;exact h.2.1.1.2
   ·split at h
    ·simp[ib]at h;exact h.2.1.1.1.1.2
    ·split at h
     ·simp[ib,jq]at h;exact h.2.1.1.1.1.1.2
     ·simp at h
  rw[key];exact iy _
theorem JO (h:gQ t=true):tu t.ns/\(∀n∈t.ns,G0 n)/\N0 t:=by
 have d:=wo h;have h1:tu t.ns:=λn a=>by have:=(j2 (d n a)).1;omega
 exact⟨h1,λn a=>BG (d n a),⟨h1,λn a=>by have:=(j2 (d n a)).2;omega,λe he=>by have:=lr (wz h e he);omega⟩⟩
theorem Jr (h:gQ t=true):t.ns.length<=t.es.length:=by
 rw[←BX h]
 have key:∀(l:List En) (u:Nat),kE u l<=u+l.length:=by
  intro l
  induction l with
  |nil=>intro u;exact gJ _
  |cons e l d=>
   intro u;rw[kE];have:=d (if e.node<u then u else u+1);rw[iA];split at this<;>rename_i a
   ·rw[if_pos a];omega
   ·rw[if_neg a];omega
 have:=key t.es 0;omega
theorem DF (h:gQ t=true):1<=t.es.length:=by
 unfold gQ at h;simp only[iO,decide_eq_true_eq]at h;exact h.1.1.1.1
end
end Go.Proofs.YtecaahegomdbbaaGreatDoor.gp
