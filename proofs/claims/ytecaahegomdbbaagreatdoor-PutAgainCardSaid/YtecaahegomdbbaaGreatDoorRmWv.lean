/- Parts of the proof. -/
import Derived.Test.YtecaahegomdbbaaGreatDoorRmB4c
set_option linter.all false
set_option maxRecDepth 99999
set_option maxHeartbeats 0
namespace Go.Proofs.YtecaahegomdbbaaGreatDoor.gr
open Go.Proofs.Tryz
open Go.RowKit
def Fb (a b:fZ):Bool:=decide (a.es=b.es)&&decide (a.ns=b.ns)
def zV (w:i5) (ve vn Z aa:i6) (l l':ip gG) (a b:fZ) (G:mE w ve vn l a) (H:mE w Z aa l' b):fQ prog 12 #[.agg #[ve,vn],.agg #[Z,aa]] w λr w'=>r= .bool (Fb a b)/\Ext w w':=by
 refine gP func12 fx fE ?_;obtain⟨A,c,rfl,an,ap,af⟩:=G.e.op gi;obtain⟨ab,Q,rfl,ao,aq,ag⟩:=H.e.op gi;obtain⟨N,d,rfl,ar,av,aj⟩:=G.n.op gw;obtain⟨ad,R,rfl,au,aw,ak⟩:=H.n.op gw;have la:=G.len;have lb:=H.len;unfold Fb;refine fA ?_;refine hP fx (λE T ah ax=>?_);have i0:gc E w.heap.size 0 (.slice A a.es.length c):=fW.cell T 0;have i1:gc E w.heap.size 1 (.slice N l.length d):=fW.cell T 1;refine fA ?_;refine hP fx (λv U J ay=>?_);have k0:gc v w.heap.size 0 (.slice A a.es.length c):=J.cell i0;have k1:gc v w.heap.size 1 (.slice N l.length d):=J.cell i1;have k2:gc v E.heap.size 0 (.slice ab b.es.length Q):=fW.cell U 0;have k3:gc v E.heap.size 1 (.slice ad l'.length R):=fW.cell U 1;have F:Ext w v:=ah.t J
 by_cases h1:a.es.length=b.es.length
 case neg=>
  rw[decide_eq_false (p:=a.es=b.es) (λe=>h1 (by rw[e])),hW];refine fA ?_;exact fB fx fx ⟨rfl,F⟩
 by_cases S:l.length=l'.length
 case neg=>
  rw[decide_eq_false (p:=a.ns=b.ns) (λe=>S (by rw[la,lb,e])),tl];refine fA ?_;exact fB fx fx ⟨rfl,F⟩
 refine fA ?_;refine gC (α:=Nat) (λi=>[(2,.P w.heap.size),(3,.P E.heap.size),(5,.I (i:Int))]) (λi w'=>Ext v w'/\i<=a.es.length/\decide (a.es.drop i=b.es.drop i)=decide (a.es=b.es)) (λi=>a.es.length-i) 0 (sub ⟨rfl,rfl,rfl⟩) ⟨Fr.refl _ _,iF _,rfl⟩ ?_;rintro i g ⟨C,W,f⟩;have al:gc g w.heap.size 0 (.slice A a.es.length c):=C.cell k0
 by_cases fY:i<a.es.length
 .obtain⟨p,o,x,rfl,_,X,M,K⟩:=af.at_ fY;obtain⟨I,o',y,rfl,_,Y,O,L⟩:=ag.at_ (i:=i) fy;rw[M,O]at f;have B:Ext v g.drew:=C.d;have m0:gc g.drew w.heap.size 0 (.S p o a.es.length c):=B.cell k0;have m2:gc g.drew E.heap.size 0 (.S I o' b.es.length Q):=B.cell k2;have D:Ext w g.drew:=F.t B
  repeat' (first|refine gH i (o+i*2) fx fx fx fx fx fY ?_|refine gH i (o'+i*2) fx fx fx fx fx fy ?_|refine hV (cs:=hR x) (o:=o+i*2) (b:=p) fx fE (λj u hu=>D.cell (K j u hu)) ?_|refine hV (cs:=hR y) (o:=o'+i*2) (b:=I) fx fE (λj u hu=>D.cell (L j u hu)) ?_|refine LB (cs:=hR x) (ds:=hR y) fx fx (aac x y) ?_|refine fT ?_|fail)
  by_cases e:x=y
  .rw[decide_eq_true e];have f:decide (a.es.drop (i+1)=b.es.drop (i+1))=decide (a.es=b.es):=by rw[<-f,e];simp
   refine fA ?_;exact gl ⟨i+1,sub ⟨rfl,rfl,rfl⟩,⟨B,fy,f⟩,(by show a.es.length-(i+1)<a.es.length-i;omega)⟩
  .rw[decide_eq_false e];rw[decide_eq_false (by simp[e])]at f;rw[<-f];refine fA ?_;exact fB fx fx ⟨by simp,D⟩
 .obtain rfl:i=a.es.length:=fy;rw[jP,h1,jP]at f;rw[<-f];refine fA ?_;refine gC (α:=Nat) (λi=>[(2,.P w.heap.size),(3,.P E.heap.size),(6,.I (i:Int))]) (λi w'=>Ext v w'/\i<=l.length/\decide ((l.drop i).map (·.n)=(l'.drop i).map (·.n))=decide (a.ns=b.ns)) (λi=>l.length-i) 0 (sub ⟨rfl,rfl,rfl⟩) ⟨C,iF _,by rw[wK,wK,G.m,H.m]⟩ ?_;clear f C W al fY g;rintro i g ⟨C,W,f⟩;have az:gc g w.heap.size 1 (.slice N l.length d):=C.cell k1
  by_cases fY:i<l.length
  .obtain⟨p,o,x,rfl,_,X,M,K⟩:=aj.at_ fY;obtain⟨I,o',y,rfl,_,Y,O,L⟩:=ak.at_ (i:=i) fy;rw[M,O,jj,jj]at f;have B:Ext v g.drew:=C.d;have m0:gc g.drew w.heap.size 1 (.S p o l.length d):=B.cell k1;have m2:gc g.drew E.heap.size 1 (.S I o' l'.length R):=B.cell k3;have D:Ext w g.drew:=F.t B
   repeat' (first|refine gH i (o+i*12) fx fx fx fx fx fY ?_|refine gH i (o'+i*12) fx fx fx fx fx fy ?_|refine hV (cs:=gB x) (o:=o+i*12) (b:=p) fx fE (λj u hu=>D.cell (K j u hu)) ?_|refine hV (cs:=gB y) (o:=o'+i*12) (b:=I) fx fE (λj u hu=>D.cell (L j u hu)) ?_|refine fT ?_|fail)
   refine fH fx fx (J1 g.drew x y ((G.i x (jT X)).ext D) ((H.i y (jT Y)).ext D)) (λr am ae=>?_);obtain⟨rfl,ai⟩:=ae;have V:Ext v am:=B.t ai
   by_cases e:x.n=y.n
   .rw[decide_eq_true e];have f:decide ((l.drop (i+1)).map (·.n)=(l'.drop (i+1)).map (·.n))=decide (a.ns=b.ns):=by rw[<-f,e];simp
    refine fA ?_;exact gl ⟨i+1,sub ⟨rfl,rfl,rfl⟩,⟨V,fy,f⟩,(by show l.length-(i+1)<l.length-i;omega)⟩
   .rw[decide_eq_false e];rw[decide_eq_false (by simp[e])]at f;rw[<-f];refine fA ?_;exact fB fx fx ⟨by simp,F.t V⟩
  .obtain rfl:i=l.length:=fy;rw[jP,S,jP]at f;rw[<-f];refine fA ?_;exact fB fx fx ⟨by simp,F.t C⟩
