/- Parts of the proof. -/
import Derived.Test.YtecaahegomdbbaaGreatDoorRfB4c
set_option linter.all false
set_option maxRecDepth 100000
set_option maxHeartbeats 64000000
namespace Go.Proofs.YtecaahegomdbbaaGreatDoor.gp
open Go.Proofs.Tryz
open Go.RowKit
section
end
section
def DA (a b:fY):Bool:=decide (a.es=b.es)&&decide (a.ns=b.ns)
theorem As (w:World) (ve vn Y Z:Value) (l l':List gG) (a b:fY) (F:nj w ve vn l a) (G:nj w Y Z l' b):fL prog 12 #[.agg #[ve,vn],.agg #[Y,Z]] w λr w'=>r= .bool (DA a b)/\Ext w w':=by
 refine gK func12 fx fF ?_;obtain⟨A,c,rfl,am,ao,ae⟩:=F.e.op gj;obtain⟨aa,O,rfl,an,ap,af⟩:=G.e.op gj;obtain⟨N,d,rfl,aq,au,ai⟩:=F.n.op gI;obtain⟨ab,Q,rfl,ar,av,aj⟩:=G.n.op gI;have la:=F.len;have lb:=G.len;unfold DA;refine fA ?_;refine hD fx (λD S ag aw=>?_);have i0:D.cell? ⟨w.heap.size,0,none⟩=some (.slice A a.es.length c):=fU.cell S 0;have i1:D.cell? ⟨w.heap.size,1,none⟩=some (.slice N l.length d):=fU.cell S 1;refine fA ?_;refine hD fx (λs T I ax=>?_);have k0:s.cell? ⟨w.heap.size,0,none⟩=some (.slice A a.es.length c):=I.cell i0;have k1:s.cell? ⟨w.heap.size,1,none⟩=some (.slice N l.length d):=I.cell i1;have k2:s.cell? ⟨D.heap.size,0,none⟩=some (.slice aa b.es.length O):=fU.cell T 0;have k3:s.cell? ⟨D.heap.size,1,none⟩=some (.slice ab l'.length Q):=fU.cell T 1;have E:Ext w s:=ag.t I
 by_cases h1:a.es.length=b.es.length
 case neg=>
  rw[decide_eq_false (p:=a.es=b.es) (λe=>h1 (by rw[e])),hW];refine fA ?_;exact fB fx fx ⟨rfl,E⟩
 by_cases R:l.length=l'.length
 case neg=>
  rw[decide_eq_false (p:=a.ns=b.ns) (λe=>R (by rw[la,lb,e])),sO];refine fA ?_;exact fB fx fx ⟨rfl,E⟩
 refine fA ?_;refine gA (α:=Nat) (λi=>[(2,.pointer (some ⟨w.heap.size,0,none⟩)),(3,.pointer (some ⟨D.heap.size,0,none⟩)),(5,.int .i64 (i:Int))]) (λi w'=>Ext s w'/\i<=a.es.length/\decide (a.es.drop i=b.es.drop i)=decide (a.es=b.es)) (λi=>a.es.length-i) 0 (sub ⟨rfl,rfl,rfl⟩) ⟨Fr.refl _ _,iy _,rfl⟩ ?_;rintro i g ⟨B,V,f⟩;have ak:g.cell? ⟨w.heap.size,0,none⟩=some (.slice A a.es.length c):=B.cell k0
 by_cases fW:i<a.es.length
 ·obtain⟨p,o,x,rfl,_,W,L,J⟩:=ae.at_ fW;obtain⟨H,o',y,rfl,_,X,M,K⟩:=af.at_ (i:=i) fy;rw[L,M]at f;have v:Ext s g.drew:=B.d;have m0:g.drew.cell? ⟨w.heap.size,0,none⟩=some (.slice (some ⟨p,o,none⟩) a.es.length c):=v.cell k0;have m2:g.drew.cell? ⟨D.heap.size,0,none⟩=some (.slice (some ⟨H,o',none⟩) b.es.length O):=v.cell k2;have C:Ext w g.drew:=E.t v
  repeat' (first|refine gF i (o+i*2) rfl rfl rfl rfl rfl fW ?_|refine gF i (o'+i*2) rfl rfl rfl rfl rfl fy ?_|refine hL (cs:=hI x) (o:=o+i*2) (b:=p) rfl fF (λj u hu=>C.cell (J j u hu)) ?_|refine hL (cs:=hI y) (o:=o'+i*2) (b:=H) rfl fF (λj u hu=>C.cell (K j u hu)) ?_|refine Lw (cs:=hI x) (ds:=hI y) rfl rfl (aam x y) ?_|refine fT ?_|fail)
  by_cases e:x=y
  ·rw[decide_eq_true e];have f:decide (a.es.drop (i+1)=b.es.drop (i+1))=decide (a.es=b.es):=by rw[←f,e];simp
   refine fA ?_;exact gn ⟨i+1,sub ⟨rfl,rfl,rfl⟩,⟨v,fy,f⟩,(by show a.es.length-(i+1)<a.es.length-i;omega)⟩
  ·rw[decide_eq_false e];rw[decide_eq_false (by simp[e])]at f;rw[←f];refine fA ?_;exact fB fx fx ⟨by simp,C⟩
 ·obtain rfl:i=a.es.length:=fy;rw[jJ,h1,jJ]at f;rw[←f];refine fA ?_;refine gA (α:=Nat) (λi=>[(2,.pointer (some ⟨w.heap.size,0,none⟩)),(3,.pointer (some ⟨D.heap.size,0,none⟩)),(6,.int .i64 (i:Int))]) (λi w'=>Ext s w'/\i<=l.length/\decide ((l.drop i).map (·.n)=(l'.drop i).map (·.n))=decide (a.ns=b.ns)) (λi=>l.length-i) 0 (sub ⟨rfl,rfl,rfl⟩) ⟨B,iy _,by rw[vU,vU,F.m,G.m]⟩ ?_;clear f B V ak fW g;rintro i g ⟨B,V,f⟩;have ay:g.cell? ⟨w.heap.size,1,none⟩=some (.slice N l.length d):=B.cell k1
  by_cases fW:i<l.length
  ·obtain⟨p,o,x,rfl,_,W,L,J⟩:=ai.at_ fW;obtain⟨H,o',y,rfl,_,X,M,K⟩:=aj.at_ (i:=i) fy;rw[L,M,jm,jm]at f;have v:Ext s g.drew:=B.d;have m0:g.drew.cell? ⟨w.heap.size,1,none⟩=some (.slice (some ⟨p,o,none⟩) l.length d):=v.cell k1;have m2:g.drew.cell? ⟨D.heap.size,1,none⟩=some (.slice (some ⟨H,o',none⟩) l'.length Q):=v.cell k3;have C:Ext w g.drew:=E.t v
   repeat' (first|refine gF i (o+i*12) rfl rfl rfl rfl rfl fW ?_|refine gF i (o'+i*12) rfl rfl rfl rfl rfl fy ?_|refine hL (cs:=gz x) (o:=o+i*12) (b:=p) rfl fF (λj u hu=>C.cell (J j u hu)) ?_|refine hL (cs:=gz y) (o:=o'+i*12) (b:=H) rfl fF (λj u hu=>C.cell (K j u hu)) ?_|refine fT ?_|fail)
   refine fG fx fx (I4 g.drew x y ((F.i x (jS W)).ext C) ((G.i y (jS X)).ext C)) (λr al ad=>?_);obtain⟨rfl,ah⟩:=ad;have U:Ext s al:=v.t ah
   by_cases e:x.n=y.n
   ·rw[decide_eq_true e];have f:decide ((l.drop (i+1)).map (·.n)=(l'.drop (i+1)).map (·.n))=decide (a.ns=b.ns):=by rw[←f,e];simp
    refine fA ?_;exact gn ⟨i+1,sub ⟨rfl,rfl,rfl⟩,⟨U,fy,f⟩,(by show l.length-(i+1)<l.length-i;omega)⟩
   ·rw[decide_eq_false e];rw[decide_eq_false (by simp[e])]at f;rw[←f];refine fA ?_;exact fB fx fx ⟨by simp,E.t U⟩
  ·obtain rfl:i=l.length:=fy;rw[jJ,R,jJ]at f;rw[←f];refine fA ?_;exact fB fx fx ⟨by simp,E.t B⟩
end
end Go.Proofs.YtecaahegomdbbaaGreatDoor.gp
