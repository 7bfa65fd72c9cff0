/- Parts of the proof. -/
import Derived.Test.YtecaahegomdbbaaGreatDoorRmTldb
import Derived.Test.YtecaahegomdbbaaGreatDoorRmTldc
import Derived.Test.YtecaahegomdbbaaGreatDoorRmTldd
import Derived.Test.YtecaahegomdbbaaGreatDoorRmWb
set_option linter.all false
set_option maxRecDepth 99999
set_option maxHeartbeats 0
namespace Go.Proofs.YtecaahegomdbbaaGreatDoor.gr
open Go.Proofs.Tryz
open Go.RowKit
variable {t:fZ}
section
attribute [local irreducible] xs T
structure hA where
 mL:Int
 nD:List (Int×Int)
 calls:Int
 down:Bool
def SS (a:Int×Int):ip i6:=[.I a.1,.I a.2]
def Fu (a:Int×Int):(SS a).length=2:=rfl
def J4 (m:hA) (vf ve vn:i6):Array i6:= #[.I m.mL,vf,.I m.calls,.bool m.down,ve,vn]
def gj (m:hA):Int×Int×hA:=
 if m.down then(0,12,m)
 else match m.nD.find? λa=>decide (a.1=m.calls)with
  |none=>(0,0,{m with calls:=m.calls+1})
  |some a=>if a.2=3 then(3,12,{m with calls:=m.calls+1,down:=true})else(a.2,11,{m with calls:=m.calls+1})
def Ce {m:hA} (h:m.down=true):gj m=(0,12,m):=by unfold gj;rw[if_pos h]
def xn (w:i5) (g:Nat) (m:hA) (vf vn:i6) (A:Option Addr) (n c:Nat) (d:fW w g 88 (J4 m vf (.slice A n c) vn)) (h0:0<n):fQ prog 36 #[.P g] w λr w'=>r= .bool false/\w=w':=by
 refine gD func36 fx fE ?_;have k4:gc w g 4 (.slice A n c):=d.cell 4;refine fA ?_;exact y2
def lM (w:i5) (g:Nat) (m:hA) (vf vn:i6) (A:Option Addr) (n c:Nat) (v:fW w g 88 (J4 m vf (.slice A n c) vn)) (h0:0<n) (N:Rw SS w vf m.nD) (hc:0<=m.calls/\m.calls<=4000000000000000000) (L:vf.ownBlock≠some g):
  fQ prog 42 #[.P g] w λr w'=>r= .tuple #[.I (gj m).1,.I (gj m).2.1]/\fW w' g 88 (J4 (gj m).2.2 vf (.slice A n c) vn)/\Fr (· =g) w w':=by
 refine gD func42 fx fE ?_;obtain⟨B,C,rfl,Q,R,K⟩:=N.op Fu;have k2:gc w g 2 (.I m.calls):=v.cell 2;have k3:gc w g 3 (.bool m.down):=v.cell 3;have O:∀{b o n c},(Value.S b o n c).ownBlock≠some g->b≠g:=λh e=>h (by rw[e];rfl)
 have I:=xn w g m (.slice B m.nD.length C) vn A n c v h0;refine fA ?_
 refine iq (α:=Nat) 0 fx (λi=>[(0,.P g),(4,.I m.calls),(5,.I (i:Int))])
  (λi w'=>fW w' g 88 (J4 {m with calls:=m.calls+1} (.slice B m.nD.length C) (.slice A n c) vn)/\Fr (· =g) w w'/\i<=m.nD.length/\m.down=false/\(m.nD.drop i).find? (λa=>decide (a.1=m.calls))=m.nD.find? (λa=>decide (a.1=m.calls)))
  (λi=>m.nD.length-i) ?_ ?_
 .rintro i y ⟨x,u,hi,d,f⟩;have k1:gc y g 1 (.slice B m.nD.length C):=x.cell 1
  by_cases fY:i<m.nD.length
  .obtain⟨b,o,a,rfl,_,S,M,G⟩:=K.at_ fY;have F:b≠g:=O L;have q0:gc y b (o+i*2+0) (.I a.1):=u.cell (G 0 _ rfl) F;have q1:gc y b (o+i*2+1) (.I a.2):=u.cell (G 1 _ rfl) F;rw[M,List.find?_cons]at f
   by_cases h1:a.1=m.calls
   .rw[decide_eq_true h1]at f;dsimp only at f
    by_cases h3:a.2=3
    .have t:gj m=(3,12,{m with calls:=m.calls+1,down:=true}):=by
      unfold gj;rw[if_neg (by rw[d];decide),<-f];dsimp only;rw[if_pos h3]
     refine zD ?_;refine ir x fx fx fE fx fx (λJ D E=>?_);refine fA ?_;exact ia fx fx fx ⟨by rw[t,h3],by rw[t];exact D,u.trans E λ_ _ h=>h⟩
    .have t:gj m=(a.2,11,{m with calls:=m.calls+1}):=by
      unfold gj;rw[if_neg (by rw[d];decide),<-f];dsimp only;rw[if_neg h3]
     refine zD ?_;exact ia fx fx fx ⟨by rw[t],by rw[t];exact x,u⟩
   .rw[decide_eq_false h1]at f;dsimp only at f;refine zD ?_;exact hy fx ⟨_,by dsimp only;omega,rfl,i+1,sub ⟨rfl,rfl,rfl⟩,⟨x,u,fY,d,f⟩,rfl⟩
  .obtain rfl:i=m.nD.length:=fy;rw[jP]at f
   have t:gj m=(0,0,{m with calls:=m.calls+1}):=by
    unfold gj;rw[if_neg (by rw[d];decide),<-f];rfl
   refine fA ?_;exact ia fx fx fx ⟨by rw[t],by rw[t];exact x,u⟩
 .intro H;rcases Bool.eq_false_or_eq_true m.down with d|d
  .rw[d]at k3;refine fA ?_;refine fI fx fx I ?_;rintro r y ⟨rfl,rfl⟩;refine fA ?_;exact ia fx fx fx ⟨by rw[Ce d],by rw[Ce d];exact v,Fr.refl _ _⟩
  .rw[d]at k3;refine fA ?_;refine fI fx fx I ?_;rintro r y ⟨rfl,rfl⟩;refine fA ?_;refine ir v fx fx fE fx fx (λJ D E=>?_);refine fA ?_;refine hI ?_;exact iw (H 0 J ⟨D,E,iF _,d,rfl⟩) (sub ⟨rfl,rfl,rfl⟩)
end
def tB (t:fZ) (p:fL):Int:=if(fK t.es p).isSome then 6 else if 100<=t.es.length then 13 else 0
def Cq (p:fL):ip En->Nat
 |[]=>0
 |e::r=>if ix e.path p then Cq p r+1 else 0
theorem SA (p:fL):∀l,Cq p l<=l.length
 |[]=>gJ _
 |e::r=>by
  rw[Cq,iP];have:=SA p r;split<;>omega
def oN (es:ip En) (p:fL) (k:Int):ip En:=es.take (Cq p es)++⟨p,k⟩::es.drop (Cq p es)
def gA (n:Nd) (c:Int):Nd:={n with time:=c}
def rM (t:fZ) (p:fL) (c:Int):ip Nd:=match iI p with
 |none=>t.ns
 |some q=>match fK t.es q with
  |none=>t.ns
  |some k=>t.ns.set k.toNat (gA (t.ns.getD k.toNat default) c)
def j8 (t:fZ) (p:fL) (c:Int):fZ:=⟨t.es,rM t p c⟩
def tW (t:fZ) (p:fL) (k:Int) (c:Int):fZ:=j8 ⟨oN t.es p k,t.ns⟩ p c
def gz (n:Nd) (c:Int):Nd:=⟨n.kind,n.mode,0,0,c,[],[],0,[],n.target,n.major,n.minor⟩
def qQ (m:hA) (t:fZ) (p:fL) (n:Nd):Int:=
 if(gj m).2.1≠0 then(gj m).2.1 else if jf t p≠0 then jf t p else if fG n=false then 1 else tB t p
def mq (m:hA) (t:fZ) (p:fL) (n:Nd):fZ:=
 if qQ m t p n=0 then tW ⟨t.es,t.ns++[gz n (gj m).2.2.calls]⟩ p t.ns.length (gj m).2.2.calls else t
structure ym (t:fZ):Prop where
 g:tA t
 a:t.es.Pairwise BP
def Vq (h:gM t=true):ym t:=⟨ni h,p4 h⟩
def Ns {m:hA} (h:m.nD=[]) (d:m.down=false):gj m=(0,0,{m with calls:=m.calls+1}):=by
 grind [gj]
def Kq (h:ym t) {e:En} (he:e∈t.es) (h0:fX e.path≠[]):∃d∈t.es,iI e.path=some d.path/\fX e.path=fX d.path++[mK e.path]/\fV t.ns d.node=1:=by
 have u:e.path≠[]:=by grind [kM]
 obtain⟨d,f,h1,n⟩:=h.g.par e he u;refine⟨d,f,by grind [iI],?_,n⟩;have m:=U2 (h.g.path e he) (h1▸h.g.path d f) h0;rw[<-h1]at m;exact(qb m).2.1
theorem uv {t:fZ} (h:ym t):∀(f:Nat) (d:En),d∈t.es->jW t f (iI d.path) 0=0
 |0,_,_=>rfl
 | f+1,d,m=>by
  by_cases h0:fX d.path=[]
  .have:iI d.path=none:=by unfold iI;rw[if_pos h0]
   rw[this];rfl
  .obtain⟨u,hu,h1,_,h3⟩:=Kq h m h0;rw[h1,jW,iH h.g.nd hu];show(if fV t.ns u.node=1 then _ else _)=(0:Int)
   rw[if_pos h3];exact uv h f u hu
def Pc (h:ym t) {d:En} (f:d∈t.es):jf t d.path=0/\hD t d.path=(d.node,0):=by
 have hw:jf t d.path=0:=by
  unfold jf;rw[if_pos (h.g.path d f)];exact uv h _ d f
 refine⟨hw,?_⟩;unfold hD;rw[if_neg (by rw[hw];decide),iH h.g.nd f]
end Go.Proofs.YtecaahegomdbbaaGreatDoor.gr
namespace Go.Proofs.YtecaahegomdbbaaGreatDoor.gr.Rn
open Go.Proofs.Tryz
open Go.RowKit
section
open Tryz
def o0:h9 7 r0:=gL (hN k0 k1 k2 k3 k4 k5 k6 k7 k8 k9 GS IJ Gj FH EL CV CX uz) Yw iR
def o1:h9 9 r1:=gL (hN o0 k1 k2 k3 k4 k5 k6 k7 k8 k9 GS IJ Gj FH EL CV CX uz) Yx iR
def o2:h9 72 r2:=gL (hN o0 o1 k2 k3 k4 k5 k6 k7 k8 k9 GS IJ Gj FH EL CV CX uz) YC iR
def o3:h9 129 r3:=gL (hN o0 o1 o2 k3 k4 k5 k6 k7 k8 k9 GS IJ Gj FH EL CV CX uz) XN iR
def o4:h9 132 r4:=gL (hN o0 o1 o2 o3 k4 k5 k6 k7 k8 k9 GS IJ Gj FH EL CV CX uz) XE iR
def o5:h9 77 r5:=gL (hN o0 o1 o2 o3 o4 k5 k6 k7 k8 k9 GS IJ Gj FH EL CV CX uz) Yy iR
def o6:h9 78 r6:=gL (hN o0 o1 o2 o3 o4 o5 k6 k7 k8 k9 GS IJ Gj FH EL CV CX uz) YF iR
def o7:h9 78 r7:=gL (hN o0 o1 o2 o3 o4 o5 k6 k7 k8 k9 GS IJ Gj FH EL CV CX uz) Yu o6
def o8:h9 33 r8:=gL (hN o0 o1 o2 o3 o4 o5 o7 k7 k8 k9 GS IJ Gj FH EL CV CX uz) X5 iR
def o9:h9 139 r9:=gL (hN o0 o1 o2 o3 o4 o5 o7 o8 k8 k9 GS IJ Gj FH EL CV CX uz) X8 iR
def Ks:h9 80 Ju:=gL (hN o0 o1 o2 o3 o4 o5 o7 o8 o9 k9 GS IJ Gj FH EL CV CX uz) Ty iR
def IY:h9 34 I0:=gL (hN o0 o1 o2 o3 o4 o5 o7 o8 o9 Ks GS IJ Gj FH EL CV CX uz) S8 iR
def WY:h9 139 Xn:=gL (hN o0 o1 o2 o3 o4 o5 o7 o8 k8 Ks IY IJ Gj FH EL CV CX uz) Tm o9
def o13:h9 200 r13:=gL (hN o0 o1 o2 o3 o4 o5 o7 o8 WY Ks IY IJ Gj FH EL CV CX uz) TO iR
def KX:h9 200 I1:=gL (hN o0 o1 o2 o3 o4 o5 o7 o8 WY Ks IY IJ Gj FH EL CV CX uz) UM o13
def Zb:h9 368 Zw:=gL (hN o0 o1 o2 o3 o4 o5 o7 o8 WY Ks IY KX Gj FH EL CV CX uz) TM iR
def Y7:h9 370 Y5:=gL (hN o0 o1 o2 o3 o4 o5 o7 o8 WY Ks IY KX Zb FH EL CV CX uz) Uq iR
def Y1:h9 340 Y2:=gL (hN o0 o1 o2 o3 o4 o5 o7 o8 WY Ks IY KX Zb Y7 EL CV CX uz) UU iR
def Y3:h9 293 Zf:=gL (hN o0 o1 o2 o3 o4 o5 o7 o8 WY Ks IY KX Zb Y7 Y1 CV CX uz) Vb iR
def SK:h9 252 Qi:=gL (hN o0 o1 o2 o3 o4 o5 o7 o8 WY Ks IY KX Zb Y7 Y1 Y3 CX uz) T0 iR
def Tc:h9 139 SX:=gL (hN o0 o1 o2 o3 o4 o5 o7 o8 k8 Ks IY KX Zb Y7 Y1 Y3 SK uz) S5 WY
def Wy:h9 368 VA:=gL (hN o0 o1 o2 o3 o4 o5 o7 o8 Tc Ks IY KX Gj Y7 Y1 Y3 SK uz) Ta Zb
def XD:h9 370 V8:=gL (hN o0 o1 o2 o3 o4 o5 o7 o8 Tc Ks IY KX Wy FH Y1 Y3 SK uz) Ub Y7
def Y6:h9 340 YQ:=gL (hN o0 o1 o2 o3 o4 o5 o7 o8 Tc Ks IY KX Wy XD EL Y3 SK uz) Tl Y1
def o24:h9 293 Zm:=gL (hN o0 o1 o2 o3 o4 o5 o7 o8 Tc Ks IY KX Wy XD Y6 CV SK uz) Us Y3
def o25:h9 80 Z5:=gL (hN o0 o1 o2 o3 o4 o5 o7 o8 Tc k9 IY KX Wy XD Y6 o24 SK uz) Ud Ks
def o26:h9 9 r26:=gL (hN o0 k1 o2 o3 o4 o5 o7 o8 Tc o25 IY KX Wy XD Y6 o24 SK uz) Vk o1
def o27:h9 34 r27:=gL (hN o0 o26 o2 o3 o4 o5 o7 o8 Tc o25 GS KX Wy XD Y6 o24 SK uz) Vy IY
def o28:h9 9 r28:=gL (hN o0 k1 o2 o3 o4 o5 o7 o8 Tc o25 o27 KX Wy XD Y6 o24 SK uz) TC o26
def Oe (w:i5) (d:BO hJ w):fQ prog 10 #[] w (λv w'=>v= .bool true/\Ext w w'):=RO (hN o0 o28 o2 o3 o4 o5 o7 o8 Tc o25 o27 KX Wy XD Y6 o24 SK uz) Vg w d
