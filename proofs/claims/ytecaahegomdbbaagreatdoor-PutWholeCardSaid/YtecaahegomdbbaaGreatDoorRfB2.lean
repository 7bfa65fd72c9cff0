/- Parts of the proof. -/
import Derived.Test.YtecaahegomdbbaaGreatDoorRfTldb
import Derived.Test.YtecaahegomdbbaaGreatDoorRfTldc
import Derived.Test.YtecaahegomdbbaaGreatDoorRfTldd
import Derived.Test.YtecaahegomdbbaaGreatDoorRfWb
set_option linter.all false
set_option maxRecDepth 100000
set_option maxHeartbeats 64000000
namespace Go.Proofs.YtecaahegomdbbaaGreatDoor.gp
open Go.Proofs.Tryz
open Go.RowKit
variable {t:fY}
section
attribute [local irreducible] xs T
structure gZ where
 ji:Int
 mQ:List (Int×Int)
 calls:Int
 down:Bool
def R6 (a:Int×Int):List Value:=[.int .i64 a.1,.int .i64 a.2]
theorem DJ (a:Int×Int):(R6 a).length=2:=rfl
def H9 (m:gZ) (vf ve vn:Value):Array Value:= #[.int .i64 m.ji,vf,.int .i64 m.calls,.bool m.down,ve,vn]
def gi (m:gZ):Int×Int×gZ:=
 if m.down then(0,12,m)
 else match m.mQ.find? λa=>decide (a.1=m.calls)with
  |none=>(0,0,{m with calls:=m.calls+1})
  |some a=>if a.2=3 then(3,12,{m with calls:=m.calls+1,down:=true})else(a.2,11,{m with calls:=m.calls+1})
theorem Dj {m:gZ} (h:m.down=true):gi m=(0,12,m):=by unfold gi;rw[if_pos h]
theorem w6 (w:World) (g:Nat) (m:gZ) (vf vn:Value) (A:Option Addr) (n c:Nat) (a:fU w g 88 (H9 m vf (.slice A n c) vn)) (h0:0<n):fL prog 36 #[.pointer (some ⟨g,0,none⟩)] w λr w'=>r= .bool false/\w=w':=by
 refine gr func36 fx fF ?_;have k4:w.cell? ⟨g,4,none⟩=some (.slice A n c):=a.cell 4;refine fA ?_;exact y2
theorem lJ (w:World) (g:Nat) (m:gZ) (vf vn:Value) (A:Option Addr) (n c:Nat) (u:fU w g 88 (H9 m vf (.slice A n c) vn)) (h0:0<n) (N:Rw R6 w vf m.mQ) (hc:0<=m.calls/\m.calls<=4000000000000000000) (L:vf.ownBlock≠some g):
  fL prog 42 #[.pointer (some ⟨g,0,none⟩)] w λr w'=>r= .tuple #[.int .i64 (gi m).1,.int .i64 (gi m).2.1]/\fU w' g 88 (H9 (gi m).2.2 vf (.slice A n c) vn)/\Fr (· =g) w w':=by
 refine gr func42 fx fF ?_;obtain⟨y,B,rfl,Q,R,K⟩:=N.op DJ;have k2:w.cell? ⟨g,2,none⟩=some (.int .i64 m.calls):=u.cell 2;have k3:w.cell? ⟨g,3,none⟩=some (.bool m.down):=u.cell 3;have O:∀{b o n c},(Value.slice (some ⟨b,o,none⟩) n c).ownBlock≠some g->b≠g:=λh e=>h (by rw[e];rfl)
 have I:=w6 w g m (.slice y m.mQ.length B) vn A n c u h0;refine fA ?_
 refine h9 (α:=Nat) 0 fx (λi=>[(0,.pointer (some ⟨g,0,none⟩)),(4,.int .i64 m.calls),(5,.int .i64 (i:Int))])
  (λi w'=>fU w' g 88 (H9 {m with calls:=m.calls+1} (.slice y m.mQ.length B) (.slice A n c) vn)/\Fr (· =g) w w'/\i<=m.mQ.length/\m.down=false/\(m.mQ.drop i).find? (λa=>decide (a.1=m.calls))=m.mQ.find? (λa=>decide (a.1=m.calls)))
  (λi=>m.mQ.length-i) ?_ ?_
 ·rintro i x ⟨v,t,hi,d,f⟩;have k1:x.cell? ⟨g,1,none⟩=some (.slice y m.mQ.length B):=v.cell 1
  by_cases fW:i<m.mQ.length
  ·obtain⟨b,o,a,rfl,_,S,M,G⟩:=K.at_ fW;have F:b≠g:=O L;have q0:x.cell? ⟨b,o+i*2+0,none⟩=some (.int .i64 a.1):=t.cell (G 0 _ rfl) F;have q1:x.cell? ⟨b,o+i*2+1,none⟩=some (.int .i64 a.2):=t.cell (G 1 _ rfl) F;rw[M,List.find?_cons]at f
   by_cases h1:a.1=m.calls
   ·rw[decide_eq_true h1]at f;dsimp only at f
    by_cases C:a.2=3
    ·have s:gi m=(3,12,{m with calls:=m.calls+1,down:=true}):=by
      unfold gi;rw[if_neg (by rw[d];decide),←f];dsimp only;rw[if_pos C]
     refine zF ?_;refine iq v fx fx fF fx fx (λJ D E=>?_);refine fA ?_;exact ia fx fx fx ⟨by rw[s,C],by rw[s];exact D,t.trans E λ_ _ h=>h⟩
    ·have s:gi m=(a.2,11,{m with calls:=m.calls+1}):=by
      unfold gi;rw[if_neg (by rw[d];decide),←f];dsimp only;rw[if_neg C]
     refine zF ?_;exact ia fx fx fx ⟨by rw[s],by rw[s];exact v,t⟩
   ·rw[decide_eq_false h1]at f;dsimp only at f;refine zF ?_;exact gX fx ⟨_,by dsimp only;omega,rfl,i+1,sub ⟨rfl,rfl,rfl⟩,⟨v,t,fW,d,f⟩,rfl⟩
  ·obtain rfl:i=m.mQ.length:=fy;rw[jJ]at f
   have s:gi m=(0,0,{m with calls:=m.calls+1}):=by
    unfold gi;rw[if_neg (by rw[d];decide),←f];rfl
   refine fA ?_;exact ia fx fx fx ⟨by rw[s],by rw[s];exact v,t⟩
 ·intro H;rcases Bool.eq_false_or_eq_true m.down with d|d
  ·rw[d]at k3;refine fA ?_;refine fI fx fx I ?_;rintro r x ⟨rfl,rfl⟩;refine fA ?_;exact ia fx fx fx ⟨by rw[Dj d],by rw[Dj d];exact u,Fr.refl _ _⟩
  ·rw[d]at k3;refine fA ?_;refine fI fx fx I ?_;rintro r x ⟨rfl,rfl⟩;refine fA ?_;refine iq u fx fx fF fx fx (λJ D E=>?_);refine fA ?_;refine hv ?_;exact ic (H 0 J ⟨D,E,iy _,d,rfl⟩) (sub ⟨rfl,rfl,rfl⟩)
end
section
def sQ (t:fY) (p:fQ):Int:=if(fR t.es p).isSome then 6 else if 100<=t.es.length then 13 else 0
def B9 (p:fQ):List En->Nat
 |[]=>0
 |e::r=>if ie e.path p then B9 p r+1 else 0
theorem Q6 (p:fQ):∀l,B9 p l<=l.length
 |[]=>gJ _
 |e::r=>by
  rw[B9,iA];have:=Q6 p r;split<;>omega
def oH (es:List En) (p:fQ) (k:Int):List En:=es.take (B9 p es)++⟨p,k⟩::es.drop (B9 p es)
def h7 (n:Nd) (c:Int):Nd:={n with time:=c}
def tl (t:fY) (p:fQ) (c:Int):List Nd:=match iL p with
 |none=>t.ns
 |some q=>match fR t.es q with
  |none=>t.ns
  |some k=>t.ns.set k.toNat (h7 (t.ns.getD k.toNat default) c)
def kT (t:fY) (p:fQ) (c:Int):fY:=⟨t.es,tl t p c⟩
def pV (t:fY) (p:fQ) (k:Int) (c:Int):fY:=kT ⟨oH t.es p k,t.ns⟩ p c
def iD (n:Nd) (c:Int):Nd:=⟨n.kind,n.mode,0,0,c,[],[],0,[],n.target,n.major,n.minor⟩
def sP (m:gZ) (t:fY) (p:fQ) (n:Nd):Int:=
 if(gi m).2.1≠0 then(gi m).2.1 else if ja t p≠0 then ja t p else if fH n=false then 1 else sQ t p
def my (m:gZ) (t:fY) (p:fQ) (n:Nd):fY:=
 if sP m t p n=0 then pV ⟨t.es,t.ns++[iD n (gi m).2.2.calls]⟩ p t.ns.length (gi m).2.2.calls else t
end
section
structure ya (t:fY):Prop where
 g:sT t
 a:t.es.Pairwise Bl
theorem S4 (h:gQ t=true):ya t:=⟨oh h,pC h⟩
theorem M8 {m:gZ} (h:m.mQ=[]) (a:m.down=false):gi m=(0,0,{m with calls:=m.calls+1}):=by
 grind [gi]
theorem O8 (h:ya t) {e:En} (he:e∈t.es) (h0:fZ e.path≠[]):∃d∈t.es,iL e.path=some d.path/\fZ e.path=fZ d.path++[mO e.path]/\gf t.ns d.node=1:=by
 have n:e.path≠[]:=by grind [kx]
 obtain⟨d,a,h1,m⟩:=h.g.par e he n;refine⟨d,a,by grind [iL],?_,m⟩;have f:=Tn (h.g.path e he) (h1▸h.g.path d a) h0;rw[←h1]at f;exact(rj f).2.1
theorem tz {t:fY} (h:ya t):∀(f:Nat) (d:En),d∈t.es->jT t f (iL d.path) 0=0
 |0,_,_=>rfl
 | f+1,d,m=>by
  by_cases h0:fZ d.path=[]
  ·have:iL d.path=none:=by unfold iL;rw[if_pos h0]
   rw[this];rfl
  ·obtain⟨u,hu,h1,_,a⟩:=O8 h m h0;rw[h1,jT,jv h.g.nd hu];show(if gf t.ns u.node=1 then _ else _)=(0:Int)
   rw[if_pos a];exact tz h f u hu
theorem PG (h:ya t) {d:En} (a:d∈t.es):ja t d.path=0/\hC t d.path=(d.node,0):=by
 have hw:ja t d.path=0:=by
  unfold ja;rw[if_pos (h.g.path d a)];exact tz h _ d a
 refine⟨hw,?_⟩;unfold hC;rw[if_neg (by rw[hw];decide),jv h.g.nd a]
end
end Go.Proofs.YtecaahegomdbbaaGreatDoor.gp
namespace Go.Proofs.YtecaahegomdbbaaGreatDoor.gp.Rn
open Go.Proofs.Tryz
open Go.RowKit
section
open Tryz
theorem o0:hU 7 r0:=gC (hA k0 k1 k2 k3 k4 k5 k6 k7 k8 k9 Hg Fw F1 EN Dt BZ BS tV) WJ iM
theorem o1:hU 9 r1:=gC (hA o0 k1 k2 k3 k4 k5 k6 k7 k8 k9 Hg Fw F1 EN Dt BZ BS tV) WZ iM
theorem o2:hU 72 r2:=gC (hA o0 o1 k2 k3 k4 k5 k6 k7 k8 k9 Hg Fw F1 EN Dt BZ BS tV) WA iM
theorem o3:hU 129 r3:=gC (hA o0 o1 o2 k3 k4 k5 k6 k7 k8 k9 Hg Fw F1 EN Dt BZ BS tV) Xi iM
theorem o4:hU 132 r4:=gC (hA o0 o1 o2 o3 k4 k5 k6 k7 k8 k9 Hg Fw F1 EN Dt BZ BS tV) X6 iM
theorem o5:hU 77 r5:=gC (hA o0 o1 o2 o3 o4 k5 k6 k7 k8 k9 Hg Fw F1 EN Dt BZ BS tV) WR iM
theorem o6:hU 78 r6:=gC (hA o0 o1 o2 o3 o4 o5 k6 k7 k8 k9 Hg Fw F1 EN Dt BZ BS tV) WD iM
theorem o7:hU 78 r7:=gC (hA o0 o1 o2 o3 o4 o5 k6 k7 k8 k9 Hg Fw F1 EN Dt BZ BS tV) Wz o6
theorem o8:hU 33 r8:=gC (hA o0 o1 o2 o3 o4 o5 o7 k7 k8 k9 Hg Fw F1 EN Dt BZ BS tV) XZ iM
theorem o9:hU 139 r9:=gC (hA o0 o1 o2 o3 o4 o5 o7 o8 k8 k9 Hg Fw F1 EN Dt BZ BS tV) XO iM
theorem JJ:hU 80 Jb:=gC (hA o0 o1 o2 o3 o4 o5 o7 o8 o9 k9 Hg Fw F1 EN Dt BZ BS tV) TP iM
theorem Ie:hU 34 H7:=gC (hA o0 o1 o2 o3 o4 o5 o7 o8 o9 JJ Hg Fw F1 EN Dt BZ BS tV) Ug iM
theorem VK:hU 139 VY:=gC (hA o0 o1 o2 o3 o4 o5 o7 o8 k8 JJ Ie Fw F1 EN Dt BZ BS tV) Tp o9
theorem o13:hU 200 r13:=gC (hA o0 o1 o2 o3 o4 o5 o7 o8 VK JJ Ie Fw F1 EN Dt BZ BS tV) Un iM
theorem IH:hU 200 Ib:=gC (hA o0 o1 o2 o3 o4 o5 o7 o8 VK JJ Ie Fw F1 EN Dt BZ BS tV) Tx o13
theorem Yd:hU 368 Yl:=gC (hA o0 o1 o2 o3 o4 o5 o7 o8 VK JJ Ie IH F1 EN Dt BZ BS tV) S9 iM
theorem Yi:hU 370 Yg:=gC (hA o0 o1 o2 o3 o4 o5 o7 o8 VK JJ Ie IH Yd EN Dt BZ BS tV) SH iM
theorem Yx:hU 340 Yz:=gC (hA o0 o1 o2 o3 o4 o5 o7 o8 VK JJ Ie IH Yd Yi Dt BZ BS tV) Ua iM
theorem Yc:hU 293 YA:=gC (hA o0 o1 o2 o3 o4 o5 o7 o8 VK JJ Ie IH Yd Yi Yx BZ BS tV) Ue iM
theorem RV:hU 252 Q8:=gC (hA o0 o1 o2 o3 o4 o5 o7 o8 VK JJ Ie IH Yd Yi Yx Yc BS tV) SI iM
theorem T1:hU 139 R3:=gC (hA o0 o1 o2 o3 o4 o5 o7 o8 k8 JJ Ie IH Yd Yi Yx Yc RV tV) Tt VK
theorem Vv:hU 368 Tl:=gC (hA o0 o1 o2 o3 o4 o5 o7 o8 T1 JJ Ie IH F1 Yi Yx Yc RV tV) Uc Yd
theorem WI:hU 370 Vx:=gC (hA o0 o1 o2 o3 o4 o5 o7 o8 T1 JJ Ie IH Vv EN Yx Yc RV tV) T7 Yi
theorem YB:hU 340 XA:=gC (hA o0 o1 o2 o3 o4 o5 o7 o8 T1 JJ Ie IH Vv WI Dt Yc RV tV) UE Yx
theorem Zp:hU 293 Yj:=gC (hA o0 o1 o2 o3 o4 o5 o7 o8 T1 JJ Ie IH Vv WI YB BZ RV tV) Sf Yc
theorem o25:hU 80 ZA:=gC (hA o0 o1 o2 o3 o4 o5 o7 o8 T1 k9 Ie IH Vv WI YB Zp RV tV) S2 JJ
theorem o26:hU 9 r26:=gC (hA o0 k1 o2 o3 o4 o5 o7 o8 T1 o25 Ie IH Vv WI YB Zp RV tV) Sy o1
theorem o27:hU 34 r27:=gC (hA o0 o26 o2 o3 o4 o5 o7 o8 T1 o25 Hg IH Vv WI YB Zp RV tV) TJ Ie
theorem o28:hU 9 r28:=gC (hA o0 k1 o2 o3 o4 o5 o7 o8 T1 o25 o27 IH Vv WI YB Zp RV tV) Us o26
theorem MT (w:World) (a:BB hG w):fL prog 10 #[] w (λv w'=>v= .bool true/\Ext w w'):=Q2 (hA o0 o28 o2 o3 o4 o5 o7 o8 T1 o25 o27 IH Vv WI YB Zp RV tV) SP w a
end
end Go.Proofs.YtecaahegomdbbaaGreatDoor.gp.Rn
