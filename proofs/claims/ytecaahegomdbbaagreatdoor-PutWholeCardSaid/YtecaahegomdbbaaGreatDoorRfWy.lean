/- Parts of the proof. -/
import Derived.Test.YtecaahegomdbbaaGreatDoorRfWp
import Derived.Test.YtecaahegomdbbaaGreatDoorRfWt
import Derived.Test.YtecaahegomdbbaaGreatDoorRfYa
set_option linter.all false
set_option maxRecDepth 100000
set_option maxHeartbeats 64000000
namespace Go.Proofs.YtecaahegomdbbaaGreatDoor.gp
open Go.Proofs.Tryz
open Go.RowKit
variable {x:Operand} {t:TypeId}
section
section
variable {hs:List Nat} {H:World->Prop} {full:Array Oper} {K:Env->World->Prop} {rest:List Oper} {env:Env} {w:World} {d:Tmp} {ty:TypeId} {pos:String} {af:Array Edge}
theorem aes {α:Type} {a:α->List Value} {z:Nat} (_:∀x,(a x).length=z) {hi:Operand} {L:IntKind} {v:Value} {l:List α} {g:Int} (h:Nat) (F:es t=some z) (C:Rw a w v l) (J:gh env x=some v) (G:gh env hi=some (.int L g)) (n:g=h) (M:h<=l.length)
  (hc:∀A c,Rw a w (.slice A h c) (l.take h)->xs prog fD fC hs H full K rest ((d,.slice A h c)::env) w):
  xs prog fD fC hs H full K (⟨some d,.slice t x none (some hi) none,ty,pos,af,none⟩::rest) env w:=by
 subst n;obtain⟨A,c,rfl,N,s,y⟩:=C;refine WE F J G fy fy (λf B=>?_);rw[jf];have I:(l.take h).length=h:=by rw[kt];omega
 refine hc f c ?_;unfold Rw;rw[I];refine⟨f,c,rfl,fy,s,λh0=>?_⟩;obtain⟨b,o,rfl,D,E⟩:=y fy;refine⟨b,o,B b o fx fy,D,λj u hu=>E j u ?_⟩;have m:l.flatMap a=(l.take h).flatMap a++(l.drop h).flatMap a:=by rw[←tO,lv]
 rw[m,pR (j0.1 hu).1];exact hu
theorem abV {α:Type} {a:α->List Value} {z:Nat} (J:∀x,(a x).length=z) {lo:Operand} {L:IntKind} {v:Value} {l:List α} {jl:Int} (h:Nat) (E:es t=some z) (B:Rw a w v l) (I:gh env x=some v) (G:gh env lo=some (.int L jl)) (el:jl=h) (n:h<=l.length)
  (hc:∀A c,Rw a w (.slice A (l.length-h) c) (l.drop h)->xs prog fD fC hs H full K rest ((d,.slice A (l.length-h) c)::env) w):
  xs prog fD fC hs H full K (⟨some d,.slice t x (some lo) none none,ty,pos,af,none⟩::rest) env w:=by
 subst el;obtain⟨A,c,rfl,M,N,s⟩:=B;refine P5 E I G fy fy fy (λf y=>?_);rw[jf];have F:(l.drop h).length=l.length-h:=lH ..;refine hc f _ ?_;unfold Rw;rw[F];refine⟨f,_,rfl,fy,by omega,λh0=>?_⟩;obtain⟨b,o,rfl,C,D⟩:=s fy;refine⟨b,o+h*z,?_,C,λj u hu=>?_⟩
 ·have:=y b o rfl fy;rwa[jf]at this
 have g:l.flatMap a=(l.take h).flatMap a++(l.drop h).flatMap a:=by rw[←tO,lv]
 have m:((l.take h).flatMap a).length=h*z:=by rw[gl J,kt,uk n]
 have:=D (h*z+j) u (by rw[g,qE fy,m,HY];exact hu);rwa[←Hj]at this
theorem SB {op:BinOp} {u:TypeId} {y:Operand} {k:IntKind} {a b:Int} {p:Prop} (r:Bool) (m:gh env x=some (.int k a)) (n:gh env y=some (.int k b)) (g:N4 op a b=some p) (f:r=true↔p)
  (h:xs prog fD fC hs H full K rest ((d,.bool r)::env) w):xs prog fD fC hs H full K (⟨some d,.binOp op t x y u,ty,pos,af,none⟩::rest) env w:=by
 cases r with
 |true=>exact R1 m n g (f.1 rfl) h
 |false=>exact R5 m n g (λs=>by have:=f.2 s;cases this) h
end
def nb (l:List En) (i:Nat):List En:=(l.take i).foldl (λa e=>xA e a) []
theorem BE (l:List En) (i:Nat):(nb l i).Perm (l.take i):=by have:=(tW (l.take i) [] List.Pairwise.nil).2;rwa[nk]at this
theorem G2 {l:List En} {i:Nat} (h:i<=l.length):(nb l i).length=i:=by rw[(BE l i).length_eq,kt];omega
theorem ND {l:List En} {i:Nat} {e:En} (he:l[i]? =some e):nb l (i+1)=xA e (nb l i):=by
 unfold nb;rw[kO,he];simp[Lo]
def HC (seen:List Int) (n:Nat):List Int:=(List.range n).map λ(k:Nat)=>if(k:Int)∈seen then((seen.idxOf (k:Int)+1:Nat):Int)else 0
theorem SX (n:Nat):HC [] n=List.replicate n 0:=by
 apply wM
 ·simp[HC]
 ·intro i h1 a;simp[HC]
theorem yh {seen:List Int} {n k:Nat} (h:k<n):(HC seen n)[k]? =some (if(k:Int)∈seen then((seen.idxOf (k:Int)+1:Nat):Int)else 0):=by
 unfold HC;rw[qX,KN h];rfl
theorem yg (seen:List Int) (n:Nat):(HC seen n).length=n:=by simp[HC]
theorem TF {seen:List Int} {n k:Nat} (hk:(k:Int)∉seen):(HC seen n).set k ((seen.length+1:Nat):Int)=HC (seen++[(k:Int)]) n:=by
 apply vm;intro j;rw[OM,yg]
 by_cases a:j<n
 ·rw[yh a,yh a]
  by_cases h:k=j
  ·subst h;rw[if_pos rfl,if_pos a,if_pos ir,QU,if_neg hk];simp
  ·rw[if_neg h];have g:¬(j:Int)=(k:Int):=fy
   by_cases hm:(j:Int)∈seen
   ·rw[if_pos hm,if_pos (vL _ hm),QU,if_pos hm]
   ·rw[if_neg hm,if_neg (by simp[hm,g])]
 ·have d:(HC seen n)[j]? =none:=A6 (by rw[yg];omega);have f:(HC (seen++[(k:Int)]) n)[j]? =none:=A6 (by rw[yg];omega);rw[d,f]
  by_cases h:k=j
  ·rw[if_pos h,if_neg fy]
  ·rw[if_neg h]
structure RaI (t:fY) (w0:World) (x:Nat×Value) (w:World):Prop where
 i:x.1<=t.es.length
 ok:∀e∈t.es.take x.1,gU e.path=true/\xD t.ns.length e=true
 rw:Rw hI w x.2 (nb t.es x.1)
 ext:Ext w0 w
structure RnS where
 i:Nat
 seen:List Int
 ve:Value
 vn:Value
 nv:List gG
 es:List En
structure RnI (t:fY) (S:List En) (gu ga B:Nat) (Jm:List gG) (w0:World) (x:RnS) (w:World):Prop where
 ext:Ext w0 w
 le:x.i<=S.length
 xe:fU w gu 26 #[x.ve,x.vn]
 at_:fU w ga 3 ((HC x.seen t.ns.length).map (Value.int .i64)).toArray
 go:(x.es++(iB x.seen (S.drop x.i)).1,(iB x.seen (S.drop x.i)).2)=iB [] S
 oe:Ow hI 2 w B 49 x.ve x.es
 on:Ow gz 12 w B 37 x.vn x.nv
 nd:x.nv.map (·.n)=x.seen.map λk=>t.ns.getD k.toNat default
 ndi:∀y∈x.nv,y∈Jm/\y.n∈t.ns
 sl:x.seen.length<=x.i
 el:x.es.length=x.i
 sz:B<=w.heap.size
structure RnJ (t:fY) (k:Int) (i:Nat) (seen:List Int) (es:List En) (we:Value) (gu ga B:Nat) (Jm:List gG) (w0:World) (y:List Int×Value×List gG) (w:World):Prop where
 m:k∈y.1
 wh:y.1=seen/\k∈seen∨y.1=seen++[k]/\k∉seen
 ext:Ext w0 w
 xe:fU w gu 26 #[we,y.2.1]
 at_:fU w ga 3 ((HC y.1 t.ns.length).map (Value.int .i64)).toArray
 oe:Ow hI 2 w B 49 we es
 on:Ow gz 12 w B 37 y.2.1 y.2.2
 nd:y.2.2.map (·.n)=y.1.map λk=>t.ns.getD k.toNat default
 ndi:∀z∈y.2.2,z∈Jm/\z.n∈t.ns
 sl:y.1.length<=i+1
 sz:B<=w.heap.size
def QP (fK:List gG) (t:fY) (w:World) (r:Value) (w':World):Prop:=Ext w w'/\match hN t with
 |none=>r= .tuple #[.agg #[.slice none 0 0,.slice none 0 0],.int .i64 1]
 |some t'=>∃ve vn a,r= .tuple #[.agg #[ve,vn],.int .i64 0]/\nj w' ve vn a t'/\Ow hI 2 w' w.heap.size 49 ve t'.es/\Ow gz 12 w' w.heap.size 37 vn a/\∀y∈a,y∈fK
theorem De {fK:List gG} {t:fY} (h:hN t=none) {w w':World} (a:Ext w w'):QP fK t w (.tuple #[.agg #[.slice none 0 0,.slice none 0 0],.int .i64 1]) w':=⟨a,by rw[h]⟩
theorem Gx (w:World) (ve vn:Value) (fK:List gG) (t:fY) (aT:nj w ve vn fK t) (aA:N0 t) (dh:t.es.length<=1000000) (dl:t.ns.length<=1000000):fL prog 28 #[.agg #[ve,vn]] w (QP fK t w):=by
 refine gr func28 fx fF ?_;have aE:=aT;obtain⟨A,c,rfl,da,db,b7⟩:=aT.e.op gj;obtain⟨ab,X,rfl,cC,dc,b8⟩:=aT.n.op gI;have hlen:=aT.len;rw[hlen]at cC;have Z:∀{a b c:World} {g:Nat},Ext a b->Fr (· =g) b c->a.heap.size<=g->Ext a c:=λh1 aH di=>h1.trans aH λj aq e=>absurd aq fy
 refine fA ?_;refine hD fx (λO b9 a2 dm=>?_);have bp:fU O w.heap.size 26 #[.slice A t.es.length c,.slice ab fK.length X]:=b9;have k0:O.cell? ⟨w.heap.size,0,none⟩=some (.slice A t.es.length c):=bp.cell 0;have k1:O.cell? ⟨w.heap.size,1,none⟩=some (.slice ab t.ns.length X):=by rw[←hlen];exact bp.cell 1
 refine fA ?_;refine gy (z:= .agg #[.slice none 0 0,.slice none 0 0]) fF (λaw ca a3 dq=>?_);have bq:fU aw O.heap.size 26 #[.slice none 0 0,.slice none 0 0]:=ca;have cc:Ext w aw:=a2.t a3;have m0:aw.cell? ⟨w.heap.size,0,none⟩=some (.slice A t.es.length c):=a3.cell k0;have m1:aw.cell? ⟨w.heap.size,1,none⟩=some (.slice ab t.ns.length X):=a3.cell k1;refine fA ?_;refine gA (α:=Nat×Value) (λx=>[(1,.pointer (some ⟨w.heap.size,0,none⟩)),(2,.pointer (some ⟨O.heap.size,0,none⟩)),(4,x.2),(5,.int .i64 (x.1:Int))]) (RaI t aw) (λx=>t.es.length-x.1) (0,.slice none 0 0) (sub ⟨rfl,rfl,rfl,rfl⟩) ⟨iy _,λe he=>by simp at he,Rw.nil _ _ (by unfold maxLen;omega),Fr.refl _ _⟩ ?_;rintro⟨i,v⟩ f ⟨hi,aD,bh,Y⟩;dsimp only at hi aD bh Y⊢;have aK:Ext w f:=cc.t Y;have dt:f.cell? ⟨w.heap.size,0,none⟩=some (.slice A t.es.length c):=Y.cell m0;have n1:f.cell? ⟨w.heap.size,1,none⟩=some (.slice ab t.ns.length X):=Y.cell m1;have aU:=bh;obtain⟨aX,cL,rfl,_,_,aI⟩:=bh.op gj;rw[G2 hi]
 by_cases fW:i<t.es.length
 ·obtain⟨b,o,e,rfl,_,he,_,aR⟩:=b7.at_ fW;have ap:=jS he;have bO:=aA.p e ap;have cE:∀j u,(hI e)[j]? =some u->f.cell? ⟨b,o+i*2+j,none⟩=some u:=λj u hu=>aK.cell (aR j u hu)
  refine zF ?_;refine hL (cs:=hI e) fx fx cE ?_;refine gy (z:= .agg #[.string ⟨#[]⟩,.int .i64 0]) fF (λG aY al cM=>?_);refine hd (cs:=(hI e).toArray) aY fx fx fx fx (yb e) (λE ak cl=>?_);have af:Ext f E:=Z al cl fy;have cd:Ext w E:=aK.t af;have q0:E.cell? ⟨f.heap.size,0,none⟩=some (.string (su e.path)):=ak.cell 0;have q1:E.cell? ⟨f.heap.size,1,none⟩=some (.int .i64 e.node):=ak.cell 1;refine fA ?_;refine fG fx fx (nT E e.path bO) (λr s b4=>?_);obtain⟨rfl,I⟩:=b4;have ay:Ext w s:=cd.t I;have bs:Ext aw s:=Y.t (af.t I);have r1:s.cell? ⟨f.heap.size,1,none⟩=some (.int .i64 e.node):=I.cell q1;have o1:s.cell? ⟨w.heap.size,1,none⟩=some (.slice ab t.ns.length X):=bs.cell m1;have aZ:fU s O.heap.size 26 #[.slice none 0 0,.slice none 0 0]:=bq.ext bs;have bad:hN t=none->∀m,Fr (· =O.heap.size) s m->QP fK t w (.tuple #[.agg #[.slice none 0 0,.slice none 0 0],.int .i64 1]) m:=λh m ci=>De h (Z ay ci (by have:=a2.size;omega))
  cases hm:gU e.path with
  |false=>
   refine fA ?_;refine qv (parts:=[]) (cells:= #[.slice none 0 0,.slice none 0 0]) fx fF ?_;refine fA ?_;refine hd aZ fx fx fF fx (fJ (l:=[.slice none 0 0,.slice none 0 0]) fx) (λm ae az=>?_);refine fA ?_;exact hP fx fx fx ae fF (bad (NA ap hm) m az)
  |true=>
  by_cases bX:e.node<0
  ·have aB:hN t=none:=KU ap (by unfold xD;rw[decide_eq_false fy];rfl);exact y13
  by_cases cZ:(t.ns.length:Int)<=e.node
  ·have aB:hN t=none:=KU ap (by unfold xD;rw[decide_eq_false (p:=e.node<(t.ns.length:Int)) fy,sO]);exact y13
  have bb:xD t.ns.length e=true:=by unfold xD;rw[decide_eq_true fy,decide_eq_true fy];rfl
  have bt:Ext f s:=af.t I;have W:=G2 (l:=t.es) (i:=i) hi;refine gz2 ?_;refine qD (α:=Nat) (λk=>[(1,.pointer (some ⟨w.heap.size,0,none⟩)),(2,.pointer (some ⟨O.heap.size,0,none⟩)),(4,.slice aX i cL),(5,.int .i64 (i:Int)),(6,.pointer (some ⟨f.heap.size,0,none⟩)),(7,.int .i64 (k:Int))]) (λk w'=>Ext s w'/\k=qL e (nb t.es i) i) ?_ ?_
  ·refine fA ?_;refine gA (α:=Nat) (λk=>[(1,.pointer (some ⟨w.heap.size,0,none⟩)),(2,.pointer (some ⟨O.heap.size,0,none⟩)),(4,.slice aX i cL),(5,.int .i64 (i:Int)),(6,.pointer (some ⟨f.heap.size,0,none⟩)),(7,.int .i64 (k:Int))]) (λk w'=>Ext s w'/\k<=i/\qL e (nb t.es i) k=qL e (nb t.es i) i) (λk=>k) i (sub ⟨rfl,rfl,rfl,rfl,rfl,rfl⟩) ⟨Fr.refl _ _,gJ _,rfl⟩ ?_;rintro k m ⟨C,hk,J⟩
   by_cases dk:0<k
   ·obtain⟨k,rfl⟩:=Nat.exists_eq_succ_of_ne_zero (show k≠0 by omega);obtain⟨b1,o4,y,e4,_,F,_,ba⟩:=aI.at_ (i:=k) (by rw[W];omega);subst e4;have cV:(nb t.es i).getD k default=y:=by rw[kv,F];rfl
    have cX:y∈t.es:=BU ((BE t.es i).mem_iff.1 (jS F));have cW:=aA.p y cX;rw[qL,cV]at J;have s0:m.drew.cell? ⟨f.heap.size,0,none⟩=some (.string (su e.path)):=(I.t C).ed.cell q0;have s1:m.drew.cell? ⟨b1,o4+k*2+0,none⟩=some (.string (su y.path)):=(bt.t C).ed.cell (ba 0 _ rfl)
    repeat' (first|refine gF k (o4+k*2) rfl rfl rfl fy rfl fy ?_|refine fT ?_|fail)
    refine fG fx fx (yp m.drew e.path y.path bO cW) (λr K b6=>?_);obtain⟨rfl,an⟩:=b6;have a5:Ext s K:=C.d.t an;cases bH:ie e.path y.path with
    |true=>
     rw[bH,if_pos rfl]at J;refine fA ?_;exact gn ⟨k,sub ⟨rfl,rfl,rfl,rfl,rfl,jX fy⟩,⟨a5,fy,J⟩,(by show k<k+1;omega)⟩
    |false=>
     rw[bH,if_neg fV]at J;refine fA ?_;exact gn ⟨k+1,sub ⟨rfl,rfl,rfl,rfl,rfl,rfl⟩,⟨a5,J⟩⟩
   ·obtain rfl:k=0:=fy;refine fA ?_;exact gn ⟨0,sub ⟨rfl,rfl,rfl,rfl,rfl,rfl⟩,⟨C.d,by simpa[qL]using J⟩⟩
  ·rintro k m ⟨C,hk⟩;have bE:k<=i:=by rw[hk];exact Dq _ _ _
   have cG:xA e (nb t.es i)=(nb t.es i).take k++[e]++(nb t.es i).drop k:=by unfold xA;rw[W,←hk];simp
   have a4:Ext f m:=bt.t C;refine fA ?_;refine aed iZ (λK aM an cN=>?_);refine fA ?_;have bS:=aU.ext (a4.t an);rw[W]at bS;refine aes gj k fx bS fx fx fx (by rw[W];exact bE) (λaF c8 ct=>?_);have ar:((nb t.es i).take k).length=k:=by rw[kt,W];omega
   have cu:Row K (.slice aF k c8) k (((nb t.es i).take k).flatMap hI):=by have:=ct;unfold Rw at this;rw[ar]at this;exact this
   refine jI (B:=m.heap.size) (news:=((nb t.es i).take k).flatMap hI) iZ fx fV fx aM fx cu (by rw[gl gj,ar]) (mK _) (by unfold maxLen;omega) fy fy (λv9 Q a8 N _=>?_);have ao:Ow hI 2 Q m.heap.size 49 v9 ((nb t.es i).take k):=by unfold Ow;rw[ar];simpa using a8
   have aL:Ext m Q:=an.trans N λj aq h=>by have:=(gD.gH aM h).1;omega
   have z9:=aL.size;have t6:Q.drew.cell? ⟨f.heap.size,0,none⟩=some (.string (su e.path)):=(I.t (C.t aL)).ed.cell q0;have aJ:fU Q.drew f.heap.size 49 (hI e).toArray:=fU.ext ak ((I.t (C.t aL)).d);refine fA ?_;refine gM (t:=49) aJ fx fx ?_;refine fA ?_;refine nY iZ fx fx fV fV (λaV aj cf dn=>?_);have a7:Ext Q aV:=(Fr.drew _ _).t cf;refine jI (B:=m.heap.size) (news:=hI e) iZ fx fV fx (ao.ext a7) fx (gS aj fV fx) fx (λu hu=>mK [e] u (by simpa using hu)) (by unfold maxLen;rw[ar];omega) (by rw[ar];omega) (by have:=a7.size;omega) (λv11 bk cm cj _=>?_);have bw:Ow hI 2 bk m.heap.size 49 v11 ((nb t.es i).take k++[e]):=Ow.ext1 (l':=[e]) (by simpa using cm);have a6:Ext m bk:=(aL.t a7).trans cj λj aq h=>by have:=(ao.gH h).1;omega
   have c0:=a6.size;refine fA ?_;have bR:=aU.ext (a4.t a6);rw[W]at bR;refine abV gj k fx bR fx fx fx (by rw[W];exact bE) (λbY xS bx=>?_);have bc:((nb t.es i).drop k).length=i-k:=by rw[lH,W]
   have bF:((nb t.es i).take k++[e]).length=k+1:=by rw[hQ,ar];rfl
   rw[W]at bx⊢;have cr:Row bk (.slice bY (i-k) xS) (i-k) (((nb t.es i).drop k).flatMap hI):=by have:=bx;unfold Rw at this;rw[bc]at this;exact this
   refine jI (B:=m.heap.size) (news:=((nb t.es i).drop k).flatMap hI) iZ fx fV fx bw fx cr (by rw[gl gj,bc]) (mK _) (by unfold maxLen;rw[bF];omega) (by rw[bF];omega) c0 (λv12 bW cn ck _=>?_)
   have co:Ow hI 2 bW m.heap.size 49 v12 (nb t.es (i+1)):=by
    rw[ND he,cG];exact Ow.ext1 (l':=(nb t.es i).drop k) (by rw[bc];exact cn)
   have ch:Ext m bW:=a6.trans ck λj aq h=>by have:=(bw.gH h).1;omega
   refine fA ?_;refine gn ⟨(i+1,v12),sub ⟨rfl,rfl,rfl,rfl⟩,⟨fW,λx T=>?_,co.rw,Y.t (a4.t ch)⟩,(by show t.es.length-(i+1)<t.es.length-i;omega)⟩;dsimp only at T;rw[kO,he]at T;rcases iK.1 T with T|T
   ·exact aD x T
   ·have cT:x=e:=by simpa using T
    rw[cT];exact⟨hm,bb⟩
 obtain rfl:i=t.es.length:=fy;rw[km]at aD;have cv:nb t.es t.es.length=jR t.es:=by unfold nb;rw[km];rfl
 rw[cv]at aI aU;have aO:=jg t.es;have bA:(jR t.es).length=t.es.length:=aO.length_eq;obtain⟨S,bz⟩:∃S,S=jR t.es:=⟨_,rfl⟩;rw[←bz]at aI aU aO bA;rw[←bA]
 have cy:∀e∈S,0<=e.node/\e.node<t.ns.length:=λe he=>by
  have:=(aD e (aO.mem_iff.1 he)).2;unfold xD at this;simpa using this
 have bM:∀r,gQ (jw t.ns S)=r->hN t=if r then some (jw t.ns S)else none:=λr cK=>by
  unfold hN;rw[←bz,cK,lj.2 λe he=>(aD e he).2];rfl
 refine fA ?_;refine gy (z:= .agg #[.slice none 0 0,.slice none 0 0]) fF (λG aY al cM=>?_);have cb:fU G f.heap.size 26 #[.slice none 0 0,.slice none 0 0]:=aY;have n14:G.cell? ⟨w.heap.size,1,none⟩=some (.slice ab t.ns.length X):=al.cell n1;refine fA ?_;refine XQ sB fx fx fx fy fy fy (λE ak bv dr=>?_);rw[jf]at ak⊢;have af:Ext f E:=al.t bv
 have cz:fU E G.heap.size 3 ((HC [] t.ns.length).map (Value.int .i64)).toArray:=by
  rw[SX,K2];simpa using ak
 refine fA ?_;refine gA (α:=RnS) (λx=>[(1,.pointer (some ⟨w.heap.size,0,none⟩)),(2,.pointer (some ⟨O.heap.size,0,none⟩)),(4,.slice aX S.length cL),(9,.pointer (some ⟨f.heap.size,0,none⟩)),(10,.slice (some ⟨G.heap.size,0,none⟩) t.ns.length t.ns.length),(11,.int .i64 (x.i:Int))]) (RnI t S f.heap.size G.heap.size E.heap.size fK f) (λx=>S.length-x.i) ⟨0,[],.slice none 0 0,.slice none 0 0,[],[]⟩ (sub ⟨rfl,rfl,rfl,rfl,rfl,rfl⟩) ⟨af,iy _,cb.ext bv,cz,rfl,Ow.nil _ _ _,Ow.nil _ _ _,rfl,(λy F=>by cases F),iy _,rfl,gJ _⟩ ?_;rintro⟨i,seen,aW,wn,nv,L⟩ s ⟨I,hi,av,aQ,J,aa,V,ah,ai,cO,bC,bQ⟩;dsimp only at I hi av aQ J aa V ah ai cO bC bQ⊢;have ay:Ext w s:=aK.t I;have cJ:nv.length=seen.length:=by have:=congrArg List.length ah;simpa using this
 by_cases fW:i<S.length
 ·obtain⟨b,o,e,rfl,_,he,cD,aR⟩:=aI.at_ fW;have ap:=jS he;obtain⟨bX,cZ⟩:=cy e ap;obtain⟨k,hk⟩:=lO bX;have sX:k<t.ns.length:=fy;rw[cD,iB]at J;have c1:s.cell? ⟨b,o+i*2+1,none⟩=some (.int .i64 (k:Int)):=by rw[←hk];exact I.cell (aR 1 _ rfl)
  have c4:s.cell? ⟨G.heap.size,k,none⟩=some (.int .i64 (if(k:Int)∈seen then((seen.idxOf (k:Int)+1:Nat):Int)else 0)):=by
   rw[aQ.cell];have:=yh (seen:=seen) sX;simp only[pB,qX,this,tH]
  have key:∀H:List Int,(H=seen/\(k:Int)∈seen∨H=seen++[(k:Int)]/\(k:Int)∉seen)->((L++[⟨e.path,(H.idxOf (k:Int):Int)⟩])++(iB H (S.drop (i+1))).1,(iB H (S.drop (i+1))).2)=iB [] S:=λH h=>by
   rw[hk]at J;rcases h with⟨rfl,hm⟩|⟨rfl,hm⟩
   ·rw[if_pos hm]at J;rw[←J];simp
   ·rw[if_neg hm]at J;rw[QU,if_neg hm];rw[←J];simp
  have b2:s.cell? ⟨f.heap.size,1,none⟩=some wn:=av.cell 1;have o1:s.cell? ⟨w.heap.size,1,none⟩=some (.slice ab t.ns.length X):=I.cell n1;refine gz3 ?_;refine RH fx ?_;refine gz3 ?_
  first|refine pa ?_|refine Bg ?_
  repeat' (first|refine gF i (o+i*2) rfl rfl rfl rfl rfl fW ?_|refine kV k k rfl rfl rfl rfl (by omega) sX ?_|refine SB (op:= .eql) (decide ((k:Int)∉seen)) rfl rfl rfl (by by_cases hm:(k:Int)∈seen<;>simp[hm]<;>omega) ?_|refine gk0 ?_|refine tL (by kernel_rfl) ?_|refine ox (by kernel_rfl) (by decide+kernel) ?_|fail)
  refine qD (α:=List Int×Value×List gG) (λy=>[(1,.pointer (some ⟨w.heap.size,0,none⟩)),(2,.pointer (some ⟨O.heap.size,0,none⟩)),(4,.slice (some ⟨b,o,none⟩) S.length cL),(9,.pointer (some ⟨f.heap.size,0,none⟩)),(10,.slice (some ⟨G.heap.size,0,none⟩) t.ns.length t.ns.length),(11,.int .i64 (i:Int)),(12,.int .i64 (k:Int))]) (RnJ t (k:Int) i seen L aW f.heap.size G.heap.size E.heap.size fK f) ?_ ?_
  ·by_cases hm:(k:Int)∈seen
   ·rw[decide_eq_false (λh=>h hm)];refine fA ?_;exact gn ⟨(seen,wn,nv),sub ⟨rfl,rfl,rfl,rfl,rfl,rfl,rfl⟩,⟨hm,.inl ⟨rfl,hm⟩,I,av,aQ,aa,V,ah,ai,by dsimp only;omega,bQ⟩⟩
   ·rw[decide_eq_true hm];obtain⟨bm,o3,n,b3,_,aS,_,ba⟩:=b8.at_ (i:=k) fy;subst b3;have cI:∀q u,(gz n)[q]? =some u->s.drew.cell? ⟨bm,o3+k*12+q,none⟩=some u:=λq u hu=>ay.ed.cell (ba q u hu)
    have bb:=aE.i n (jS aS);obtain⟨ad,c5,rfl,dd,de⟩:=V.form;have bo:s.drew.cell? ⟨f.heap.size,1,none⟩=some (.slice ad nv.length c5):=b2;have du:s.drew.cell? ⟨w.heap.size,1,none⟩=some (.slice (some ⟨bm,o3,none⟩) t.ns.length X):=o1;refine fA ?_;refine wC 8 [94] (λw'=>w'.cell? ⟨f.heap.size,1,none⟩=some (.slice ad nv.length c5)) fF (by decide+kernel) bo ?_
    repeat' (first|refine rO rfl rfl (λ_ h=>h) ?_|refine gF k (o3+k*12) rfl rfl rfl rfl rfl sX ?_|refine fT ?_|fail)
    refine hL (cs:=gz n) fx fx cI ?_;refine nY nx fx fx fV fV (λm ae C ds=>?_) (λw' he=>he.cell bo);have ag:Ext s m:=(Fr.drew _ _).t C;refine lC ?_;have dv:=ag.size;refine jI (B:=E.heap.size) (news:=gz n) nx fx fV fx (V.ext ag) fx (gS ae fV fx) fx (iN bb) (by unfold maxLen;omega) fy fy (λcY K aM M _=>?_);have aN:Ow gz 12 K E.heap.size 37 cY (nv++[n]):=Ow.ext1 (l':=[n]) (by simpa using aM);obtain⟨aF,c8,rfl,_,_⟩:=aN.form;have bd:∀x,x<E.heap.size->¬(Value.slice ad nv.length c5).ownBlock=some x:=λx T h=>by have:=(V.gH h).1;omega
    have z3:=al.size;have cR:fU K f.heap.size 26 #[aW,.slice ad nv.length c5]:=(av.ext ag).fr M (bd _ fy);refine fA ?_;refine iq cR fx fx fF fx fx (λQ aJ N=>?_);have cA:fU K G.heap.size 3 ((HC seen t.ns.length).map (Value.int .i64)).toArray:=(aQ.ext ag).fr M (bd _ fy);have cB:fU Q G.heap.size 3 ((HC seen t.ns.length).map (Value.int .i64)).toArray:=cA.fr N (show ¬G.heap.size=f.heap.size by omega);have c3:Q.cell? ⟨f.heap.size,1,none⟩=some (.slice aF (nv++[n]).length c8):=aJ.cell 1
    repeat' (first|refine kV k k rfl rfl rfl rfl fy sX ?_|refine fT ?_|fail)
    refine iq cB fx fx fx fx (by simp only[nz,jF,yg];exact decide_eq_true sX) (λaV aj R=>?_);refine fA ?_;have a5:Fr (λb=>(Value.slice ad nv.length c5).ownBlock=some b) s K:=Fr.t (Ext.fr ag) M;have bu:Ext f K:=(I.t ag).trans M λj aq h=>absurd h (bd j fy)
    have c2:=bu.size
    have cH:fU aV G.heap.size 3 ((HC (seen++[(k:Int)]) t.ns.length).map (Value.int .i64)).toArray:=by
     rw[Hl,show(nv++[n]).length=seen.length+1 from by rw[hQ,cJ];rfl]at aj;rw[←TF hm,qu];exact aj
    have bf:Ow hI 2 K E.heap.size 49 aW L:=(aa.ext ag).fr M (λb D h=>V.apart aa fV h D);refine gn ⟨(seen++[(k:Int)],.slice aF (nv++[n]).length c8,nv++[n]),sub ⟨rfl,rfl,rfl,rfl,rfl,rfl,rfl⟩,⟨by simp,.inr ⟨rfl,hm⟩,Z (Z bu N (gJ _)) R fy,aJ.fr R (show ¬f.heap.size=G.heap.size by omega),cH,(bf.fr N (λb D=>by have:=(bf.gH D).1;show ¬b=f.heap.size;omega)).fr R (λb D=>by have:=(bf.gH D).1;show ¬b=G.heap.size;omega),(aN.fr N (λb D=>by have:=(aN.gH D).1;show ¬b=f.heap.size;omega)).fr R (λb D=>by have:=(aN.gH D).1;show ¬b=G.heap.size;omega),?_,?_,?_,?_⟩⟩
    ·dsimp only;rw[pE,pE,ah]
     congr 1
     simp only[jm,Pe,jf,aE.getD aS]
    ·intro y F;rcases iK.1 F with F|F
     ·exact ai y F
     ·rw[kl.1 F];exact⟨jS aS,jS (aE.get aS)⟩
    ·dsimp only;rw[hQ];simp only[iA,kh];omega
    ·have:=N.size;have:=R.size;have:=M.size;omega
  ·rintro⟨H,bl,bV⟩ m ⟨bi,bT,C,bj,a9,aC,bg,bJ,bK,bP,cQ⟩;dsimp only at bi bT C bj a9 aC bg bJ bK bP cQ⊢;obtain⟨aG,ce,rfl,df,dg⟩:=aC.form;have bn:m.drew.cell? ⟨f.heap.size,0,none⟩=some (.slice aG L.length ce):=bj.cell 0;have cp:m.drew.cell? ⟨b,o+i*2+0,none⟩=some (.string (su e.path)):=C.ed.cell (aR 0 _ rfl)
   have c7:m.drew.cell? ⟨G.heap.size,k,none⟩=some (.int .i64 ((H.idxOf (k:Int)+1:Nat):Int)):=by
    have h1:=yh (seen:=H) sX;rw[if_pos bi]at h1;have aH:=a9.cell k;simp only[pB,qX,h1,tH]at aH;exact aH
   have dj:H.idxOf (k:Int)<H.length:=V3.2 bi;have z3:=al.size;refine fA ?_;refine wC 14 [110] (λw'=>w'.cell? ⟨f.heap.size,0,none⟩=some (.slice aG L.length ce)) fF (by decide+kernel) bn ?_
   repeat' (first|refine rO rfl rfl (λ_ h=>h) ?_|refine gF i (o+i*2) rfl rfl rfl rfl rfl fW ?_|refine kV k k rfl rfl rfl rfl fy sX ?_|refine fT ?_|fail)
   obtain⟨U,bD⟩:∃U:En,U=⟨e.path,(H.idxOf (k:Int):Int)⟩:=⟨_,rfl⟩;have cF:((H.idxOf (k:Int)+1:Nat):Int)-1=(H.idxOf (k:Int):Int):=fy
   refine qv (parts:=[(0,.tmp 115),(1,.tmp 120)]) (cells:=(hI U).toArray) (vs:=[(0,.string (su U.path)),(1,.int .i64 U.node)]) (by
    rw[bD];show some [(0,Value.string (su e.path)),(1,Value.int .i64 (((H.idxOf (k:Int)+1:Nat):Int)-1))]=_
    rw[cF]) fF ?_
   refine nY iZ fx fx fV fV (λK ax an cN=>?_) (λw' he=>he.cell bn);have am:Ext m K:=(Fr.drew _ _).t an;refine lC ?_;have c2:=am.size;refine jI (B:=E.heap.size) (news:=hI U) iZ fx fV fx (aC.ext am) fx (gS ax fV fx) fx (λu hu=>mK [_] u (by simpa using hu)) (by unfold maxLen;omega) fy fy (λv9 Q a8 N _=>?_);have ao:Ow hI 2 Q E.heap.size 49 v9 (L++[U]):=Ow.ext1 (l':=[U]) (by simpa using a8);obtain⟨b0,c9,rfl,_,_⟩:=ao.form;have be:∀x,x<E.heap.size->¬(Value.slice aG L.length ce).ownBlock=some x:=λx T h=>by have:=(aC.gH h).1;omega
   have cS:fU Q f.heap.size 26 #[.slice aG L.length ce,bl]:=(bj.ext am).fr N (be _ fy);refine fA ?_;refine iq cS fx fx fF fx fx (λaV aj R=>?_);refine fA ?_;have cg:Ext f Q:=(C.t am).trans N λj aq h=>absurd h (be j fy)
   have bN:Ow gz 12 Q E.heap.size 37 bl bV:=(bg.ext am).fr N (λb D h=>bg.apart aC fV D h);refine gn ⟨⟨i+1,H,.slice b0 (L++[U]).length c9,bl,bV,L++[U]⟩,sub ⟨rfl,rfl,rfl,rfl,rfl,rfl⟩,⟨Z cg R (gJ _),fW,aj,((a9.ext am).fr N (be _ fy)).fr R (show ¬G.heap.size=f.heap.size by omega),(by have:=key H bT;rw[←bD]at this;exact this),ao.fr R (λb D=>by have:=(ao.gH D).1;show ¬b=f.heap.size;omega),bN.fr R (λb D=>by have:=(bN.gH D).1;show ¬b=f.heap.size;omega),bJ,bK,bP,(by dsimp only;rw[hQ,bC];rfl),(by have:=N.size;have:=R.size;omega)⟩,(by show S.length-(i+1)<S.length-i;omega)⟩
 ·obtain rfl:i=S.length:=fy;have cq:iB [] S=(L,seen):=by rw[←J,jJ,iB,nk]
  have aP:jw t.ns S=⟨L,seen.map λk=>t.ns.getD k.toNat default⟩:=by unfold jw;rw[cq]
  have cw:∀w',Ext s w'->nj w' aW wn nv (jw t.ns S):=λw' a0=>by
   rw[aP];exact⟨aa.rw.ext a0,V.rw.ext a0,λy F=>(aE.i y (ai y F).1).ext (ay.t a0),ah⟩
  obtain⟨ad,c5,rfl,_,_⟩:=V.form;obtain⟨bZ,c6,rfl,_,_⟩:=aa.form
  have cx:N0 (jw t.ns S):=by
   have bL:∀n∈(jw t.ns S).ns,n∈t.ns:=λn au=>by
    rw[aP,←ah]at au;obtain⟨y,F,rfl⟩:=lN.1 au;exact(ai y F).2
   refine⟨λn au=>aA.b n (bL n au),λn au=>aA.g n (bL n au),λe he=>?_⟩;have:e.path∈(iB [] S).1.map (·.path):=wT (by exact he);rw[lK]at this;obtain⟨x,T,cU⟩:=lN.1 this;rw[←cU];exact aA.p x (aO.mem_iff.1 T)
  have br:fU s O.heap.size 26 #[.slice none 0 0,.slice none 0 0]:=bq.ext (Y.t I);have dp:=a2.size;refine fA ?_;refine gM (t:=26) av fx fx ?_;refine fA ?_;refine fG fx fx (I9 s _ _ nv (jw t.ns S) (cw s (Fr.refl _ _)) cx (by rw[aP];dsimp only;rw[jF];omega)) (λr m b5=>?_);obtain⟨rfl,C⟩:=b5;have a1:Ext w m:=ay.t C;cases hm:gQ (jw t.ns S)with
  |false=>
   have aB:hN t=none:=bM false hm;refine fA ?_;refine qv (parts:=[]) (cells:= #[.slice none 0 0,.slice none 0 0]) fx fF ?_;refine fA ?_;refine hd (br.ext C) fx fx fF fx (fJ (l:=[.slice none 0 0,.slice none 0 0]) fx) (λK ax M=>?_);refine fA ?_;exact hP fx fx fx ax fF (De aB (Z a1 M fy))
  |true=>
   have cP:hN t=some (jw t.ns S):=bM true hm;refine fA ?_;refine gM (t:=26) (av.ext C) fx fx ?_;refine fA ?_;refine hd (br.ext C) fx fx fF fx (fJ (l:=[.slice bZ L.length c6,.slice ad nv.length c5]) fx) (λK ax M=>?_);refine fA ?_;have bG:∀b,E.heap.size<=b->¬b=O.heap.size:=λb D=>by have:=af.size;have:=Y.size;omega
   refine hP fx fx fx ax fF ⟨Z a1 M fy,?_⟩;rw[cP];refine⟨_,_,nv,rfl,?_⟩;rw[aP];have bU:w.heap.size<=E.heap.size:=(aK.t af).size;have bB:=(aa.ext C).fr M λb D=>bG b (aa.gH D).1
   have bI:=(V.ext C).fr M λb D=>bG b (V.gH D).1
   exact⟨⟨bB.rw,bI.rw,λy F=>(aE.i y (ai y F).1).ext (Z a1 M fy),ah⟩,bB.mono bU,bI.mono bU,λy F=>(ai y F).1⟩
theorem JR (w:World) (ve vn:Value) (fK:List gG) (t:fY) (n:nj w ve vn fK t) (a:N0 t) (g:t.es.length<=1000000) (m:t.ns.length<=1000000):fL prog 28 #[.agg #[ve,vn]] w (aaS t w):=
 fL.mono (Gx w ve vn fK t n a g m) λr w' h=>by
  obtain⟨f,h⟩:=h;refine⟨f,?_⟩;cases a:hN t with
  |none=>rw[a]at h;exact h
  |some t'=>
   rw[a]at h;obtain⟨ve,vn,fK,h1,d,_⟩:=h;exact⟨ve,vn,fK,h1,d⟩
end
end Go.Proofs.YtecaahegomdbbaaGreatDoor.gp
