/- Parts of the proof. -/
import Derived.Test.YtecaahegomdbbaaGreatDoorRfB4a
set_option linter.all false
set_option maxRecDepth 100000
set_option maxHeartbeats 64000000
namespace Go.Proofs.YtecaahegomdbbaaGreatDoor.gp
open Go.Proofs.Tryz
open Go.RowKit
section
attribute [local irreducible] xs T
theorem DQ (size:Int):∀(l:List hJ) (last:Int),l.all jW=true->vW size last (jE l)=w9 size last l
 |[],_,_=>rfl
 |p::r,last,h=>by
  rw[rJ,iO]at h;have a:=h.1;simp only[jW,iO,decide_eq_true_eq]at a;have g:=DQ size r (p.pos+p.data.length) h.2;have d:((p.pos.toNat:Nat):Int)=p.pos:=fy;have f:p.data.length≠0:=λe=>a.1.1 (zJ.1 e)
  show(decide (p.data.length≠0)&&decide (last<((p.pos.toNat:Nat):Int))&&vW size (((p.pos.toNat:Nat):Int)+p.data.length) (jE r))=_
  rw[d,g,decide_eq_true f,iU];rfl
theorem Km {l:List hJ} (h:l.all jW=true) (f:fE l<=1000000):J8 (jE l):=by
 intro q hq;obtain⟨p,a,rfl⟩:=lN.1 hq;have d:=lj.1 h p a;simp only[jW,iO,decide_eq_true_eq]at d;have:=nR a;dsimp only;omega
theorem DE {x:gG} {j:Nat} {u:Value} (h:(qJ x)[j]? =some u):(gz x).toArray[1+j]? =some u:=by
 have e:gz x=[.int .i64 x.n.kind]++(qJ x++[.int .i64 x.n.size,x.vd,.string (su x.n.target),.int .i64 x.n.major,.int .i64 x.n.minor]):=rfl;rw[pB,e,qE ir,Bx,HY,pR (j0.1 h).1];exact h
theorem FI {p:hJ} (h:jW p=false):p.data=[]∨p.pos<0∨1099511627776<p.pos:=by
 by_cases h1:p.data=[]
 ·exact .inl h1
 ·by_cases d:p.pos<0
  ·exact .inr (.inl d)
  ·refine .inr (.inr ?_);rcases Int.lt_or_le 1099511627776 p.pos with a|a
   ·exact a
   ·simp[jW,h1,a]at h;omega
theorem DY (w:World) (x:gG) (N:ix w x) (E:fE x.n.data<=1000000):fL prog 92 #[.agg (gz x).toArray] w λr w'=>r= .bool (jP x.n)/\Ext w w':=by
 refine gr func92 fx fF ?_;unfold jP;refine fA ?_;refine hD fx (λG U f ah=>?_);have I:fU G w.heap.size 37 (gz x).toArray:=U;obtain⟨A,c,T,X,ae,O⟩:=N.d.op ha;have k7:G.cell? ⟨w.heap.size,7,none⟩=some (.int .i64 x.n.size):=I.cell 7;have k8:G.cell? ⟨w.heap.size,8,none⟩=some (.slice A x.n.data.length c):=by rw[←T];exact I.cell 8
 by_cases h0:¬0<=x.n.size
 ·refine fA ?_;exact fB fx fx ⟨by simp[h0],f⟩
 have h0:0<=x.n.size:=fy
 by_cases h1:¬x.n.size<=1099511627776
 ·refine fA ?_;exact fB fx fx ⟨by simp[h1],f⟩
 have h1:x.n.size<=1099511627776:=fy
 by_cases D:¬x.n.data.length<=16
 ·refine fA ?_;exact fB fx fx ⟨by simp[D],f⟩
 have D:x.n.data.length<=16:=fy;rw[decide_eq_true h0,decide_eq_true h1,decide_eq_true D,iU,iU,iU];obtain⟨l,B⟩:∃l,l=x.n.data:=⟨_,rfl⟩;have W:=E;rw[←B]at O X k8 W D⊢;refine fA ?_;refine gA (α:=Nat) (λi=>[(1,.pointer (some ⟨w.heap.size,0,none⟩)),(20,.slice A l.length c),(21,.int .i64 (l.length:Int)),(22,.int .i64 (i:Int))]) (λi w'=>Ext G w'/\i<=l.length/\(l.drop i).all jW=l.all jW) (λi=>l.length-i) 0 (sub ⟨rfl,rfl,rfl,rfl⟩) ⟨Fr.refl _ _,iy _,rfl⟩ ?_;rintro i s ⟨v,hi,m⟩
 by_cases fW:i<l.length
 ·obtain⟨b,o,p,rfl,_,ag,Z,Y⟩:=O.at_ fW;have ab:∀j u,(j5 p)[j]? =some u->s.cell? ⟨b,o+i*2+j,none⟩=some u:=λj u hu=>v.cell (f.cell (Y j u hu))
  rw[Z,rJ]at m;refine zF ?_;refine hL (cs:=j5 p) fx fx ab ?_;refine gy (z:= .agg #[.int .i64 0,.string ⟨#[]⟩]) fF (λH K a ai=>?_);refine hd (cs:=(j5 p).toArray) K fx fx fx fx (uB p) (λC Q V=>?_);have y:Ext s C:=Ext.te a V λj af e=>by have e':j=s.heap.size:=e;omega
  have q0:C.cell? ⟨s.heap.size,0,none⟩=some (.int .i64 p.pos):=Q.cell 0;have q1:C.cell? ⟨s.heap.size,1,none⟩=some (.string (su p.data)):=Q.cell 1;have L:=f.t (v.t y);cases F:jW p with
  | false=>
   rw[F,hW]at m;rw[←m]
   by_cases g1:p.data=[]
   ·repeat' (first|refine gq (op:= .eql) (b:=[]) (r:=true) rfl rfl (by simp[hZ,g1]) ?_|refine fT ?_|fail)
    exact fB fx fx ⟨rfl,L⟩
   by_cases g2:p.pos<0
   ·refine W2 ?_;exact fB fx fx ⟨rfl,L⟩
   have g3:1099511627776<p.pos:=(FI F).resolve_left g1|>.resolve_left g2
   refine W2 ?_;exact fB fx fx ⟨rfl,L⟩
  |true=>
   rw[F,iU]at m;have hk:=F;simp only[jW,iO,decide_eq_true_eq]at hk;obtain⟨⟨g1,g2⟩,g3⟩:=hk;refine W2 ?_;exact gn ⟨i+1,sub ⟨rfl,rfl,rfl,rfl⟩,⟨v.t y,fy,m⟩,(by show l.length-(i+1)<l.length-i;omega)⟩
 ·obtain rfl:i=l.length:=fy;rw[jJ]at m;have M:x.n.data.all jW=true:=by rw[←B,←m];rfl
  rw[←m,Fq,iU];have J:fU s w.heap.size 37 (gz x).toArray:=I.ext v;have m7:s.drew.cell? ⟨w.heap.size,7,none⟩=some (.int .i64 x.n.size):=J.cell 7;refine fA ?_;refine kZ [47] (λw'=>w'.cell? ⟨w.heap.size,7,none⟩=some (.int .i64 x.n.size)) fF (by decide+kernel) m7 ?_;refine gM (t:=37) J fx fx ?_;refine fI fx fx (p5 s.drew x (N.ext (f.t v.d)) E) ?_ ?_
  ·rintro r H ⟨rfl,a⟩;rw[←B]
   by_cases g:fE l<=4000
   ·rw[decide_eq_true g,iU];have K:fU H w.heap.size 37 (gz x).toArray:=J.drew.ext a;have R:=f.t (v.d.t a);refine fA ?_;refine gM (t:=37) K fx fx ?_;refine fA ?_;refine fI fx fx (vA H x (N.ext R) M E (by rw[←B];omega)) ?_ ?_
    ·rintro r C ⟨aa,y⟩;have S:=aa.rw;rw[←B]at S
     repeat' (first|refine rO rfl rfl (λw' h=>h) ?_|refine fT ?_|fail)
     refine fI fx fx (EZ C r (jE l) x.n.size S (by rw[B];exact Km M E)) ?_ ?_
     ·rintro r ad ⟨rfl,rfl⟩;rw[decide_eq_true h0,decide_eq_true h1,iU,iU,DQ _ _ _ (by rw[B];exact M)];refine fA ?_;exact fB fx fx ⟨rfl,R.t y⟩
     ·rintro r ad ⟨_,rfl⟩;exact y.cell (a.cell m7)
    ·rintro r C ⟨_,y⟩;exact y.cell (a.cell m7)
   ·rw[decide_eq_false g,hW];refine fA ?_;exact fB fx fx ⟨rfl,f.t (v.d.t a)⟩
  ·rintro r H ⟨_,a⟩;exact a.cell m7
end
end Go.Proofs.YtecaahegomdbbaaGreatDoor.gp
namespace Go.Proofs.YtecaahegomdbbaaGreatDoor
open Go.Proofs.Tryz
namespace gp.Wr
variable {l:List hJ} {p:hJ}
def J0 (r:fQ) (k:Nat) (d:fQ):fQ:=r.take k++d.take (r.length-k)++r.drop (k+d.length)
theorem Sq (r:fQ) (k:Nat) (d:fQ) (hk:k<=r.length):(J0 r k d).length=r.length:=by
 grind [J0,List.length_append,List.length_take,List.length_drop]
theorem SJ (r:fQ) (k:Nat) (d:fQ) (hk:k<=r.length) {j:Nat} (a:j<r.length):(J0 r k d)[j]? =if k<=j/\j<k+d.length then d[j-k]? else r[j]? :=by
 grind [J0,List.length_take,List.append_assoc,List.getElem?_append_left,List.length,List.getElem?_append_right,List.length_append]
def Og (q0 q1:Int) (p:hJ):Bool:=decide (q0<=p.pos/\p.pos<q1)
def qA (q0 q1:Int) (r:fQ) (p:hJ):fQ:=if Og q0 q1 p then J0 r (p.pos-q0).toNat p.data else r
def oj (q0 q1:Int) (P:List hJ) (r:fQ):fQ:=P.foldl (qA q0 q1) r
theorem Cv {q0 q1:Int} {r:fQ} (hq:q1-q0<=r.length):(qA q0 q1 r p).length=r.length:=by
 grind [qA,Og,Sq]
theorem CJ {q0 q1:Int} {r:fQ} (hq:q1-q0<=r.length) {k:Nat} (hk:k<r.length):(qA q0 q1 r p)[k]? =if Og q0 q1 p=true/\p.pos<=q0+k/\q0+k<gO p then p.data[(q0+(k:Int)-p.pos).toNat]? else r[k]? :=by
 grind [qA,Og,SJ,gO,List.length]
theorem sk (q0 q1:Int):∀(P:List hJ) (r:fQ),q1-q0<=r.length->(oj q0 q1 P r).length=r.length
 |[],_,_=>rfl
 |p::P,r,h=>by
  have h1:=Cv (p:=p) h;unfold oj;rw[u3];have:=sk q0 q1 P (qA q0 q1 r p) fy
  grind [oj]
theorem zN {c:hJ->Bool}:∀{l:List hJ} {x:Int},(∀p∈l,p.pos<=x/\x<gO p->c p=true)->qz (l.filter c) x=qz l x
 |[],_,_=>rfl
 |p::r,x,h=>by
  have a:=zN (l:=r) (x:=x) λq hq=>h q (qe _ hq)
  grind [gO,List.mem_cons_self,qz]
theorem PK {r:List hJ} (h:js 1 (p::r)) {x:Int} (a:p.pos<=x/\x<gO p) (c:hJ->Bool):qz (r.filter c) x=none:=by
 grind [pL,js,List.pairwise_cons]
theorem Cj (q0 q1:Int):∀(l:List hJ) (r:fQ),js 1 l->q1-q0<=r.length->∀k:Nat,k<r.length->(oj q0 q1 l r)[k]? =(qz (l.filter (Og q0 q1)) (q0+k)).or r[k]?
 |[],r,_,_,k,_=>by simp[oj,qz]
 |p::l,r,hs,hq,k,hk=>by
  have h1:=Cv (p:=p) hq;have a:js 1 l:=by unfold js at hs⊢;exact fS
  have d:=Cj q0 q1 l (qA q0 q1 r p) a fy k fy
  grind [oj,qA,CJ,Og,qz,gO,PK,mI]
theorem zB:∀{a:List hJ} {q:hJ},js 1 a->q∈a->qz a (q.pos-1)=none
 |[],q,_,hq=>by cases hq
 |p::a,q,hs,hq=>by
  unfold js at hs;rw[jr]at hs;rcases hX.1 hq with rfl|hq
  ·grind [pL,gO]
  ·rw[qz,if_neg fS];exact zB hs.2 hq
theorem Ts {pos:Int} {s:fQ} (u:js 1 l) (t:∀p∈l,0<=p.pos/\gO p<=1099511627776) (m:js 1 (qN l pos s)) {q:hJ} (hq:q∈qN l pos s):
  oj q.pos (gO q) (l++[⟨pos,s⟩]) (List.replicate q.data.length 0)=q.data:=by
 have hw:gO q-q.pos<=(List.replicate q.data.length (0:UInt8)).length:=by rw[KI];unfold gO;omega
 have hlen:=sk q.pos (gO q) (l++[⟨pos,s⟩]) _ hw;rw[KI]at hlen;have v:=sk q.pos (gO q) l _ hw;have a:=zB m hq;rw[I1 t]at a;refine vm λk=>?_
 by_cases hk:k<q.data.length
 ·have y:q.pos<=q.pos+(k:Int)/\q.pos+(k:Int)<gO q:=by unfold gO;omega
  have f:=XM m hq y;rw[I1 t,show(q.pos+(k:Int)-q.pos).toNat=k by omega]at f
  have w:oj q.pos (gO q) (l++[⟨pos,s⟩]) (List.replicate q.data.length 0)=qA q.pos (gO q) (oj q.pos (gO q) l (List.replicate q.data.length 0)) ⟨pos,s⟩:=by
   unfold oj;rw[Lo];rfl
  rw[w,CJ (by rw[v];exact hw) fy];have he:gO (⟨pos,s⟩:hJ)=pos+(s.length:Int):=rfl;rw[he];dsimp only
  by_cases g:pos<=q.pos+(k:Int)/\q.pos+(k:Int)<pos+(s.length:Int)
  ·rw[if_pos g]at f
   have C:Og q.pos (gO q) ⟨pos,s⟩=true:=by
    unfold Og;rw[decide_eq_true_eq];dsimp only;refine⟨Int.not_lt.1 λfW=>?_,fy⟩;rw[if_pos fy]at a;obtain⟨b,d⟩:=mI (p:=⟨pos,s⟩) (x:=q.pos-1) fS;dsimp only at d;rw[d]at a;cases a
   grind
  ·rw[if_neg g]at f;rw[if_neg (λn=>g n.2),Cj _ _ _ _ u hw k fy]
   have E:q.data[k]?≠none:=by
    rw[kp hk];exact λh=>by cases h
   have B:qz (l.filter (Og q.pos (gO q))) (q.pos+(k:Int))=qz l (q.pos+(k:Int)):=zN λp D n=>by
    unfold Og;rw[decide_eq_true_eq];refine⟨Int.not_lt.1 λfW=>?_,fy⟩;split at a
    ·rename_i h;obtain⟨b,d⟩:=mI (p:=⟨pos,s⟩) (x:=q.pos-1) fS
     grind
    grind [pL]
   grind
 grind
theorem Lp (h:∀p∈l,0<=p.pos) (x:Nat):tp (jE l) x↔qz l x≠none:=by
 unfold tp jE;constructor
 ·grind [pL,gO]
 ·intro f
  obtain⟨p,a,d⟩:∃p∈l,p.pos<=(x:Int)/\(x:Int)<gO p:=by
   grind [pL]
  have h0:=h p a;unfold gO at d;exact⟨_,lN.2 ⟨p,a,rfl⟩,by dsimp only;omega,by dsimp only;omega⟩
theorem MX {pos:Int} {s:fQ} (w:∀p∈l,0<=p.pos/\gO p<=1099511627776/\p.data≠[]) (h0:0<=pos) (hs:s≠[]) (f:js 1 (qN l pos s)) (t:∀q∈qN l pos s,q.data≠[]/\0<=q.pos) {zz:List mr} (d:zz.Perm (jE l++[(pos.toNat,s.length)])) (g:Bm zz):FK zz=jE (qN l pos s):=by
 have hs0:0<s.length:=fS
 have m:Jv zz:=λe he=>by
  rcases iK.1 (d.mem_iff.1 he)with he|he
  ·obtain⟨p,d,rfl⟩:=lN.1 he
   grind
  grind
 obtain⟨m1,m2,m3⟩:=Mh g m;refine AE _ _ m1 ?_ m2 ?_ λx=>?_
 ·unfold GL jE;rw[zd];unfold js at f;refine f.imp_of_mem λ{a b} g v u=>?_
  grind [gO]
 ·intro e he;obtain⟨p,d,rfl⟩:=lN.1 he
  grind
 ·rw[m3 x,Lp fS,I1 fS]
  have hc:tp zz x↔tp (jE l) x∨(pos<=(x:Int)/\(x:Int)<pos+(s.length:Int)):=by
   unfold tp;constructor
   ·grind
   ·rintro(⟨e,he,n⟩|n)
    ·grind
    ·exact⟨_,d.mem_iff.2 (FA _ (kl.2 fx)),by dsimp only;omega,by dsimp only;omega⟩
  grind [Lp,List.length,mI,id,absurd]
end gp.Wr
end Go.Proofs.YtecaahegomdbbaaGreatDoor
namespace Go.Proofs.YtecaahegomdbbaaGreatDoor.gp
open Go.Proofs.Tryz
open Go.RowKit
section
open Go.RowKit Go.Sort Go.Shelf
open Wr
section
variable {hs:List Nat} {H:World->Prop} {full:Array Oper} {K:Env->World->Prop} {rest:List Oper} {env:Env} {w:World} {d:Tmp} {ty:TypeId} {pos:String} {af:Array Edge}
theorem ac7 {t m:TypeId} {x y:Operand} {a:Nat} (f:gh env x=some (.float .f64 (fw a))) (g:gh env y=some (.float .f64 (fw a))) (n:a<=1099511627776)
  (h:xs prog fD fC hs H full K rest ((d,.bool false)::env) w):xs prog fD fC hs H full K (⟨some d,.binOp .neq t x y m,ty,pos,af,none⟩::rest) env w:=by
 refine jA f g (by rfl) (λw'=>?_) h;have hc:(binOp .neq t (.float .f64 (fw a)) (.float .f64 (fw a)))=pure (.bool (FloatKind.f64.format.order (fw a) (fw a) !=some .eq)):=by simp[binOp,Op.floatCmp]
 rw[hc,zl fy fy,BY.2 rfl];rfl
theorem XN {t n:TypeId} {x y:Operand} {a b:Nat} (g:gh env x=some (.float .f64 (fw a))) (m:gh env y=some (.float .f64 (fw b))) (s:a<=1099511627776) (u:b<=1099511627776) {r:Bool} (f:decide (a<b)=r)
  (h:xs prog fD fC hs H full K rest ((d,.bool r)::env) w):xs prog fD fC hs H full K (⟨some d,.binOp .lss t x y n,ty,pos,af,none⟩::rest) env w:=by
 refine jA g m (by rfl) (λw'=>?_) h;have hc:(binOp .lss t (.float .f64 (fw a)) (.float .f64 (fw b)))=pure (.bool (FloatKind.f64.format.order (fw a) (fw b)==some .lt)):=by simp[binOp,Op.floatCmp]
 rw[hc,zl fy fy,←f];rcases zy a b with h|h|h
 ·rw[BQ.2 h,decide_eq_true h];rfl
 ·rw[BY.2 h,decide_eq_false fy];rfl
 ·rw[Ch.2 h,decide_eq_false fy];rfl
end
attribute [local irreducible] xs T
theorem wP (w:World) (a:Nat) (d:a<=1099511627776):fL prog 229 #[.float .f64 (fw a)] w λr w'=>r= .bool false/\w=w':=by
 refine gr func229 fx fF ?_
 repeat' (first|refine ac7 rfl rfl d ?_|refine fT ?_|fail)
 exact y2
def JD (a b:Nat):Int:=if a<b then-1 else if b<a then 1 else 0
theorem Nw (w:World) (a b:Nat) (d:a<=1099511627776) (f:b<=1099511627776):fL prog 162 #[.float .f64 (fw a),.float .f64 (fw b)] w λr w'=>r= .int .i64 (JD a b)/\w=w':=by
 refine gK func162 fx fF ?_;refine fA ?_;refine fG fx fx (wP w a d) (λr g h1=>?_);obtain⟨rfl,rfl⟩:=h1;refine fA ?_;refine fG fx fx (wP w b f) (λr g h1=>?_);obtain⟨rfl,rfl⟩:=h1
 by_cases h0:a<b
 ·repeat' (first|refine XN (r:=true) rfl rfl d f (decide_eq_true h0) ?_|refine fT ?_|fail)
  exact fB fx fx ⟨by simp[JD,h0],rfl⟩
 ·by_cases h1:b<a
  ·repeat' (first|refine XN (r:=false) rfl rfl d f (decide_eq_false h0) ?_|refine L8 (r:=true) rfl rfl d f (decide_eq_true h1) ?_|refine fT ?_|fail)
   exact fB fx fx ⟨by simp[JD,h0,h1],rfl⟩
  ·repeat' (first|refine XN (r:=false) rfl rfl d f (decide_eq_false h0) ?_|refine L8 (r:=false) rfl rfl d f (decide_eq_false h1) ?_|refine fT ?_|fail)
   exact fB fx fx ⟨by simp[JD,h0,h1],rfl⟩
theorem Hy (w:World) (a b c e:Nat) (d:a<=1099511627776) (f:b<=1099511627776):fL prog 161 #[.complex .f64 (fw a) (fw c),.complex .f64 (fw b) (fw e)] w λr w'=>r= .int .i64 (JD a b)/\w=w':=by
 refine gK func161 fx fF ?_
 repeat' (first|refine Pr rfl ?_|refine fT ?_|fail)
 refine fG fx fx (Nw w a b d f) (λr g h1=>?_);exact y9
abbrev Xl:={p:Nat×Nat//p.1<=1099511627776/\p.2<=1099511627776}
instance instExV:Inhabited Xl:=⟨⟨(0,0),by decide,by decide⟩⟩
def KW (p:Xl):Value:= .complex .f64 (fw p.1.1) (fw p.1.2)
def ZQ (x y:Xl):Int:=JD x.1.1 y.1.1
theorem DU (x y:Xl):ltOf ZQ x y=decide (x.1.1<y.1.1):=by
 unfold ltOf ZQ JD
 by_cases h:x.1.1<y.1.1
 ·simp[h]
 ·by_cases h1:y.1.1<x.1.1<;>simp[h,h1]
theorem acz:SWO (ltOf ZQ):=by
 refine⟨λx=>?_,λx y z h1 a=>?_,λx y z h1 a=>?_⟩
 ·rw[DU];simp
 ·rw[DU]at*;simp only[decide_eq_true_eq]at*;omega
 ·rw[DU]at*;simp only[decide_eq_false_iff_not]at*;omega
def toV (l:List (Nat×Nat)) (h:J8 l):List Xl:=l.attach.map λp=>⟨p.1,h p.1 p.2⟩
theorem Ub (l:List (Nat×Nat)) (h:J8 l):(toV l h).map Subtype.val=l:=by
 unfold toV;rw[sH];exact List.attach_map_subtype_val l
theorem PM:∀l:List Xl,(l.map Subtype.val).flatMap qy=l.map KW
 |[]=>rfl
 |x::l=>by rw[jm,wb,jm,PM l];rfl
theorem Bb {n:Nat} (d:Array Xl) (cur:Array Value) (a:d.size=n) (f:n<=cur.size):(putCells KW 0 d cur).toList.take n=d.toList.map KW:=by
 apply vm;intro k
 by_cases hk:k<n
 ·rw[FN hk,E0];unfold putCells;rw[Vn,wi fy,tH,if_pos ⟨iy _,fy⟩,qX,E0,wi fy,tH,Lc,getElem!_pos d k fy]
 ·rw[A6 (by rw[kt];omega),A6 (by rw[jF,pb];omega)]
theorem IC (w:World) (B:Nat) (v:Value) (l:List (Nat×Nat)) (ah:Ow qy 1 w B 157 v l) (I:J8 l) (h0:l≠[]) (aj:l.length<=1000000):
  fL prog 160 #[v,.func (.func 161) #[] #[]] w λ_ w'=>(∃l',l'.Perm l/\Bm l'/\Ow qy 1 w' B 157 v l')/\Fr (λb=>v.ownBlock=some b) w w':=by
 have C:=Ub l I;obtain⟨L,T⟩:∃L,L=toV l I:=⟨_,rfl⟩;rw[←T]at C;have D:L.length=l.length:=by rw[←C,jF]
 obtain⟨hlen,hO⟩:=ah;rcases hO with⟨rfl,ai⟩|⟨b,cap,cur,rfl,S,g,O,Q,R,F⟩
 ·exact absurd (zJ.1 ai) h0
 have fW:b<w.heap.size:=fU.lt (t:=157) (cs:=cur) g;have X:l.flatMap qy=L.map KW:=by rw[←C];exact PM L
 rw[X]at F hlen
 have W:∀j,j<L.toArray.size->cur[j]? =some (KW L.toArray[j]!):=by
  intro j d;have E:j<L.length:=by simpa using d
  have f:(cur.toList.take (l.length*1))[j]? =some (KW L[j]):=by rw[F,qX,kp E,tH]
  rw[FN fy,E0]at f;rw[f,getElem!_pos L.toArray j d];simp
 have hH:Holds KW w b 0 L.toArray:=by
  intro j d;refine⟨?_,?_⟩
  ·have:=fU.cell (t:=157) (cs:=cur) g (0+j);rw[this,iC];exact W j d
  ·simp only[World.frozen?,g];simp
 have N:∀args w,(callFunc 161 args).run prog w= .ok (.enter 161 args) w:=enters_of func161 fF rfl
 have V:CmpLays1 prog 161 #[] KW ZQ b 0 L.toArray.size w:=CmpReads.lays λm os K hs x y=>by
  have h:=Hy (sortWorld KW w b 0 m K os) x.1.1 y.1.1 x.1.2 y.1.2 x.2.1 y.2.1;refine pP h λe w' ⟨u,he,af,hw⟩=>?_
  subst af;exact⟨he,0,hw▸rfl⟩
 have G:=Any.slices_SortFunc Z8 KW (λ_=>rfl) ZQ acz 161 #[] b 0 cap L.toArray w N V hH fW (by simp;omega);rw[nz,D]at G;refine pP G λe w' ⟨he,a,n,os,ad,hs,hw⟩=>?_
 refine⟨.tuple #[],he,?_,?_⟩
 ·obtain⟨ag,_,J⟩:=ad;have s:a.size=l.length:=by rw[ag,nz,D]
  refine⟨a.toList.map Subtype.val,?_,?_,?_⟩
  ·have f:(a.extract 0 l.length).toList=a.toList:=by rw[←s];simp
   have M:(L.toArray.extract 0 l.length).toList=L:=by rw[←D];simp
   rw[f,M]at J;have:=J.map Subtype.val;rw[C]at this;exact this
  ·unfold Bm;rw[zd,G1];intro i j hi d Z;have Y:i<a.size:=by simpa using hi
   have E:j<a.size:=by simpa using d
   have:=hs i j (iy _) Z fy;rw[DU,getElem!_pos a j E,getElem!_pos a i Y]at this;simp only[decide_eq_false_iff_not]at this;simp only[Wj];omega
  ·have U:w'.heap[b]? =some (.cells (putCells KW 0 a cur) 157 (0,0)):=by
    rw[hw];unfold sortWorld;rw[heap_grow_old _ _ (by simpa[putRow,mapBlock]using fW)];simp only[putRow,mapBlock,tw,if_true,heap_ahead,g,tH,onCells]
   have ae:(putCells KW 0 a cur).size=cur.size:=by simp[putCells]
   have H:(a.toList.map Subtype.val).flatMap qy=a.toList.map KW:=PM _;refine⟨?_,.inr ⟨b,cap,putCells KW 0 a cur,?_,S,U,?_,Q,?_,?_⟩⟩
   ·rw[H];simp
   ·simp[s]
   ·simpa[s]using O
   ·rw[ae];exact R
   ·rw[H,jF,pb,ph];exact Bb a cur fx (by rw[s];omega)
 ·rw[hw];unfold sortWorld;refine⟨rfl,rfl,rfl,by simp,λk hk ab=>?_⟩;have aa:k≠b:=λe=>ab (by rw[e];rfl)
  rw[heap_grow_old _ _ (by simpa[putRow,mapBlock]using hk)];simp only[putRow,mapBlock,tw,if_neg (uM aa),heap_ahead]
end
section
open Wr
attribute [local irreducible] xs T
def RJ (l:List mr):Prop:=∀p∈l,0<p.2/\p.1+p.2<=1099511627776
theorem RJ.ok {l:List mr} (h:RJ l):J8 l:=λp a=>by have:=h p a;omega
theorem Ow.acG {α:Type} {d:α->List Value} {z B n c b o:Nat} {e:TypeId} {w:World} {l:List α} (h:Ow d z w B e (.slice (some ⟨b,o,none⟩) n c) l):o=0:=by
 obtain⟨_,h⟩:=h;rcases h with⟨a,_⟩|⟨f,cap,cur,a,_⟩
 ·cases a
 ·injection a with a
  injection a with a
  injection a
structure ace (l:List mr) (w:World) (x:Nat×Value) (w':World):Prop where
 i:x.1<=l.length
 own:Ow qy 1 w' w.heap.size 157 x.2 (l.take x.1)
 ext:Ext w w'
structure aeb (l:List mr) (w:World) (x:Nat×Value×List mr) (w':World):Prop where
 i:x.1<=l.length
 own:Ow qy 1 w' w.heap.size 157 x.2.1 x.2.2
 ext:Ext w w'
 ok:RJ x.2.2
 n:x.2.2.length<=x.1
 m:(x.2.2=[]/\x.1=0)∨∃b c,x.2.2=b++[c]/\FK l=b++xy c (l.drop x.1)
theorem zu (w:World) (v:Value) (l:List mr) (aA:Rw qy w v l) (W:RJ l) (h0:l≠[]) (aK:l.length<=100000):fL prog 98 #[v] w λr w'=>(∃s,s.Perm l/\Bm s/\Ow qy 1 w' w.heap.size 157 r (FK s))/\Ext w w':=by
 refine gr func98 fx fF ?_;obtain⟨A,c,rfl,aC,aD,ad⟩:=aA.op nO;refine fA ?_;refine gA (α:=Nat×Value) (λy=>[(3,y.2),(11,.slice A l.length c),(12,.int .i64 (l.length:Int)),(13,.int .i64 (y.1:Int))]) (ace l w) (λy=>l.length-y.1) (0,.slice none 0 0) (sub ⟨rfl,rfl,rfl,rfl⟩) ⟨iy _,Ow.nil _ _ _,Fr.refl _ _⟩ ?_;rintro⟨i,v⟩ Q ⟨hi,d,I⟩;dsimp only at hi d I⊢
 by_cases fW:i<l.length
 ·obtain⟨b,o,p,rfl,_,C,T,V⟩:=ad.at_ fW;obtain⟨Y,Z⟩:=W p (jS C);have k0:=I.cell (V 0 _ rfl);rw[ph,kS]at k0;refine Qm ?_;refine fG fx fx (mR Q p.1 p.2 fy) (λr n h1=>?_);obtain⟨rfl,rfl⟩:=h1;refine fA ?_;refine fG fx fx (kM Q p.1 p.2 fy) (λr n h1=>?_);obtain⟨rfl,rfl⟩:=h1;refine MI ?_;refine fG fx fx (kM Q p.1 p.2 fy) (λr n h1=>?_);obtain⟨rfl,rfl⟩:=h1;rw[show min (p.2:Int) (1099511627776-(p.1:Int))=(p.2:Int)from by omega];refine fA ?_;refine fG fx fx (xP Q p.1 p.2 fy fy) (λr G an=>?_);obtain⟨rfl,rfl⟩:=an;refine fA ?_;refine Ia (vs:=qy p) mJ fx fx fV fV (λu hu=>by rw[kl.1 hu];rfl) (λG J F ai=>?_);have aJ:(l.take i).length=i:=by rw[kt];omega
  refine jI (news:=qy p) mJ fx fV fx (gD.ext d F) fx (gS J fV fx) fx (λu hu=>by rw[kl.1 hu];rfl) (by unfold maxLen;omega) fy (by have:=I.size;have:=F.size;omega) (λD S N L aj=>?_)
  have O:Ow qy 1 S w.heap.size 157 D (l.take (i+1)):=by
   have e:l.take (i+1)=l.take i++[p]:=by rw[kO,C];rfl
   rw[e];exact Ow.ext1 (l':=[p]) (by simpa using N)
  refine fA ?_;exact gn ⟨(i+1,D),sub ⟨rfl,rfl,rfl,rfl⟩,⟨fW,O,Ext.te (I.t F) L λj U e=>by have:=(d.gH e).1;omega⟩,(by show l.length-(i+1)<l.length-i;omega)⟩
 obtain rfl:i=l.length:=fy;rw[km]at d;refine fA ?_;refine fG fx fx (IC Q _ v l d W.ok h0 fy) (λr R am=>?_);obtain⟨⟨s,aa,au,ah⟩,af⟩:=am;have ae:Ext w R:=Ext.te I af λj U e=>by have:=(d.gH e).1;omega
 have aN:s.length=l.length:=aa.length_eq;have az:RJ s:=λp C=>W p (aa.mem_iff.1 C)
 obtain⟨ak,c2,rfl,aE,aF,ao⟩:=ah.rw.op nO;clear d ah ad af I;refine fA ?_;refine gA (α:=Nat×Value×List mr) (λy=>[(7,y.2.1),(35,.slice ak s.length c2),(36,.int .i64 (s.length:Int)),(37,.int .i64 (y.1:Int))]) (aeb s R) (λy=>s.length-y.1) (0,.slice none 0 0,[]) (sub ⟨rfl,rfl,rfl,rfl⟩) ⟨iy _,Ow.nil _ _ _,Fr.refl _ _,λp C=>by simp at C,gJ _,.inl ⟨rfl,rfl⟩⟩ ?_;rintro⟨i,v,out⟩ f ⟨hi,d,B,M,X,hm⟩;dsimp only at hi d B M X hm⊢;obtain⟨aB,c4,rfl,aG,aH,ap⟩:=d.rw.op nO
 by_cases fW:i<s.length
 ·obtain⟨b,o,p,rfl,_,C,T,V⟩:=ao.at_ fW;obtain⟨Y,Z⟩:=az p (jS C);have k0:=B.cell (V 0 _ rfl);rw[ph,kS]at k0;rcases hm with⟨rfl,rfl⟩|⟨a,al,rfl,hm⟩
  ·dsimp only[List.length_nil]
   repeat' (first|refine kV 0 (o+0) rfl rfl rfl rfl rfl fW ?_|refine IV rfl k0 ?_|refine fT ?_|fail)
   refine kZ [52] (λ_=>True) fF (by decide+kernel) trivial ?_;refine fA ?_;refine Ia (vs:=qy p) mJ fx fx fV fV (λu hu=>by rw[kl.1 hu];rfl) (λG J F ai=>?_);have E:Ext f G:=(Fr.drew hG f).t F;refine jI (news:=qy p) mJ fx fV fx (gD.ext d E) fx (gS J fV fx) fx (λu hu=>by rw[kl.1 hu];rfl) (by unfold maxLen;decide) fy (by have:=B.size;have:=E.size;omega) (λD S N L aj=>?_)
   have O:Ow qy 1 S R.heap.size 157 D [p]:=by
    have:=Ow.ext1 (l:=[]) (l':=[p]) (by simpa using N);simpa using this
   refine fA ?_;exact gn ⟨(1,D,[p]),sub ⟨rfl,rfl,rfl,rfl⟩,⟨fW,O,Ext.te (B.t E) L λj U e=>by have:=(d.gH e).1;omega,λx m=>by rw[kl.1 m];exact⟨Y,Z⟩,gJ _,.inr ⟨[],p,rfl,by rw[vU]at T;rw[T];rfl⟩⟩,(by show s.length-1<s.length-0;omega)⟩
  ·obtain⟨H,o4,q,rfl,_,hq,_,av⟩:=ap.at_ (i:=a.length) ir;have ax:q=al:=by simpa using hq.symm
   subst ax;obtain⟨aL,aM⟩:=M q ir;have k1:=av 0 _ rfl;rw[ph,kS]at k1;have aI:(a++[q]).length=a.length+1:=by simp
   refine Qm ?_;refine kZ [52] (λw'=>w'.cell? ⟨H,o4+a.length,none⟩=some (.complex .f64 (fw q.1) (fw q.2))) fF (by decide+kernel) k1 ?_;refine fA ?_;refine fI fx fx (kM f.drew p.1 p.2 fy) (λr n h1=>?_) (λr n h1=>h1.2▸k1);obtain⟨rfl,rfl⟩:=h1
   repeat' (first|refine kV a.length (o4+a.length) rfl rfl rfl fy rfl fy ?_|refine rO rfl rfl (λ_ h=>h) ?_|refine fT ?_|fail)
   refine fI fx fx (mE f.drew q.1 q.2 fy fy) (λr n h1=>?_) (λr n h1=>h1.2▸k1);obtain⟨rfl,rfl⟩:=h1;have K:Ext f f.drew:=Fr.drew hG f;rw[T,xy]at hm;have k2:f.drew.cell? ⟨H,o4+a.length,none⟩=some (.complex .f64 (fw q.1) (fw q.2)):=k1
   by_cases g:q.1+q.2<p.1
   ·rw[if_pos g]at hm;refine fA ?_;refine Ia (vs:=qy p) mJ fx fx fV fV (λu hu=>by rw[kl.1 hu];rfl) (λG J F ai=>?_);have E:Ext f G:=K.t F;refine jI (news:=qy p) mJ fx fV fx (gD.ext d E) fx (gS J fV fx) fx (λu hu=>by rw[kl.1 hu];rfl) (by unfold maxLen;omega) fy (by have:=B.size;have:=E.size;omega) (λD S N L aj=>?_);have O:Ow qy 1 S R.heap.size 157 D (a++[q]++[p]):=Ow.ext1 (l':=[p]) (by simpa using N);refine fA ?_
    exact gn ⟨(i+1,D,a++[q]++[p]),sub ⟨rfl,rfl,rfl,rfl⟩,⟨fW,O,Ext.te (B.t E) L λj U e=>by have:=(d.gH e).1;omega,λx m=>by
     rcases iK.1 m with m|m
     ·exact M x m
     ·rw[kl.1 m];exact⟨Y,Z⟩,by simp only[hQ,Bx]at X⊢;omega,.inr ⟨a++[q],p,rfl,by rw[hm];simp⟩⟩,(by show s.length-(i+1)<s.length-i;omega)⟩
   ·rw[if_neg g]at hm
    repeat' (first|refine kV a.length (o4+a.length) rfl rfl rfl fy rfl fy ?_|refine IV rfl k2 ?_|refine fT ?_|fail)
    refine fG fx fx (mE f.drew p.1 p.2 fy fy) (λr n h1=>?_);obtain⟨rfl,rfl⟩:=h1;refine fA ?_;refine fG fx fx (mE f.drew q.1 q.2 fy fy) (λr n h1=>?_);obtain⟨rfl,rfl⟩:=h1
    by_cases g2:q.1+q.2<p.1+p.2
    ·rw[show max (q.1+q.2) (p.1+p.2)-q.1=p.1+p.2-q.1 from by omega]at hm
     repeat' (first|refine kV a.length (o4+a.length) rfl rfl rfl fy rfl fy ?_|refine fT ?_|fail)
     refine fG fx fx (kM f.drew q.1 q.2 fy) (λr n h1=>?_);obtain⟨rfl,rfl⟩:=h1;refine fA ?_;refine fG fx fx (mE f.drew p.1 p.2 fy fy) (λr n h1=>?_);obtain⟨rfl,rfl⟩:=h1;refine fA ?_;refine fG fx fx (kM f.drew q.1 q.2 fy) (λr n h1=>?_);obtain⟨rfl,rfl⟩:=h1;refine fA ?_;rw[show(p.1:Int)+p.2-q.1=((p.1+p.2-q.1:Nat):Int)from by omega];refine fG fx fx (xP f.drew q.1 (p.1+p.2-q.1) fy fy) (λr n h1=>?_);obtain⟨rfl,rfl⟩:=h1;obtain rfl:=d.acG
     repeat' (first|refine kV a.length (0+a.length) rfl rfl rfl fy rfl fy ?_|refine fT ?_|fail)
     refine WM (x':=(q.1,p.1+p.2-q.1)) nO a.length 0 (d.ext K) fx fx fy fV fx fx hq fx (λG ag aq=>?_);have ay:(a++[q]).set a.length (q.1,p.1+p.2-q.1)=a++[(q.1,p.1+p.2-q.1)]:=by simp
     rw[ay]at ag;have ar:Ow qy 1 G R.heap.size 157 (.slice (some ⟨H,0,none⟩) (a++[q]).length c4) (a++[(q.1,p.1+p.2-q.1)]):=ag;refine fA ?_
     exact gn ⟨(i+1,.slice (some ⟨H,0,none⟩) (a++[q]).length c4,a++[(q.1,p.1+p.2-q.1)]),sub ⟨rfl,rfl,rfl,rfl⟩,⟨fW,ar,Ext.te (B.t K) aq λj U e=>by have:=(d.gH (b:=H) fx).1;omega,λx m=>by
      rcases iK.1 m with m|m
      ·exact M x (vL _ m)
      ·rw[kl.1 m];dsimp only;omega,by simp only[hQ,Bx]at X⊢;omega,.inr ⟨a,_,rfl,hm⟩⟩,(by show s.length-(i+1)<s.length-i;omega)⟩
    ·rw[show max (q.1+q.2) (p.1+p.2)-q.1=q.2 from by omega]at hm;refine fA ?_;exact gn ⟨(i+1,.slice (some ⟨H,o4,none⟩) (a++[q]).length c4,a++[q]),sub ⟨rfl,rfl,rfl,rfl⟩,⟨fW,d.ext K,B.t K,M,by dsimp only;omega,.inr ⟨a,q,rfl,hm⟩⟩,(by show s.length-(i+1)<s.length-i;omega)⟩
 ·obtain rfl:i=s.length:=fy
  have aw:out=FK s:=by
   rcases hm with⟨_,h⟩|⟨b,c,h1,ab⟩
   ·exact absurd (zJ.1 (by omega:l.length=0)) h0
   ·rw[jJ,xy]at ab;rw[h1,ab]
  refine fA ?_;exact fB fx fx ⟨⟨s,aa,au,aw▸d.mono ae.size⟩,ae.t B⟩
end
section
structure mH {α:Type} (lt:α->α->Bool):Prop where
 irr:∀x,lt x x=false
 tr:∀x y z,lt x y=true->lt y z=true->lt x z=true
 neg:∀x y z,lt x z=true->lt x y=true∨lt y z=true
namespace mH
variable {α:Type} {lt:α->α->Bool}
theorem asym (h:mH lt) {x y:α} (a:lt x y=true):lt y x=false:=by
 cases e:lt y x with
 |false=>rfl
 |true=>have:=h.tr _ _ _ a e;rw[h.irr]at this;cases this
def Wk (lt:α->α->Bool) (l:List α):Prop:=l.Pairwise λa b=>lt b a=false
theorem Vs (h:mH lt) {x y z:α} (h1:lt y x=false) (a:lt z y=false):lt z x=false:=by
 cases e:lt z x with
 |false=>rfl
 |true=>
  rcases h.neg _ y _ e with g|g
  ·rw[a]at g;cases g
  ·rw[h1]at g;cases g
theorem one (h:mH lt):∀(l l':List α),l.Pairwise (λa b=>lt a b=true)->Wk lt l'->l'.Perm l->l'=l
 |[],_,_,_,d=>d.eq_nil
 |_::_,[],_,_,d=>by have:=d.length_eq;simp at this
 | x::l,y::l',h1,f,d=>by
  unfold Wk at f;rw[jr]at h1 f
  have s:y=x:=by
   rcases hX.1 (d.mem_iff.1 (jQ))with e|t
   ·exact e
   ·rcases hX.1 (d.mem_iff.2 (jQ))with e|n
    ·exact e.symm
    ·have m:=h1.1 y t;have g:=f.1 x n;rw[m]at g;cases g
  subst s;rw[one h l l' h1.2 f.2 (List.perm_cons y|>.1 d)]
theorem ET (h:mH lt):∀(l:List α) (p:α),kQ lt (some p) l=true↔(∀x∈l,lt p x=true)/\l.Pairwise λa b=>lt a b=true
 |[],p=>by simp[kQ]
 | x::r,p=>by
  rw[kQ,iO,ET h r x,jr];constructor
  ·rintro⟨h1,d,f⟩;refine⟨λy g=>?_,d,f⟩;rcases hX.1 g with e|g
   ·rw[e];exact h1
   ·exact h.tr _ _ _ h1 (d y g)
  ·rintro⟨h1,d,f⟩;exact⟨h1 x (jQ),d,f⟩
theorem HQ (h:mH lt) (l:List α):kQ lt none l=true↔l.Pairwise λa b=>lt a b=true:=by
 cases l with
 |nil=>simp[kQ]
 |cons x r=>rw[kQ,h.ET,jr]
def zz (lt:α->α->Bool) (l:List α):List α:=l.mergeSort λa b=>!lt b a
theorem FE (lt:α->α->Bool) (l:List α):(zz lt l).Perm l:=List.mergeSort_perm l _
theorem WQ (h:mH lt) (l:List α):Wk lt (zz lt l):=by
 have:=List.pairwise_mergeSort (le:=λa b=>!lt b a) (λa b c h1 d=>by
  simp only[Bool.not_eq_eq_eq_not,CY]at h1 d⊢
  exact h.Vs h1 d) (λa b=>by
  cases e:lt b a with
  |false=>rfl
  |true=>rw[h.asym e];rfl) l
 exact this.imp λf=>by simpa using f
theorem any (h:mH lt) {l l':List α} (m:l'.Perm l) (hw:Wk lt l'):kQ lt none l'=kQ lt none (zz lt l)/\(kQ lt none l'=true->l'=zz lt l):=by
 have d:l'.Perm (zz lt l):=m.trans (FE lt l).symm;have key:∀{a b:List α},a.Perm b->Wk lt a->kQ lt none b=true->a=b:=λ{a b} h1 f g=>h.one b a ((h.HQ b).1 g) f h1
 have e:kQ lt none l'=kQ lt none (zz lt l):=by
  rw[Co];constructor
  ·intro h1;rw[←key d.symm (h.WQ l) h1]at h1;exact h1
  ·intro h1;rw[key d hw h1];exact h1
 exact⟨e,λh1=>key d hw (e▸h1)⟩
theorem ins (h:mH lt) {a b:List α} {x:α} (hw:Wk lt (a++b)) (h1:∀y∈a.getLast?,lt x y=false) (u:∀y∈b,lt x y=true):Wk lt (a++[x]++b):=by
 unfold Wk at*;rw[j6]at hw;obtain⟨s,B,v⟩:=hw
 have w:∀y∈a,lt x y=false:=λy d=>by
  have n:a≠[]:=λe=>by rw[e]at d;cases d
  have t:=h1 (a.getLast n) (by rw[List.getLast?_eq_some_getLast n];rfl);have m:=s;rw[←Lx n]at d m;rw[j6]at m;rcases iK.1 d with g|g
  ·exact h.Vs (m.2.2 y g _ (kl.2 fx)) t
  ·rw[kl.1 g];exact t
 rw[j7,j6];refine⟨s,?_,?_⟩
 ·rw[VR,jr];exact⟨λy d=>h.asym (u y d),B⟩
 ·intro y d z f;rw[VR]at f;rcases hX.1 f with e|f
  ·rw[e];exact w y d
  ·exact v y d z f
end mH
theorem pz:mH j8:=⟨λx=>ri _,λx y z=>ov _ _ _,λx y z h=>by
 unfold j8 at*
 by_cases e:x.name=y.name
 ·rw[←e];exact .inr h
 ·rcases tS _ _ e with g|g
  ·exact .inl g
  ·exact .inr (ov _ _ _ g h)⟩
theorem py (x y:Ac):acLt x y=true↔x.kind<y.kind∨x.kind=y.kind/\x.id<y.id:=by
 unfold acLt;simp only[tK,iO,decide_eq_true_eq]
theorem uq:mH acLt:=⟨λx=>by
  cases e:acLt x x with
  |false=>rfl
  |true=>rw[py]at e;omega,λx y z h1 a=>by rw[py]at*;omega,λx y z h=>by rw[py]at*;rw[py];omega⟩
def qm {α:Type} (ok:α->Bool) (lt:α->α->Bool) (a:Nat) (l:List α):Int×List α:=
 if l.all ok=false then(1,[])else if kQ lt none (mH.zz lt l)=false then(6,[])else if a<l.length then(13,[])else(0,mH.zz lt l)
def lW (l:List xn):Int×List xn:=qm jV j8 8 l
def j4 (l:List Ac):Int×List Ac:=
 if(qm lk acLt 16 l).1≠0 then qm lk acLt 16 l else if l.length≠0/\(l.any λa=>decide (a.kind=3))=false then(7,[])else qm lk acLt 16 l
section
variable {α:Type} {ok:α->Bool} {lt:α->α->Bool} {mx:Nat} {l:List α}
theorem Lj (h:l.all ok=false):qm ok lt mx l=(1,[]):=if_pos h
theorem K9 (h:l.all ok=true) {l':List α} (d:mH lt) (f:l'.Perm l) (hw:mH.Wk lt l') (a:kQ lt none l'=false):qm ok lt mx l=(6,[]):=by
 unfold qm;rw[if_neg (by rw[h];decide),if_pos (by rw[←(d.any f hw).1];exact a)]
theorem HU (h:l.all ok=true) {l':List α} (g:mH lt) (a:l'.Perm l) (hw:mH.Wk lt l') (d:kQ lt none l'=true) (f:mx<l'.length):qm ok lt mx l=(13,[]):=by
 unfold qm;rw[if_neg (by rw[h];decide),if_neg (by rw[←(g.any a hw).1,d];decide),if_pos (by rw[←a.length_eq];exact f)]
theorem Dz (h:l.all ok=true) {l':List α} (f:mH lt) (a:l'.Perm l) (hw:mH.Wk lt l') (d:kQ lt none l'=true) (g:¬mx<l'.length):qm ok lt mx l=(0,l'):=by
 unfold qm;rw[if_neg (by rw[h];decide),if_neg (by rw[←(f.any a hw).1,d];decide),if_neg (by rw[←a.length_eq];exact g),←(f.any a hw).2 d]
theorem Hw (h:(qm ok lt mx l).1=0):(qm ok lt mx l).2.Perm l/\l.length<=mx:=by
 unfold qm at*;split at h
 ·cases h
 ·rename_i h1;split at h
  ·cases h
  ·rename_i a;split at h
   ·cases h
   ·rename_i d;rw[if_neg h1,if_neg a,if_neg d];exact⟨mH.FE lt l,fy⟩
end
end
section
open Go.RowKit Go.Shelf Go.Lib Go.Sort
theorem HK {α:Type} [Inhabited α] {a:α->List Value} {z:Nat} (y:0<z) (d:∀x,(a x).length=z) (l:List α):flatK a z l.toArray=(l.flatMap a).toArray:=by
 have s:=gl d l;apply ext_get!
 ·rw[size_flatK,nz,nz,s]
 ·intro t ht;rw[size_flatK,nz]at ht;rw[get_flatK _ _ _ _ (by rw[nz];exact ht)];have hi:t/z<l.length:=Nat.div_lt_of_lt_mul (by rwa[Ru]at ht);have v:t% z<z:=u0 _ y;have w:l[t/z]? =some l[t/z]:=kp hi;have n:(l.toArray)[t/z]! =l[t/z]:=by rw[getElem!_pos l.toArray (t/z) (by rw[nz];exact hi)];simp
  have f:t% z<(a l[t/z]).length:=by rw[d];exact v
  have g:=flat_get d w (j:=t% z) (u:=(a l[t/z])[t% z]) (kp f);rw[show t/z*z+t% z=t by rw[Ru];exact Nat.div_add_mod t z]at g;rw[n,getElem!_pos (a l[t/z]) (t% z) f];obtain⟨h1,m⟩:=j0.1 g;rw[getElem!_pos ((l.flatMap a).toArray) t (by rw[nz];exact h1)];simp[m]
theorem J3 {n:Nat} (F:Array Value) (cur:Array Value) (a:F.size=n) (d:n<=cur.size):(putCells id 0 F cur).toList.take n=F.toList:=by
 apply vm;intro k
 by_cases hk:k<n
 ·rw[FN hk,E0];unfold putCells;rw[Vn,wi fy,tH,if_pos ⟨iy _,fy⟩,E0,wi fy,Lc,getElem!_pos F k fy];rfl
 ·rw[A6 (by rw[kt];omega),A6 (by rw[pb];omega)]
theorem zR {α:Type} [Inhabited α] {ρ:Ren} (L:Go.Proofs.SlLaysF0.n6 prog ρ) {d:α->List Value} {z:Nat} (M:0<z) (E:∀x,(d x).length=z) (h1:∀x,∀v∈d x,v.oneCell'=true) {e:TypeId} (N:∀w,(isAgg (ρ.t 24)).run prog w= .ok true w) (ap:∀w,(Go.sizeOf (ρ.t 24)).run prog w= .ok z w) (D:α->α->Int) (hO:SWO (ltOf D)) (g:FuncId) (R:∀args w,(callFunc g args).run prog w= .ok (.enter g args) w)
  (hc:∀(w:World) (x y:α),Calls prog g #[.agg (d x).toArray,.agg (d y).toArray] w λe w'=>e= .returned (.int .i64 (D x y))/\∃q ao,w'=grow (w.drewN q) ao)
  (w:World) (B:Nat) (v:Value) (l:List α) (am:Ow d z w B e v l) (h0:l≠[]) (aq:l.length<=1000000):
  fL prog (ρ.f 6) #[v,.func (.func g) #[] #[]] w λ_ w'=>(∃l',l'.Perm l/\l'.Pairwise (λa b=>¬D b a<0)/\Ow d z w' B e v l')/\Fr (λb=>v.ownBlock=some b) w w':=by
 obtain⟨hlen,W⟩:=am;rcases W with⟨rfl,an⟩|⟨b,cap,cur,rfl,V,H,S,T,U,I⟩
 ·exact absurd (zJ.1 an) h0
 have fW:b<w.heap.size:=fU.lt (t:=e) (cs:=cur) H;have ad:=HK M E l;have G:=gl E l
 have Z:l.length*z<=cur.size:=by
  have:=congrArg List.length I;rw[kt,G,pb]at this;exact mn (Li this.symm) (Nat.min_le_right _ _)
 have hH:HoldsK d z w b 0 l.toArray:=by
  unfold HoldsK;rw[ad];intro j C;rw[nz,G]at C;refine⟨?_,?_⟩
  ·have:=fU.cell (t:=e) (cs:=cur) H (0+j);rw[this,iC];have F:(cur.toList.take (l.length*z))[j]? =(l.flatMap d)[j]? :=by rw[I]
   rw[FN C,E0]at F;rw[F,getElem!_pos ((l.flatMap d).toArray) j (by rw[nz,G];exact C),kp (by rw[G];exact C)];simp
  ·simp only[World.frozen?,H];simp
 have Y:CmpLays prog g #[] d z D b 0 l.toArray.size w:=λm os O _ x y=>hc (sortWorldK d z w b 0 m O os) x y
 have J:=AnyQ.slices_SortFunc L z N ap d E h1 D hO g #[] b 0 cap l.toArray w R Y hH fW (by rw[nz];omega);rw[nz]at J;refine pP J λe' w' ⟨he,s,n,os,aj,hs,hw⟩=>?_
 refine⟨.tuple #[],he,?_,?_⟩
 ·obtain⟨al,_,K⟩:=aj;have u:s.size=l.length:=by rw[al,nz]
  have aa:flatK d z s=(s.toList.flatMap d).toArray:=by
   have:=HK M E s.toList;simpa using this
  have ab:(s.toList.flatMap d).length=l.length*z:=by rw[gl E,pb,u]
  refine⟨s.toList,?_,?_,?_⟩
  ·have F:(s.extract 0 l.length).toList=s.toList:=by rw[←u];simp
   have Q:(l.toArray.extract 0 l.length).toList=l:=by simp
   rw[F,Q]at K;exact K
  ·rw[G1];intro i j hi C af;have ae:i<s.size:=by simpa using hi
   have ag:j<s.size:=by simpa using C
   have:=hs i j (iy _) af fy;rw[getElem!_pos s j ag,getElem!_pos s i ae]at this;unfold ltOf at this;simp only[decide_eq_false_iff_not]at this;simpa only[Wj]using this
  ·have X:w'.heap[b]? =some (.cells (putCells id 0 (flatK d z s) cur) e (0,0)):=by
    rw[hw];unfold sortWorldK putRowK;rw[heap_grow_old _ _ (by simpa[putRow,mapBlock]using fW)];simp only[putRow,mapBlock,tw,if_true,heap_ahead,H,tH,onCells]
   have ak:(putCells id 0 (flatK d z s) cur).size=cur.size:=by simp[putCells]
   refine⟨?_,.inr ⟨b,cap,putCells id 0 (flatK d z s) cur,?_,V,X,?_,T,?_,?_⟩⟩
   ·rw[ab];simp[u]
   ·simp[u]
   ·simpa[u]using S
   ·rw[ak];exact U
   ·rw[pb,u,J3 _ _ (by rw[size_flatK,u]) Z,aa]
 ·rw[hw];unfold sortWorldK putRowK;refine⟨rfl,rfl,rfl,by simp,λk hk ai=>?_⟩;have ah:k≠b:=λe=>ai (by rw[e];rfl)
  rw[heap_grow_old _ _ (by simpa[putRow,mapBlock]using hk)];simp only[putRow,mapBlock,tw,if_neg (uM ah),heap_ahead]
theorem grown_of {w w':World} (s:Ext w w') (g:w.drawn<=w'.drawn):∃q a,w'=grow (w.drewN q) a:=by
 refine⟨w'.drawn-w.drawn,w'.heap.extract w.heap.size w'.heap.size,?_⟩;obtain⟨h1,d,f,y,n⟩:=s
 have t:w'.heap=w.heap++w'.heap.extract w.heap.size w'.heap.size:=by
  apply Array.ext
  ·rw[F4,Array.size_extract];omega
  ·intro i u C
   by_cases h:i<w.heap.size
   ·have:=n i h (λh=>h);rw[wi u,wi h]at this;rw[Array.getElem_append_left h];exact jk this
   ·rw[Array.getElem_append_right fy,Array.getElem_extract]
    congr 1
    omega
 obtain⟨heap,tape,drawn,os,output⟩:=w;obtain⟨B,x,m,a,v⟩:=w';dsimp only at h1 d f t g;subst h1;subst d;subst f;show _=(⟨heap++_,x,drawn+(m-drawn),a,v⟩:World)
 rw[Nat.add_sub_cancel' g]
 congr 1
section
variable {hs:List Nat} {H:World->Prop} {full:Array Oper} {K:Env->World->Prop} {rest:List Oper} {env:Env} {w:World} {d:Tmp} {ty:TypeId} {pos:String} {af:Array Edge}
theorem KO {t:TypeId} {x:Operand} {v:Value} (a:gh env x=some v)
  (h:∀w',fU w' w.heap.size t v.cells->Ext w w'->w'.heap.size=w.heap.size+1->w'.drawn=w.drawn->xs prog fD fC hs H full K rest ((d,.pointer (some ⟨w.heap.size,0,none⟩))::env) w') (hH:∀w',Ext w w'->H w':=by intros;trivial):
  xs prog fD fC hs H full K (⟨some d,.box t x,ty,pos,af,none⟩::rest) env w:=by
 refine xw (by simp[fX,Op.operands,a]) fx (v:= .pointer (some ⟨w.heap.size,0,none⟩)) (w':=w.alloc (.cells v.cells t)) ?_ (h _ (fU.new _ _ _) (Fr.alloc _ _ _) ir fx) (hH _ (Fr.alloc _ _ _));simp[execOp,fM a,Instr.box,newVar,newRow]
end
def OE (a b:fQ):Int:=if Op.bytesLess a b then-1 else if Op.bytesLess b a then 1 else 0
theorem Lq (a b:fQ):OE a b<0↔Op.bytesLess a b=true:=by
 unfold OE;split
 ·rename_i h;exact⟨λ_=>h,λ_=>by decide⟩
 ·rename_i h;split
  ·exact⟨λh=>fy,λd=>absurd d h⟩
  ·exact⟨λh=>fy,λd=>absurd d h⟩
def Y1 (x y:xn):Int:=OE x.name y.name
theorem adO {α:Type} (f:α->fQ) (g:α->α->Int) (h:∀x y,g x y<0↔Op.bytesLess (f x) (f y)=true):SWO (ltOf g):=by
 have e:∀x y,ltOf g x y=Op.bytesLess (f x) (f y):=λx y=>by
  unfold ltOf;rw[Co,decide_eq_true_eq];exact h x y
 refine⟨λx=>by rw[e];exact ri _,λx y z h1 a=>?_,λx y z h1 a=>?_⟩
 ·rw[e]at*;exact ov _ _ _ h1 a
 ·rw[e]at*;cases m:Op.bytesLess (f x) (f z)with
  |false=>rfl
  | true=>
   by_cases n:f x=f y
   ·rw[n,a]at m;cases m
   ·rcases tS _ _ n with d|d
    ·rw[h1]at d;cases d
    ·have:=ov _ _ _ d m;rw[a]at this;cases this
theorem T4:SWO (ltOf Y1):=adO (λx:xn=>x.name) Y1 λx y=>Lq x.name y.name
attribute [local irreducible] xs T
theorem xo (w:World) (a:fQ):fL prog 288 #[.string (su a)] w λr w'=>r= .bool false/\w=w':=by
 refine gr func288 fx fF ?_
 repeat' (first|refine gq (op:= .neq) (a:=a) (b:=a) (r:=false) rfl rfl (by simp[hZ]) ?_|refine fT ?_|fail)
 exact y2
theorem MD (w:World) (a b:fQ):fL prog 239 #[.string (su a),.string (su b)] w λr w'=>r= .int .i64 (OE a b)/\w=w':=by
 refine gK func239 fx fF ?_;refine fA ?_;refine fG fx fx (xo w a) (λr m h1=>?_);obtain⟨rfl,rfl⟩:=h1;refine fA ?_;refine fG fx fx (xo w b) (λr m h1=>?_);obtain⟨rfl,rfl⟩:=h1;unfold OE;cases h1:Op.bytesLess a b with
 |true=>
  rw[if_pos rfl]
  repeat' (first|refine gq (op:= .lss) (a:=a) (b:=b) (r:=true) rfl rfl (by simp[hZ,h1]) ?_|refine fT ?_|fail)
  exact y2
 | false=>
  rw[if_neg fV];cases f:Op.bytesLess b a with
  |true=>
   have g:¬a=b:=λe=>by rw[e,ri]at f;cases f
   rw[if_pos rfl]
   repeat' (first|refine gq (op:= .lss) (a:=a) (b:=b) (r:=false) rfl rfl (by simp[hZ,h1]) ?_|refine gq (op:= .gtr) (a:=a) (b:=b) (r:=true) rfl rfl (by simp[hZ,h1,g]) ?_|refine fT ?_|fail)
   exact y2
  | false=>
   have he:a=b:=by
    by_cases h:a=b
    ·exact h
    ·rcases tS a b h with d|d
     ·rw[h1]at d;cases d
     ·rw[f]at d;cases d
   rw[if_neg fV]
   repeat' (first|refine gq (op:= .lss) (a:=a) (b:=b) (r:=false) rfl rfl (by simp[hZ,h1]) ?_|refine gq (op:= .gtr) (a:=a) (b:=b) (r:=false) rfl rfl (by simp[hZ,he]) ?_|refine fT ?_|fail)
   exact y2
theorem GZ (w:World) (x y:xn):fL prog 238 #[.agg (jK x).toArray,.agg (jK y).toArray] w λr w'=>r= .int .i64 (Y1 x y)/\Ext w w'/\w.drawn<=w'.drawn:=by
 refine gK func238 fx fF ?_;refine fA ?_;refine KO fx (λs g n B u=>?_);refine fA ?_;refine KO fx (λa m d C v=>?_);have k1:a.cell? ⟨w.heap.size,0,none⟩=some (.string (su x.name)):=(fU.ext g d).cell 0;have k2:a.cell? ⟨s.heap.size,0,none⟩=some (.string (su y.name)):=fU.cell m 0;refine fA ?_;refine fG fx fx (MD a x.name y.name) (λr D f=>?_);obtain⟨rfl,rfl⟩:=f;refine fA ?_;exact fB fx fx ⟨rfl,n.t d,fy⟩
theorem JM (w:World) (B:Nat) (v:Value) (l:List xn) (d:Ow jK 2 w B 68 v l) (h0:l≠[]) (m:l.length<=1000000):
  fL prog 237 #[v,.func (.func 238) #[] #[]] w λ_ w'=>(∃l',l'.Perm l/\l'.Pairwise (λa b=>¬Y1 b a<0)/\Ow jK 2 w' B 68 v l')/\Fr (λb=>v.ownBlock=some b) w w':=
 zR U2 fV jN (λx v d=>by
  simp only[jK,hX,sC,or_false]at d
  rcases d with rfl|rfl<;>rfl) (λw=>Tryz.isAgg68 w) (λw=>Tryz.sizeOf68 w) Y1 T4 238 (enters_of func238 fF rfl)
  (λw x y=>pP (GZ w x y) λe w' ⟨u,he,n,f,g⟩=>by
   subst n
   exact⟨he,grown_of f g⟩) w B v l d h0 m
end
section
open Go.RowKit Go.Shelf Go.Lib Go.Sort
section
variable {hs:List Nat} {H:World->Prop} {full:Array Oper} {K:Env->World->Prop} {rest:List Oper} {env:Env} {w:World} {d:Tmp} {ty:TypeId} {pos:String} {af:Array Edge}
theorem acu {t e:TypeId} {z:Value} {bytes n:Nat} {parts:List (Nat×Operand)} {vs:List Value} (g:xv t e z 1 bytes) (B:evp env 0 parts=some vs) (s:vs.length=n) (h0:0<n) (G:n<=16777216) (h1:∀u∈vs,u.oneCell'=true)
  (h:∀w',fU w' w.heap.size e vs.toArray->Ext w w'->w'.drawn=w.drawn->xs prog fD fC hs H full K rest ((d,.slice (some ⟨w.heap.size,0,none⟩) n n)::env) w') (hH:∀w',Ext w w'->H w':=by intros;trivial):
  xs prog fD fC hs H full K (⟨some d,.buildSlice t n parts.toArray,ty,pos,af,none⟩::rest) env w:=by
 obtain⟨hu,i,hi,E,hs,F⟩:=g;obtain⟨he,y⟩:=zp B;refine xw (by simp only[fX,Op.operands];rw[lj];intro x a;simp at a;obtain⟨j,m⟩:=a;exact y _ m) fx (v:= .slice (some ⟨w.heap.size,0,none⟩) n n) (w':=w.alloc (.cells vs.toArray e)) ?_ (h _ (fU.new _ _ _) (Fr.alloc _ _ _) fx) (hH _ (Fr.alloc _ _ _))
 have C:=run_buildSlice (P:=prog) w t e n ((parts.map λp=>(p.1,ev env p.2)).toArray) vs.toArray i z hu hi E (by rw[hs];omega) (by rw[hs];omega) (by
  rw[hs];show Instr.fill _ _ (parts.map λp=>(p.1,ev env p.2))=_
  rw[he]
  exact Great.fill_flat _ _ (λv D=>by have:=h1 v D;cases v<;>first|rfl|cases this) (by simp[s]))
 have f:(parts.toArray.map λx=>match x with|(i,x)=>(i,ev env x))=(parts.map λp=>(p.1,ev env p.2)).toArray:=by simp
 simp only[execOp];rw[f];simp[C]
end
theorem PZ:SWO (ltOf xH):=by
 have e:∀x y,ltOf xH x y=decide (x.kind<y.kind∨x.kind=y.kind/\x.id<y.id):=λx y=>by
  unfold ltOf;have:=uE x y;unfold acLt at this;simp only[tK,iO,decide_eq_true_eq]at this;rw[Co,decide_eq_true_eq,decide_eq_true_eq];exact this.symm
 refine⟨λx=>?_,λx y z h1 a=>?_,λx y z h1 a=>?_⟩
 ·rw[e];simp only[decide_eq_false_iff_not];omega
 ·rw[e]at*;simp only[decide_eq_true_eq]at*;omega
 ·rw[e]at*;simp only[decide_eq_false_iff_not]at*;omega
attribute [local irreducible] xs T
theorem FX (w:World) (a b:Ac):fL prog 223 #[.agg (lh a).toArray,.agg (lh b).toArray] w λr w'=>r= .int .i64 (xH a b)/\Ext w w'/\w.drawn<=w'.drawn:=by
 refine gK func223 fx fF ?_;refine fA ?_;refine KO fx (λs D F M I=>?_);refine fA ?_;refine KO fx (λf E C N J=>?_);have x:fU f w.heap.size 70 #[.int .i64 a.kind,.int .i64 a.id,.int .i64 a.perm]:=D.ext C;have y:fU f s.heap.size 70 #[.int .i64 b.kind,.int .i64 b.id,.int .i64 b.perm]:=E;have a0:f.drew.cell? ⟨w.heap.size,0,none⟩=some (.int .i64 a.kind):=x.cell 0;have g:f.drew.cell? ⟨w.heap.size,1,none⟩=some (.int .i64 a.id):=x.cell 1;have H:f.drew.cell? ⟨s.heap.size,0,none⟩=some (.int .i64 b.kind):=y.cell 0;have m:f.drew.cell? ⟨s.heap.size,1,none⟩=some (.int .i64 b.id):=y.cell 1;have L:f.drawn<=f.drew.drawn:=KT _;refine fA ?_;refine kZ [11,13] (λw'=>w'.cell? ⟨w.heap.size,1,none⟩=some (.int .i64 a.id)/\w'.cell? ⟨s.heap.size,1,none⟩=some (.int .i64 b.id)) fF (by decide+kernel) ⟨g,m⟩ ?_;refine fA ?_;refine fI fx fx (nM f.drew a.kind b.kind) ?_ ?_
 ·rintro r n ⟨rfl,rfl⟩
  repeat' (first|refine rO rfl rfl (λw' h=>h.1) ?_|refine rO rfl rfl (λw' h=>h.2) ?_|refine fT ?_|fail)
  refine fI fx fx (nM f.drew a.id b.id) ?_ ?_
  ·rintro r n ⟨rfl,rfl⟩;refine fA ?_
   refine acu (vs:=[.int .i64 (pW a.kind b.kind),.int .i64 (pW a.id b.id)]) sB fx fx fV fV (λu hu=>by
    simp only[hX,sC,or_false]at hu
    rcases hu with rfl|rfl<;>rfl) (λn B v K=>?_) (λw' h=>⟨h.cell g,h.cell m⟩)
   refine fA ?_;refine fI fx fx (Fx n _ 0 2 (pW a.kind b.kind) (pW a.id b.id) (B.cell 0) (B.cell 1)) ?_ ?_
   ·rintro r G ⟨rfl,rfl⟩;refine fA ?_;exact fB fx fx ⟨rfl,F.t (C.d.t v),fy⟩
   ·rintro r G ⟨_,rfl⟩;exact⟨v.cell g,v.cell m⟩
  ·rintro r n ⟨_,rfl⟩;exact⟨g,m⟩
 ·rintro r n ⟨_,rfl⟩;exact⟨g,m⟩
theorem IU (w:World) (B:Nat) (v:Value) (l:List Ac) (d:Ow lh 3 w B 70 v l) (h0:l≠[]) (m:l.length<=1000000):
  fL prog 240 #[v,.func (.func 223) #[] #[]] w λ_ w'=>(∃l',l'.Perm l/\l'.Pairwise (λa b=>¬xH b a<0)/\Ow lh 3 w' B 70 v l')/\Fr (λb=>v.ownBlock=some b) w w':=
 zR Zz fV jZ (λx v d=>by
  simp only[lh,hX,sC,or_false]at d
  rcases d with rfl|rfl|rfl<;>rfl) (λw=>Tryz.isAgg70 w) (λw=>Tryz.sizeOf70 w) xH PZ 223 (enters_of func223 fF rfl)
  (λw x y=>pP (FX w x y) λe w' ⟨u,he,n,f,g⟩=>by
   subst n
   exact⟨he,grown_of f g⟩) w B v l d h0 m
end
section
open Go.RowKit Go.Shelf Go.Lib Go.Sort
theorem CA (w:World):fL prog 228 #[.int .u64 0] w λr w'=>r= .int .i64 0/\w=w':=by
 have h:=Any.bits_Len (SlLaysF0.n15.bits (P:=prog) {U2 with}) (0:Int) w fy fy;refine pP h λe w' ⟨he,hw⟩=>⟨_,he,?_,hw.symm⟩
 rfl
attribute [local irreducible] xs T
theorem Jo (w:World) (g:Value):fL prog 322 #[.slice none 0 0,.int .i64 0,.int .i64 0,g] w λ_ w'=>Ext w w':=by
 refine wS func322 fx fF ?_;exact y24
theorem ID (w:World) (g:Value):fL prog 287 #[.slice none 0 0,.int .i64 0,.int .i64 0,.int .i64 0,g] w λ_ w'=>Ext w w':=by
 refine z7 func287 fx fF ?_;refine fA ?_;refine gA (α:=Unit) (λ_=>[(0,.slice none 0 0),(1,.int .i64 0),(2,.int .i64 0),(4,g)]) (λ_ w'=>w=w') (λ_=>0) () (sub ⟨rfl,rfl,rfl,rfl⟩) fx ?_;rintro _ w' rfl;refine fA ?_;refine fG fx fx (Jo w g) (λr a h1=>?_);refine fA ?_;exact F8 fx h1
theorem FR (w:World) (g:Value):fL prog 237 #[.slice none 0 0,g] w λ_ w'=>Ext w w':=by
 refine gK func237 fx fF ?_;refine ku ?_;refine fG fx fx (CA w) (λr a h1=>?_);obtain⟨rfl,rfl⟩:=h1;refine fA ?_;refine fG fx fx (ID w g) (λr a h1=>?_);refine fA ?_;exact lX fx h1
theorem JN (w:World) (g:Value):fL prog 330 #[.slice none 0 0,.int .i64 0,.int .i64 0,g] w λ_ w'=>Ext w w':=by
 refine wS func330 fx fF ?_;exact y24
theorem I2 (w:World) (g:Value):fL prog 289 #[.slice none 0 0,.int .i64 0,.int .i64 0,.int .i64 0,g] w λ_ w'=>Ext w w':=by
 refine z7 func289 fx fF ?_;refine fA ?_;refine gA (α:=Unit) (λ_=>[(0,.slice none 0 0),(1,.int .i64 0),(2,.int .i64 0),(4,g)]) (λ_ w'=>w=w') (λ_=>0) () (sub ⟨rfl,rfl,rfl,rfl⟩) fx ?_;rintro _ w' rfl;refine fA ?_;refine fG fx fx (JN w g) (λr a h1=>?_);refine fA ?_;exact F8 fx h1
theorem EY (w:World) (g:Value):fL prog 240 #[.slice none 0 0,g] w λ_ w'=>Ext w w':=by
 refine gK func240 fx fF ?_;refine ku ?_;refine fG fx fx (CA w) (λr a h1=>?_);obtain⟨rfl,rfl⟩:=h1;refine fA ?_;refine fG fx fx (I2 w g) (λr a h1=>?_);refine fA ?_;exact lX fx h1
end
section
section
variable {hs:List Nat} {H:World->Prop} {full:Array Oper} {K:Env->World->Prop} {rest:List Oper} {env:Env} {w:World} {d:Tmp} {ty:TypeId} {pos:String} {af:Array Edge}
def Zl (t:TypeId) (cs ds:List Value) (b:Bool):Prop:=prog.eqGuardType prog.depth t=false/\∀w',(Op.equalIn 10000 t (.agg cs.toArray) (.agg ds.toArray)).run prog w'= .ok b w'
theorem Lw {t f:TypeId} {x y:Operand} {cs ds:List Value} {b:Bool} (g:gh env x=some (.agg cs.toArray)) (m:gh env y=some (.agg ds.toArray)) (he:Zl t cs ds b)
  (h:xs prog fD fC hs H full K rest ((d,.bool (!b))::env) w):xs prog fD fC hs H full K (⟨some d,.binOp .neq t x y f,ty,pos,af,none⟩::rest) env w:=by
 refine gR fx (by grind [fX,Op.operands]) ⟨.bool !b,λw'=>?_,h⟩;have h1:=run_eqGuard_agg (P:=prog) w' .neq t x y cs.toArray ds.toArray he.1;have a:=run_neq_struct (P:=prog) w' t cs.toArray ds.toArray;rw[he.2 w']at a
 simp_all [execOp,fM]
end
theorem mm {P:Program} {w:World} {d:Nat} {cs ds:Array Value} {f:Field} {fs:List Field} {a b:Value} {r:Bool} (s:f.name≠ "_") (g:P.plainKey f.type=true) (m:cs[f.offset]? =some a) (n:ds[f.offset]? =some b) (he:(Op.equalIn d f.type a b).run P w= .ok r w):
  (Op.eqFields d cs ds (f::fs)).run P w=if r then(Op.eqFields d cs ds fs).run P w else .ok false w:=by
 rw[Op.eqFields,if_pos s];simp only[sD,run_part_plain w g m,run_part_plain w g n,sM,he];cases r<;>simp
theorem aaV (a b:Ac):Zl 70 (lh a) (lh b) (decide (a=b)):=by
 refine⟨by kernel_rfl,λw'=>?_⟩
 have d:prog.fieldsOf 70=(match prog.underlying 70 with
  |some (.struct fs)=>fs
  |_=> #[]):=rfl
 rw[underlying70]at d;have hu:prog.underlying 70=some (.struct (prog.fieldsOf 70)):=by rw[d];exact underlying70
 rw[run_equalIn_agg w' 9999 _ _ _ hu fF,d];rw[mm (r:=a.kind==b.kind) fV fF rfl rfl (run_equalIn_int w' 9998 _ _ _ _ _ underlying3),mm (r:=a.id==b.id) fV fF rfl rfl (run_equalIn_int w' 9998 _ _ _ _ _ underlying3),mm (r:=a.perm==b.perm) fV fF rfl rfl (run_equalIn_int w' 9998 _ _ _ _ _ underlying3)];obtain⟨x,y,z⟩:=a;obtain⟨x',g,m⟩:=b
 by_cases h0:x=x'<;>by_cases h1:y=g<;>by_cases f:z=m<;>simp[h0,h1,f,Op.eqFields]
theorem XX (a b:xn):Zl 68 (jK a) (jK b) (decide (a=b)):=by
 refine⟨by kernel_rfl,λw'=>?_⟩
 have d:prog.fieldsOf 68=(match prog.underlying 68 with
  |some (.struct fs)=>fs
  |_=> #[]):=rfl
 rw[underlying68]at d;have hu:prog.underlying 68=some (.struct (prog.fieldsOf 68)):=by rw[d];exact underlying68
 have f:prog.plainKey 9=true:=by kernel_rfl
 rw[run_equalIn_agg w' 9999 _ _ _ hu fF,d];rw[mm (r:=(su a.name).toList==(su b.name).toList) fV f rfl rfl (run_equalIn_string w' 9998 _ _ _ underlying9),mm (r:=(su a.value).toList==(su b.value).toList) fV f rfl rfl (run_equalIn_string w' 9998 _ _ _ underlying9)];obtain⟨x,y⟩:=a;obtain⟨x',g⟩:=b;simp only[jj]
 by_cases h0:x=x'<;>by_cases h1:y=g<;>simp[h0,h1,Op.eqFields]
theorem aaa (a b:hJ):Zl 39 (j5 a) (j5 b) (decide (a=b)):=by
 refine⟨by kernel_rfl,λw'=>?_⟩
 have d:prog.fieldsOf 39=(match prog.underlying 39 with
  |some (.struct fs)=>fs
  |_=> #[]):=rfl
 rw[underlying39]at d;have hu:prog.underlying 39=some (.struct (prog.fieldsOf 39)):=by rw[d];exact underlying39
 have f:prog.plainKey 9=true:=by kernel_rfl
 rw[run_equalIn_agg w' 9999 _ _ _ hu fF,d];rw[mm (r:=a.pos==b.pos) fV fF rfl rfl (run_equalIn_int w' 9998 _ _ _ _ _ underlying2),mm (r:=(su a.data).toList==(su b.data).toList) fV f rfl rfl (run_equalIn_string w' 9998 _ _ _ underlying9)];obtain⟨x,y⟩:=a;obtain⟨x',g⟩:=b;simp only[jj]
 by_cases h0:x=x'<;>by_cases h1:y=g<;>simp[h0,h1,Op.eqFields]
theorem aam (a b:En):Zl 49 (hI a) (hI b) (decide (a=b)):=by
 refine⟨by kernel_rfl,λw'=>?_⟩
 have d:prog.fieldsOf 49=(match prog.underlying 49 with
  |some (.struct fs)=>fs
  |_=> #[]):=rfl
 rw[underlying49]at d;have hu:prog.underlying 49=some (.struct (prog.fieldsOf 49)):=by rw[d];exact underlying49
 have f:prog.plainKey 9=true:=by kernel_rfl
 rw[run_equalIn_agg w' 9999 _ _ _ hu fF,d];rw[mm (r:=(su a.path).toList==(su b.path).toList) fV f rfl rfl (run_equalIn_string w' 9998 _ _ _ underlying9),mm (r:=a.node==b.node) fV fF rfl rfl (run_equalIn_int w' 9998 _ _ _ _ _ underlying3)];obtain⟨x,y⟩:=a;obtain⟨x',g⟩:=b;simp only[jj]
 by_cases h0:x=x'<;>by_cases h1:y=g<;>simp[h0,h1,Op.eqFields]
attribute [local irreducible] xs T
theorem Nx (w:World) (v g:Value) (l l':List Ac) (G:Rw lh w v l) (H:Rw lh w g l'):fL prog 218 #[v,g] w λr w'=>r= .bool (decide (l=l'))/\Ext w w':=by
 refine gK func218 fx fF ?_;obtain⟨A,c,rfl,K,M,t⟩:=G.op jZ;obtain⟨n,s,rfl,L,N,B⟩:=H.op jZ
 by_cases hlen:l.length=l'.length
 ·refine fA ?_;refine gA (α:=Nat) (λi=>[(0,.slice A l.length c),(1,.slice n l'.length s),(5,.int .i64 (i:Int))]) (λi w'=>Ext w w'/\i<=l.length/\decide (l.drop i=l'.drop i)=decide (l=l')) (λi=>l.length-i) 0 (sub ⟨rfl,rfl,rfl⟩) ⟨Fr.refl _ _,iy _,rfl⟩ ?_;rintro i m ⟨f,hi,a⟩
  by_cases fW:i<l.length
  ·obtain⟨b,o,x,rfl,_,O,E,C⟩:=t.at_ fW;obtain⟨b',o',y,rfl,_,Q,F,D⟩:=B.at_ (i:=i) fy;rw[E,F]at a;have I:∀j u,(lh x)[j]? =some u->m.drew.cell? ⟨b,o+i*3+j,none⟩=some u:=λj u hu=>f.cell (C j u hu)
   have J:∀j u,(lh y)[j]? =some u->m.drew.cell? ⟨b',o'+i*3+j,none⟩=some u:=λj u hu=>f.cell (D j u hu)
   refine E5 ?_;refine hL (cs:=lh x) fx fx I ?_
   repeat' (first|refine gF i (o'+i*3) rfl rfl rfl rfl rfl fy ?_|refine fT ?_|fail)
   refine hL (cs:=lh y) fx fx J ?_;refine Lw fx fx (aaV x y) ?_
   by_cases e:x=y
   ·exact y6
   ·exact y19
  ·exact y20
 ·exact y27
theorem IY (w:World) (v g:Value) (l l':List xn) (G:Rw jK w v l) (H:Rw jK w g l'):fL prog 217 #[v,g] w λr w'=>r= .bool (decide (l=l'))/\Ext w w':=by
 refine gK func217 fx fF ?_;obtain⟨A,c,rfl,K,M,t⟩:=G.op jN;obtain⟨n,s,rfl,L,N,B⟩:=H.op jN
 by_cases hlen:l.length=l'.length
 ·refine fA ?_;refine gA (α:=Nat) (λi=>[(0,.slice A l.length c),(1,.slice n l'.length s),(5,.int .i64 (i:Int))]) (λi w'=>Ext w w'/\i<=l.length/\decide (l.drop i=l'.drop i)=decide (l=l')) (λi=>l.length-i) 0 (sub ⟨rfl,rfl,rfl⟩) ⟨Fr.refl _ _,iy _,rfl⟩ ?_;rintro i m ⟨f,hi,a⟩
  by_cases fW:i<l.length
  ·obtain⟨b,o,x,rfl,_,O,E,C⟩:=t.at_ fW;obtain⟨b',o',y,rfl,_,Q,F,D⟩:=B.at_ (i:=i) fy;rw[E,F]at a;have I:∀j u,(jK x)[j]? =some u->m.drew.cell? ⟨b,o+i*2+j,none⟩=some u:=λj u hu=>f.cell (C j u hu)
   have J:∀j u,(jK y)[j]? =some u->m.drew.cell? ⟨b',o'+i*2+j,none⟩=some u:=λj u hu=>f.cell (D j u hu)
   refine zF ?_;refine hL (cs:=jK x) fx fx I ?_
   repeat' (first|refine gF i (o'+i*2) rfl rfl rfl rfl rfl fy ?_|refine fT ?_|fail)
   refine hL (cs:=jK y) fx fx J ?_;refine Lw fx fx (XX x y) ?_
   by_cases e:x=y
   ·exact y6
   ·exact y19
  ·exact y20
 ·exact y27
theorem MM (w:World) (v g:Value) (l l':List hJ) (G:Rw j5 w v l) (H:Rw j5 w g l'):fL prog 149 #[v,g] w λr w'=>r= .bool (decide (l=l'))/\Ext w w':=by
 refine gK func149 fx fF ?_;obtain⟨A,c,rfl,K,M,t⟩:=G.op ha;obtain⟨n,s,rfl,L,N,B⟩:=H.op ha
 by_cases hlen:l.length=l'.length
 ·refine fA ?_;refine gA (α:=Nat) (λi=>[(0,.slice A l.length c),(1,.slice n l'.length s),(5,.int .i64 (i:Int))]) (λi w'=>Ext w w'/\i<=l.length/\decide (l.drop i=l'.drop i)=decide (l=l')) (λi=>l.length-i) 0 (sub ⟨rfl,rfl,rfl⟩) ⟨Fr.refl _ _,iy _,rfl⟩ ?_;rintro i m ⟨f,hi,a⟩
  by_cases fW:i<l.length
  ·obtain⟨b,o,x,rfl,_,O,E,C⟩:=t.at_ fW;obtain⟨b',o',y,rfl,_,Q,F,D⟩:=B.at_ (i:=i) fy;rw[E,F]at a;have I:∀j u,(j5 x)[j]? =some u->m.drew.cell? ⟨b,o+i*2+j,none⟩=some u:=λj u hu=>f.cell (C j u hu)
   have J:∀j u,(j5 y)[j]? =some u->m.drew.cell? ⟨b',o'+i*2+j,none⟩=some u:=λj u hu=>f.cell (D j u hu)
   refine zF ?_;refine hL (cs:=j5 x) fx fx I ?_
   repeat' (first|refine gF i (o'+i*2) rfl rfl rfl rfl rfl fy ?_|refine fT ?_|fail)
   refine hL (cs:=j5 y) fx fx J ?_;refine Lw fx fx (aaa x y) ?_
   by_cases e:x=y
   ·exact y6
   ·exact y19
  ·exact y20
 ·exact y27
end
end Go.Proofs.YtecaahegomdbbaaGreatDoor.gp
