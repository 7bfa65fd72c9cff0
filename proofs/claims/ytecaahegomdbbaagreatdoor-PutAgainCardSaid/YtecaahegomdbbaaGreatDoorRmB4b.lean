/- Parts of the proof. -/
import Derived.Test.YtecaahegomdbbaaGreatDoorRmB4a
set_option linter.all false
set_option maxRecDepth 99999
set_option maxHeartbeats 0
namespace Go.Proofs.YtecaahegomdbbaaGreatDoor.gr
open Go.Proofs.Tryz
open Go.RowKit
section
attribute [local irreducible] xs T
theorem EB (size:Int):∀(l:ip hT) (last:Int),l.all j3=true->wv size last (jJ l)=xY size last l
 |[],_,_=>rfl
 |p::r,last,h=>by
  rw[ra,iU]at h;have d:=h.1;simp only[j3,iU,decide_eq_true_eq]at d;have m:=EB size r (p.pos+p.data.length) h.2;have f:((p.pos.toNat:Nat):Int)=p.pos:=fy;have g:p.data.length≠0:=λe=>d.1.1 (zT.1 e)
  show(decide (p.data.length≠0)&&decide (last<((p.pos.toNat:Nat):Int))&&wv size (((p.pos.toNat:Nat):Int)+p.data.length) (jJ r))=_
  rw[f,m,decide_eq_true g,iV];rfl
def MB {l:ip hT} (h:l.all j3=true) (g:fF l<=1000000):J3 (jJ l):=by
 intro q hq;obtain⟨p,d,rfl⟩:=lp.1 hq;have f:=ld.1 h p d;simp only[j3,iU,decide_eq_true_eq]at f;have:=oa d;dsimp only;omega
def Eg {x:gG} {j:Nat} {u:i6} (h:(qV x)[j]? =some u):(gB x).toArray[1+j]? =some u:=by
 have e:gB x=[.I x.n.kind]++(qV x++[.I x.n.size,x.vd,.U x.n.target,.I x.n.major,.I x.n.minor]):=rfl;rw[po,e,tk iB,AZ,Ia,rk (jR.1 h).1];exact h
def Gp {p:hT} (h:j3 p=false):p.data=[]\/p.pos<0\/1099511627776<p.pos:=by
 by_cases h1:p.data=[]
 .exact .inl h1
 .by_cases d:p.pos<0
  .exact .inr (.inl d)
  .refine .inr (.inr ?_);rcases Int.lt_or_le 1099511627776 p.pos with h3|h3
   .exact h3
   .simp[j3,h1,h3]at h;omega
def Es (w:i5) (x:gG) (Q:im w x) (G:fF x.n.data<=1000000):fQ prog 92 #[.agg (gB x).toArray] w λr w'=>r= .bool (jV x.n)/\Ext w w':=by
 refine gD func92 fx fE ?_;unfold jV;refine fA ?_;refine hP fx (λI W m aj=>?_);have K:fW I w.heap.size 37 (gB x).toArray:=W;obtain⟨A,c,V,Z,ag,R⟩:=Q.d.op hB;have k7:gc I w.heap.size 7 (.I x.n.size):=K.cell 7;have k8:I.cell? ⟨w.heap.size,8,none⟩=some (.slice A x.n.data.length c):=by rw[<-V];exact K.cell 8
 by_cases h0:¬0<=x.n.size
 .refine fA ?_;exact fB fx fx ⟨by simp[h0],m⟩
 have h0:0<=x.n.size:=fy
 by_cases h1:¬x.n.size<=1099511627776
 .refine fA ?_;exact fB fx fx ⟨by simp[h1],m⟩
 have h1:x.n.size<=1099511627776:=fy
 by_cases F:¬x.n.data.length<=16
 .refine fA ?_;exact fB fx fx ⟨by simp[F],m⟩
 have F:x.n.data.length<=16:=fy;rw[decide_eq_true h0,decide_eq_true h1,decide_eq_true F,iV,iV,iV];obtain⟨l,D⟩:∃l,l=x.n.data:=⟨_,rfl⟩;have Y:=G;rw[<-D]at R Z k8 Y F|-;refine fA ?_;refine gC (α:=Nat) (λi=>[(1,.P w.heap.size),(20,.slice A l.length c),(21,.I (l.length:Int)),(22,.I (i:Int))]) (λi w'=>Ext I w'/\i<=l.length/\(l.drop i).all j3=l.all j3) (λi=>l.length-i) 0 (sub ⟨rfl,rfl,rfl,rfl⟩) ⟨Fr.refl _ _,iF _,rfl⟩ ?_;rintro i y ⟨B,hi,v⟩
 by_cases fY:i<l.length
 .obtain⟨b,o,p,rfl,_,ai,ab,aa⟩:=R.at_ fY;have ae:∀j u,(kc p)[j]? =some u->gc y b (o+i*2+j) u:=λj u hu=>B.cell (m.cell (aa j u hu))
  rw[ab,ra]at v;refine zD ?_;refine hV (cs:=kc p) fx fx ae ?_;refine gx (z:= .agg #[.I 0,.string ⟨#[]⟩]) fE (λJ M f ak=>?_);refine gY (cs:=(kc p).toArray) M fx fx fx fx (vL p) (λE S X=>?_);have C:Ext y E:=Ext.te f X λj ah e=>by have e':j=y.heap.size:=e;omega
  have q0:gc E y.heap.size 0 (.I p.pos):=S.cell 0;have q1:gc E y.heap.size 1 (.U p.data):=S.cell 1;have N:=m.t (B.t C);cases H:j3 p with
  | false=>
   rw[H,hW]at v;rw[<-v]
   by_cases g1:p.data=[]
   .repeat' (first|refine gk (op:= .eql) (b:=[]) (r:=true) fx fx (by simp[hG,g1]) ?_|refine fT ?_|fail)
    exact fB fx fx ⟨rfl,N⟩
   by_cases g2:p.pos<0
   .refine X9 ?_;exact fB fx fx ⟨rfl,N⟩
   have g3:1099511627776<p.pos:=(Gp H).resolve_left g1|>.resolve_left g2
   refine X9 ?_;exact fB fx fx ⟨rfl,N⟩
  |true=>
   rw[H,iV]at v;have hk:=H;simp only[j3,iU,decide_eq_true_eq]at hk;obtain⟨⟨g1,g2⟩,g3⟩:=hk;refine X9 ?_;exact gl ⟨i+1,sub ⟨rfl,rfl,rfl,rfl⟩,⟨B.t C,fy,v⟩,(by show l.length-(i+1)<l.length-i;omega)⟩
 .obtain rfl:i=l.length:=fy;rw[jP]at v;have O:x.n.data.all j3=true:=by rw[<-D,<-v];rfl
  rw[<-v,Gf,iV];have L:fW y w.heap.size 37 (gB x).toArray:=K.ext B;have m7:gc y.drew w.heap.size 7 (.I x.n.size):=L.cell 7;refine fA ?_;refine lk [47] (λw'=>gc w' w.heap.size 7 (.I x.n.size)) fE (by decide+kernel) m7 ?_;refine gR (t:=37) L fx fx ?_;refine fI fx fx (qv y.drew x (Q.ext (m.t B.d)) G) ?_ ?_
  .rintro r J ⟨rfl,f⟩;rw[<-D]
   by_cases g:fF l<=4000
   .rw[decide_eq_true g,iV];have M:fW J w.heap.size 37 (gB x).toArray:=L.drew.ext f;have T:=m.t (B.d.t f);refine fA ?_;refine gR (t:=37) M fx fx ?_;refine fA ?_;refine fI fx fx (uP J x (Q.ext T) O G (by rw[<-D];omega)) ?_ ?_
    .rintro r E ⟨ad,C⟩;have U:=ad.rw;rw[<-D]at U
     repeat' (first|refine pG fx fx (λw' h=>h) ?_|refine fT ?_|fail)
     refine fI fx fx (IG E r (jJ l) x.n.size U (by rw[D];exact MB O G)) ?_ ?_
     .rintro r af ⟨rfl,rfl⟩;rw[decide_eq_true h0,decide_eq_true h1,iV,iV,EB _ _ _ (by rw[D];exact O)];refine fA ?_;exact fB fx fx ⟨rfl,T.t C⟩
     .rintro r af ⟨_,rfl⟩;exact C.cell (f.cell m7)
    .rintro r E ⟨_,C⟩;exact C.cell (f.cell m7)
   .rw[decide_eq_false g,hW];refine fA ?_;exact fB fx fx ⟨rfl,m.t (B.d.t f)⟩
  .rintro r J ⟨_,f⟩;exact f.cell m7
end
end Go.Proofs.YtecaahegomdbbaaGreatDoor.gr
namespace Go.Proofs.YtecaahegomdbbaaGreatDoor
open Go.Proofs.Tryz
namespace gr.Wr
variable {l:ip hT} {p:hT}
def vk (r:fL) (k:Nat) (d:fL):fL:=r.take k++d.take (r.length-k)++r.drop (k+d.length)
theorem sx (r:fL) (k:Nat) (d:fL) (hk:k<=r.length):(vk r k d).length=r.length:=by
 grind [vk,List.length_append,List.length_take,List.length_drop]
theorem EV (r:fL) (k:Nat) (d:fL) (hk:k<=r.length) {j:Nat} (f:j<r.length):(vk r k d)[j]? =if k<=j/\j<k+d.length then d[j-k]? else r[j]? :=by
 grind [vk,List.length_take,List.append_assoc,List.getElem?_append_left,List.length,List.getElem?_append_right,List.length_append]
def OZ (q0 q1:Int) (p:hT):Bool:=decide (q0<=p.pos/\p.pos<q1)
def qT (q0 q1:Int) (r:fL) (p:hT):fL:=if OZ q0 q1 p then vk r (p.pos-q0).toNat p.data else r
def oL (q0 q1:Int) (P:ip hT) (r:fL):fL:=P.foldl (qT q0 q1) r
def DJ {q0 q1:Int} {r:fL} (hq:q1-q0<=r.length):(qT q0 q1 r p).length=r.length:=by
 grind [qT,OZ,sx]
theorem B8 {q0 q1:Int} {r:fL} (hq:q1-q0<=r.length) {k:Nat} (hk:k<r.length):(qT q0 q1 r p)[k]? =if OZ q0 q1 p=true/\p.pos<=q0+k/\q0+k<gU p then p.data[(q0+(k:Int)-p.pos).toNat]? else r[k]? :=by
 grind [qT,OZ,EV,gU,List.length]
theorem sY (q0 q1:Int):∀(P:ip hT) (r:fL),q1-q0<=r.length->(oL q0 q1 P r).length=r.length
 |[],_,_=>rfl
 |p::P,r,h=>by
  have h1:=DJ (p:=p) h;unfold oL;rw[wa];have:=sY q0 q1 P (qT q0 q1 r p) fy
  grind [oL]
theorem Aj {c:hT->Bool}:∀{l:ip hT} {x:Int},(∀p∈l,p.pos<=x/\x<gU p->c p=true)->qI (l.filter c) x=qI l x
 |[],_,_=>rfl
 |p::r,x,h=>by
  have d:=Aj (l:=r) (x:=x) λq hq=>h q (qC _ hq)
  grind [gU,List.mem_cons_self,qI]
theorem Po {r:ip hT} (h:jB 1 (p::r)) {x:Int} (d:p.pos<=x/\x<gU p) (c:hT->Bool):qI (r.filter c) x=none:=by
 grind [pU,jB,List.pairwise_cons]
theorem CG (q0 q1:Int):∀(l:ip hT) (r:fL),jB 1 l->q1-q0<=r.length->∀k:Nat,k<r.length->(oL q0 q1 l r)[k]? =(qI (l.filter (OZ q0 q1)) (q0+k)).or r[k]?
 |[],r,_,_,k,_=>by simp[oL,qI]
 |p::l,r,hs,hq,k,hk=>by
  have h1:=DJ (p:=p) hq;have d:jB 1 l:=by unfold jB at hs|-;exact fM
  have f:=CG q0 q1 l (qT q0 q1 r p) d fy k fy
  grind [oL,qT,B8,OZ,qI,gU,Po,mV]
theorem Bp:∀{d:ip hT} {q:hT},jB 1 d->q∈d->qI d (q.pos-1)=none
 |[],q,_,hq=>by cases hq
 |p::d,q,hs,hq=>by
  unfold jB at hs;rw[jA]at hs;rcases iu.1 hq with rfl|hq
  .grind [pU,gU]
  .rw[qI,if_neg fM];exact Bp hs.2 hq
def TH {pos:Int} {s:fL} (v:jB 1 l) (u:∀p∈l,0<=p.pos/\gU p<=1099511627776) (n:jB 1 (qZ l pos s)) {q:hT} (hq:q∈qZ l pos s):
  oL q.pos (gU q) (l++[⟨pos,s⟩]) (List.replicate q.data.length 0)=q.data:=by
 have hw:gU q-q.pos<=(List.replicate q.data.length (0:UInt8)).length:=by rw[Bg];unfold gU;omega
 have hlen:=sY q.pos (gU q) (l++[⟨pos,s⟩]) _ hw;rw[Bg]at hlen;have w:=sY q.pos (gU q) l _ hw;have d:=Bp n hq;rw[Ja u]at d;refine BK λk=>?_
 by_cases hk:k<q.data.length
 .have B:q.pos<=q.pos+(k:Int)/\q.pos+(k:Int)<gU q:=by unfold gU;omega
  have g:=Yz n hq B;rw[Ja u,show(q.pos+(k:Int)-q.pos).toNat=k by omega]at g
  have y:oL q.pos (gU q) (l++[⟨pos,s⟩]) (List.replicate q.data.length 0)=qT q.pos (gU q) (oL q.pos (gU q) l (List.replicate q.data.length 0)) ⟨pos,s⟩:=by
   unfold oL;rw[ID];rfl
  rw[y,B8 (by rw[w];exact hw) fy];have he:gU (⟨pos,s⟩:hT)=pos+(s.length:Int):=rfl;rw[he];dsimp only
  by_cases m:pos<=q.pos+(k:Int)/\q.pos+(k:Int)<pos+(s.length:Int)
  .rw[if_pos m]at g
   have D:OZ q.pos (gU q) ⟨pos,s⟩=true:=by
    unfold OZ;rw[decide_eq_true_eq];dsimp only;refine⟨Int.not_lt.1 λfY=>?_,fy⟩;rw[if_pos fy]at d;obtain⟨b,f⟩:=mV (p:=⟨pos,s⟩) (x:=q.pos-1) fM;dsimp only at f;rw[f]at d;cases d
   grind
  .rw[if_neg m]at g;rw[if_neg (λt=>m t.2),CG _ _ _ _ v hw k fy]
   have F:q.data[k]?≠none:=by
    rw[j9 hk];exact λh=>by cases h
   have C:qI (l.filter (OZ q.pos (gU q))) (q.pos+(k:Int))=qI l (q.pos+(k:Int)):=Aj λp E t=>by
    unfold OZ;rw[decide_eq_true_eq];refine⟨Int.not_lt.1 λfY=>?_,fy⟩;split at d
    .rename_i h;obtain⟨b,f⟩:=mV (p:=⟨pos,s⟩) (x:=q.pos-1) fM
     grind
    grind [pU]
   grind
 grind
theorem MA (h:∀p∈l,0<=p.pos) (x:Nat):ug (jJ l) x↔qI l x≠none:=by
 unfold ug jJ;constructor
 .grind [pU,gU]
 .intro g
  obtain⟨p,d,f⟩:∃p∈l,p.pos<=(x:Int)/\(x:Int)<gU p:=by
   grind [pU]
  have h0:=h p d;unfold gU at f;exact⟨_,lp.2 ⟨p,d,rfl⟩,by dsimp only;omega,by dsimp only;omega⟩
def OG {pos:Int} {s:fL} (w:∀p∈l,0<=p.pos/\gU p<=1099511627776/\p.data≠[]) (h0:0<=pos) (hs:s≠[]) (f:jB 1 (qZ l pos s)) (t:∀q∈qZ l pos s,q.data≠[]/\0<=q.pos) {A7:ip mH} (d:A7.Perm (jJ l++[(pos.toNat,s.length)])) (g:BM A7):Iv A7=jJ (qZ l pos s):=by
 have hs0:0<s.length:=fM
 have m:JQ A7:=λe he=>by
  rcases iS.1 (d.mem_iff.1 he)with he|he
  .obtain⟨p,d,rfl⟩:=lp.1 he
   grind
  grind
 obtain⟨m1,m2,m3⟩:=OY g m;refine zm _ _ m1 ?_ m2 ?_ λx=>?_
 .unfold Ir jJ;rw[zH];unfold jB at f;refine f.imp_of_mem λ{a b} g v u=>?_
  grind [gU]
 .intro e he;obtain⟨p,d,rfl⟩:=lp.1 he
  grind
 .rw[m3 x,MA fM,Ja fM]
  have hc:ug A7 x↔ug (jJ l) x\/(pos<=(x:Int)/\(x:Int)<pos+(s.length:Int)):=by
   unfold ug;constructor
   .grind
   .rintro(⟨e,he,n⟩|n)
    .grind
    .exact⟨_,d.mem_iff.2 (ze _ (jS.2 fx)),by dsimp only;omega,by dsimp only;omega⟩
  grind [MA,List.length,mV,id,absurd]
end gr.Wr
end Go.Proofs.YtecaahegomdbbaaGreatDoor
namespace Go.Proofs.YtecaahegomdbbaaGreatDoor.gr
open Go.Proofs.Tryz
open Go.RowKit
section
open Go.RowKit Go.Sort Go.Shelf
open Wr
section
variable {hs:ip Nat} {H:i5->Prop} {full:Array li} {K:Env->i5->Prop} {ii:ip li} {Y:Env} {w:i5} {d:Tmp} {R:i9} {pos:String} {af:Array Edge}
def ae5 {t m:i9} {x y:i7} {a:Nat} (f:gh Y x=some (.float .f64 (fw a))) (g:gh Y y=some (.float .f64 (fw a))) (n:a<=1099511627776)
  (h:xs prog fD fC hs H full K ii ((d,.bool false)::Y) w):xs prog fD fC hs H full K (⟨some d,.binOp .neq t x y m,R,pos,af,none⟩::ii) Y w:=by
 refine jE f g (by rfl) (λw'=>?_) h;have hc:(binOp .neq t (.float .f64 (fw a)) (.float .f64 (fw a)))=pure (.bool (FloatKind.f64.format.order (fw a) (fw a) !=some .eq)):=by simp[binOp,Op.floatCmp]
 rw[hc,zM fy fy,Cf.2 rfl];rfl
def YS {t n:i9} {x y:i7} {a b:Nat} (g:gh Y x=some (.float .f64 (fw a))) (m:gh Y y=some (.float .f64 (fw b))) (u:a<=1099511627776) (v:b<=1099511627776) {r:Bool} (f:decide (a<b)=r)
  (h:xs prog fD fC hs H full K ii ((d,.bool r)::Y) w):xs prog fD fC hs H full K (⟨some d,.binOp .lss t x y n,R,pos,af,none⟩::ii) Y w:=by
 refine jE g m (by rfl) (λw'=>?_) h;have hc:(binOp .lss t (.float .f64 (fw a)) (.float .f64 (fw b)))=pure (.bool (FloatKind.f64.format.order (fw a) (fw b)==some .lt)):=by simp[binOp,Op.floatCmp]
 rw[hc,zM fy fy,<-f];rcases zw a b with h|h|h
 .rw[DV.2 h,decide_eq_true h];rfl
 .rw[Cf.2 h,decide_eq_false fy];rfl
 .rw[CF.2 h,decide_eq_false fy];rfl
end
attribute [local irreducible] xs T
def xR (w:i5) (a:Nat) (d:a<=1099511627776):fQ prog 229 #[.float .f64 (fw a)] w λr w'=>r= .bool false/\w=w':=by
 refine gD func229 fx fE ?_
 repeat' (first|refine ae5 fx fx d ?_|refine fT ?_|fail)
 exact y2
def Ky (a b:Nat):Int:=if a<b then-1 else if b<a then 1 else 0
def Oo (w:i5) (a b:Nat) (d:a<=1099511627776) (f:b<=1099511627776):fQ prog 162 #[.float .f64 (fw a),.float .f64 (fw b)] w λr w'=>r= .I (Ky a b)/\w=w':=by
 refine gP func162 fx fE ?_;refine fA ?_;refine fH fx fx (xR w a d) (λr g h1=>?_);obtain⟨rfl,rfl⟩:=h1;refine fA ?_;refine fH fx fx (xR w b f) (λr g h1=>?_);obtain⟨rfl,rfl⟩:=h1
 by_cases h0:a<b
 .repeat' (first|refine YS (r:=true) fx fx d f (decide_eq_true h0) ?_|refine fT ?_|fail)
  exact fB fx fx ⟨by simp[Ky,h0],rfl⟩
 .by_cases h1:b<a
  .repeat' (first|refine YS (r:=false) fx fx d f (decide_eq_false h0) ?_|refine Oi (r:=true) fx fx d f (decide_eq_true h1) ?_|refine fT ?_|fail)
   exact fB fx fx ⟨by simp[Ky,h0,h1],rfl⟩
  .repeat' (first|refine YS (r:=false) fx fx d f (decide_eq_false h0) ?_|refine Oi (r:=false) fx fx d f (decide_eq_false h1) ?_|refine fT ?_|fail)
   exact fB fx fx ⟨by simp[Ky,h0,h1],rfl⟩
def IL (w:i5) (a b c e:Nat) (d:a<=1099511627776) (f:b<=1099511627776):fQ prog 161 #[.complex .f64 (fw a) (fw c),.complex .f64 (fw b) (fw e)] w λr w'=>r= .I (Ky a b)/\w=w':=by
 refine gP func161 fx fE ?_
 repeat' (first|refine O9 fx ?_|refine fT ?_|fail)
 refine fH fx fx (Oo w a b d f) (λr g h1=>?_);exact y8
abbrev X0:={p:Nat×Nat//p.1<=1099511627776/\p.2<=1099511627776}
instance instExV:Inhabited X0:=⟨⟨(0,0),by decide,by decide⟩⟩
def LA (p:X0):i6:= .complex .f64 (fw p.1.1) (fw p.1.2)
def cfV (x y:X0):Int:=Ky x.1.1 y.1.1
def FD (x y:X0):ltOf cfV x y=decide (x.1.1<y.1.1):=by
 unfold ltOf cfV Ky
 by_cases h:x.1.1<y.1.1
 .simp[h]
 .by_cases h1:y.1.1<x.1.1<;>simp[h,h1]
def adV:SWO (ltOf cfV):=by
 refine⟨λx=>?_,λx y z h1 d=>?_,λx y z h1 d=>?_⟩
 .rw[FD];simp
 .rw[FD]at*;simp only[decide_eq_true_eq]at*;omega
 .rw[FD]at*;simp only[decide_eq_false_iff_not]at*;omega
def toV (l:ip (Nat×Nat)) (h:J3 l):ip X0:=l.attach.map λp=>⟨p.1,h p.1 p.2⟩
def Tx (l:ip (Nat×Nat)) (h:J3 l):(toV l h).map Subtype.val=l:=by
 unfold toV;rw[rN];exact List.attach_map_subtype_val l
theorem Qb:∀l:ip X0,(l.map Subtype.val).flatMap qG=l.map LA
 |[]=>rfl
 |x::l=>by rw[jj,tu,jj,Qb l];rfl
def BJ {n:Nat} (d:Array X0) (cur:Array i6) (f:d.size=n) (g:n<=cur.size):(putCells LA 0 d cur).toList.take n=d.toList.map LA:=by
 apply BK;intro k
 by_cases hk:k<n
 .rw[GH hk,Hr];unfold putCells;rw[Wn,wW fy,tT,if_pos ⟨iF _,fy⟩,qX,Hr,wW fy,tT,Mz,getElem!_pos d k fy]
 .rw[x0 (by rw[kv];omega),x0 (by rw[jv,py];omega)]
def JF (w:i5) (B:Nat) (v:i6) (l:ip (Nat×Nat)) (ai:Ow qG 1 w B 157 v l) (K:J3 l) (h0:l≠[]) (ak:l.length<=1000000):
  fQ prog 160 #[v,.func (.func 161) #[] #[]] w λ_ w'=>(∃l',l'.Perm l/\BM l'/\Ow qG 1 w' B 157 v l')/\Fr (λb=>v.ownBlock=some b) w w':=by
 have E:=Tx l K;obtain⟨L,U⟩:∃L,L=toV l K:=⟨_,rfl⟩;rw[<-U]at E;have F:L.length=l.length:=by rw[<-E,jv]
 obtain⟨hlen,hO⟩:=ai;rcases hO with⟨rfl,aj⟩|⟨b,cap,cur,rfl,T,C,h3,R,S,H⟩
 .exact absurd (zT.1 aj) h0
 have fY:b<w.heap.size:=fW.lt (t:=157) (cs:=cur) C;have Y:l.flatMap qG=L.map LA:=by rw[<-E];exact Qb L
 rw[Y]at H hlen
 have X:∀j,j<L.toArray.size->cur[j]? =some (LA L.toArray[j]!):=by
  intro j f;have G:j<L.length:=by simpa using f
  have g:(cur.toList.take (l.length*1))[j]? =some (LA L[j]):=by rw[H,qX,j9 G,tT]
  rw[GH fy,Hr]at g;rw[g,getElem!_pos L.toArray j f];simp
 have hH:Holds LA w b 0 L.toArray:=by
  intro j f;refine⟨?_,?_⟩
  .have:=fW.cell (t:=157) (cs:=cur) C (0+j);rw[this,iM];exact X j f
  .simp only[World.frozen?,C];simp
 have Q:∀args w,(callFunc 161 args).run prog w= .ok (.enter 161 args) w:=enters_of func161 fE rfl
 have W:CmpLays1 prog 161 #[] LA cfV b 0 L.toArray.size w:=CmpReads.lays λm os N hs x y=>by
  have h:=IL (sortWorld LA w b 0 m N os) x.1.1 y.1.1 x.1.2 y.1.2 x.2.1 y.2.1;refine pS h λe w' ⟨u,he,ag,hw⟩=>?_
  subst ag;exact⟨he,0,hw▸rfl⟩
 have I:=Any.slices_SortFunc abR LA (λ_=>rfl) cfV adV 161 #[] b 0 cap L.toArray w Q W hH fY (by simp;omega);rw[nK,F]at I;refine pS I λe w' ⟨he,d,n,os,ae,hs,hw⟩=>?_
 refine⟨.tuple #[],he,?_,?_⟩
 .obtain⟨ah,_,M⟩:=ae;have D:d.size=l.length:=by rw[ah,nK,F]
  refine⟨d.toList.map Subtype.val,?_,?_,?_⟩
  .have g:(d.extract 0 l.length).toList=d.toList:=by rw[<-D];simp
   have O:(L.toArray.extract 0 l.length).toList=L:=by rw[<-F];simp
   rw[g,O]at M;have:=M.map Subtype.val;rw[E]at this;exact this
  .unfold BM;rw[zH,Hc];intro i j hi f aa;have Z:i<d.size:=by simpa using hi
   have G:j<d.size:=by simpa using f
   have:=hs i j (iF _) aa fy;rw[FD,getElem!_pos d j G,getElem!_pos d i Z]at this;simp only[decide_eq_false_iff_not]at this;simp only[WO];omega
  .have V:w'.heap[b]? =some (.cells (putCells LA 0 d cur) 157 (0,0)):=by
    rw[hw];unfold sortWorld;rw[heap_grow_old _ _ (by simpa[putRow,mapBlock]using fY)];simp only[putRow,mapBlock,tP,if_true,heap_ahead,C,tT,onCells]
   have af:(putCells LA 0 d cur).size=cur.size:=by simp[putCells]
   have J:(d.toList.map Subtype.val).flatMap qG=d.toList.map LA:=Qb _;refine⟨?_,.inr ⟨b,cap,putCells LA 0 d cur,?_,T,V,?_,R,?_,?_⟩⟩
   .rw[J];simp
   .simp[D]
   .simpa[D]using h3
   .rw[af];exact S
   .rw[J,jv,py,oR];exact BJ d cur fx (by rw[D];omega)
 .rw[hw];unfold sortWorld;refine⟨rfl,rfl,rfl,by simp,λk hk ad=>?_⟩;have ab:k≠b:=λe=>ad (by rw[e];rfl)
  rw[heap_grow_old _ _ (by simpa[putRow,mapBlock]using hk)];simp only[putRow,mapBlock,tP,if_neg (uG ab),heap_ahead]
end
section
open Wr
attribute [local irreducible] xs T
def Pf (l:ip mH):Prop:=∀p∈l,0<p.2/\p.1+p.2<=1099511627776
def Pf.ok {l:ip mH} (h:Pf l):J3 l:=λp d=>by have:=h p d;omega
def Ow.afm {α:Type} {f:α->ip i6} {z B n c b o:Nat} {e:i9} {w:i5} {l:ip α} (h:Ow f z w B e (.S b o n c) l):o=0:=by
 obtain⟨_,h⟩:=h;rcases h with⟨d,_⟩|⟨g,cap,cur,d,_⟩
 .cases d
 .injection d with d
  injection d with d
  injection d
structure ad5 (l:List mH) (w:World) (x:Nat×Value) (w':World):Prop where
 i:x.1<=l.length
 own:Ow qG 1 w' w.heap.size 157 x.2 (l.take x.1)
 ext:Ext w w'
structure aes (l:List mH) (w:World) (x:Nat×Value×List mH) (w':World):Prop where
 i:x.1<=l.length
 own:Ow qG 1 w' w.heap.size 157 x.2.1 x.2.2
 ext:Ext w w'
 ok:Pf x.2.2
 n:x.2.2.length<=x.1
 m:(x.2.2=[]/\x.1=0)\/∃b c,x.2.2=b++[c]/\Iv l=b++x8 c (l.drop x.1)
def Bt (w:i5) (v:i6) (l:ip mH) (aA:Rw qG w v l) (X:Pf l) (h0:l≠[]) (aK:l.length<=100000):fQ prog 98 #[v] w λr w'=>(∃s,s.Perm l/\BM s/\Ow qG 1 w' w.heap.size 157 r (Iv s))/\Ext w w':=by
 refine gD func98 fx fE ?_;obtain⟨A,c,rfl,aC,aD,ae⟩:=aA.op n0;refine fA ?_;refine gC (α:=Nat×i6) (λy=>[(3,y.2),(11,.slice A l.length c),(12,.I (l.length:Int)),(13,.I (y.1:Int))]) (ad5 l w) (λy=>l.length-y.1) (0,.slice none 0 0) (sub ⟨rfl,rfl,rfl,rfl⟩) ⟨iF _,Ow.nil _ _ _,Fr.refl _ _⟩ ?_;rintro⟨i,v⟩ R ⟨hi,f,J⟩;dsimp only at hi f J|-
 by_cases fY:i<l.length
 .obtain⟨b,o,p,rfl,_,D,U,W⟩:=ae.at_ fY;obtain⟨Z,aa⟩:=X p (jT D);have k0:=J.cell (W 0 _ rfl);rw[oR,kB]at k0;refine P9 ?_;refine fH fx fx (nc R p.1 p.2 fy) (λr B h1=>?_);obtain⟨rfl,rfl⟩:=h1;refine fA ?_;refine fH fx fx (kP R p.1 p.2 fy) (λr B h1=>?_);obtain⟨rfl,rfl⟩:=h1;refine KJ ?_;refine fH fx fx (kP R p.1 p.2 fy) (λr B h1=>?_);obtain⟨rfl,rfl⟩:=h1;rw[show min (p.2:Int) (1099511627776-(p.1:Int))=(p.2:Int)from by omega];refine fA ?_;refine fH fx fx (yG R p.1 p.2 fy fy) (λr H an=>?_);obtain⟨rfl,rfl⟩:=an;refine fA ?_;refine FG (vs:=qG p) mW fx fx fU fU (λu hu=>by rw[jS.1 hu];rfl) (λH K G aj=>?_);have aJ:(l.take i).length=i:=by rw[kv];omega
  refine jH (news:=qG p) mW fx fU fx (gK.ext f G) fx (gQ K fU fx) fx (λu hu=>by rw[jS.1 hu];rfl) (by unfold maxLen;omega) fy (by have:=J.size;have:=G.size;omega) (λE T O M ak=>?_)
  have Q:Ow qG 1 T w.heap.size 157 E (l.take (i+1)):=by
   have e:l.take (i+1)=l.take i++[p]:=by rw[j2,D];rfl
   rw[e];exact Ow.ext1 (l':=[p]) (by simpa using O)
  refine fA ?_;exact gl ⟨(i+1,E),sub ⟨rfl,rfl,rfl,rfl⟩,⟨fY,Q,Ext.te (J.t G) M λj V e=>by have:=(f.gO e).1;omega⟩,(by show l.length-(i+1)<l.length-i;omega)⟩
 obtain rfl:i=l.length:=fy;rw[kh]at f;refine fA ?_;refine fH fx fx (JF R _ v l f X.ok h0 fy) (λr S h3=>?_);obtain⟨⟨s,ab,au,ai⟩,ag⟩:=h3;have af:Ext w S:=Ext.te J ag λj V e=>by have:=(f.gO e).1;omega
 have aN:s.length=l.length:=ab.length_eq;have az:Pf s:=λp D=>X p (ab.mem_iff.1 D)
 obtain⟨al,c2,rfl,aE,aF,ao⟩:=ai.rw.op n0;clear f ai ae ag J;refine fA ?_;refine gC (α:=Nat×i6×ip mH) (λy=>[(7,y.2.1),(35,.slice al s.length c2),(36,.I (s.length:Int)),(37,.I (y.1:Int))]) (aes s S) (λy=>s.length-y.1) (0,.slice none 0 0,[]) (sub ⟨rfl,rfl,rfl,rfl⟩) ⟨iF _,Ow.nil _ _ _,Fr.refl _ _,λp D=>by simp at D,gJ _,.inl ⟨rfl,rfl⟩⟩ ?_;rintro⟨i,v,out⟩ m ⟨hi,f,C,N,Y,hm⟩;dsimp only at hi f C N Y hm|-;obtain⟨aB,c4,rfl,aG,aH,ap⟩:=f.rw.op n0
 by_cases fY:i<s.length
 .obtain⟨b,o,p,rfl,_,D,U,W⟩:=ao.at_ fY;obtain⟨Z,aa⟩:=az p (jT D);have k0:=C.cell (W 0 _ rfl);rw[oR,kB]at k0;rcases hm with⟨rfl,rfl⟩|⟨d,am,rfl,hm⟩
  .dsimp only[List.length_nil]
   repeat' (first|refine kt 0 (o+0) fx fx fx fx fx fY ?_|refine KH fx k0 ?_|refine fT ?_|fail)
   refine lk [52] (λ_=>True) fE (by decide+kernel) trivial ?_;refine fA ?_;refine FG (vs:=qG p) mW fx fx fU fU (λu hu=>by rw[jS.1 hu];rfl) (λH K G aj=>?_);have F:Ext m H:=(Fr.drew hJ m).t G;refine jH (news:=qG p) mW fx fU fx (gK.ext f F) fx (gQ K fU fx) fx (λu hu=>by rw[jS.1 hu];rfl) (by unfold maxLen;decide) fy (by have:=C.size;have:=F.size;omega) (λE T O M ak=>?_)
   have Q:Ow qG 1 T S.heap.size 157 E [p]:=by
    have:=Ow.ext1 (l:=[]) (l':=[p]) (by simpa using O);simpa using this
   refine fA ?_;exact gl ⟨(1,E,[p]),sub ⟨rfl,rfl,rfl,rfl⟩,⟨fY,Q,Ext.te (C.t F) M λj V e=>by have:=(f.gO e).1;omega,λx n=>by rw[jS.1 n];exact⟨Z,aa⟩,gJ _,.inr ⟨[],p,rfl,by rw[wK]at U;rw[U];rfl⟩⟩,(by show s.length-1<s.length-0;omega)⟩
  .obtain⟨I,o4,q,rfl,_,hq,_,av⟩:=ap.at_ (i:=d.length) iB;have ax:q=am:=by simpa using hq.symm
   subst ax;obtain⟨aL,aM⟩:=N q iB;have k1:=av 0 _ rfl;rw[oR,kB]at k1;have aI:(d++[q]).length=d.length+1:=by simp
   refine P9 ?_;refine lk [52] (λw'=>gc w' I (o4+d.length) (.complex .f64 (fw q.1) (fw q.2))) fE (by decide+kernel) k1 ?_;refine fA ?_;refine fI fx fx (kP m.drew p.1 p.2 fy) (λr B h1=>?_) (λr B h1=>h1.2▸k1);obtain⟨rfl,rfl⟩:=h1
   repeat' (first|refine kt d.length (o4+d.length) fx fx fx fy fx fy ?_|refine pG fx fx (λ_ h=>h) ?_|refine fT ?_|fail)
   refine fI fx fx (mS m.drew q.1 q.2 fy fy) (λr B h1=>?_) (λr B h1=>h1.2▸k1);obtain⟨rfl,rfl⟩:=h1;have L:Ext m m.drew:=Fr.drew hJ m;rw[U,x8]at hm;have k2:gc m.drew I (o4+d.length) (.complex .f64 (fw q.1) (fw q.2)):=k1
   by_cases g:q.1+q.2<p.1
   .rw[if_pos g]at hm;refine fA ?_;refine FG (vs:=qG p) mW fx fx fU fU (λu hu=>by rw[jS.1 hu];rfl) (λH K G aj=>?_);have F:Ext m H:=L.t G;refine jH (news:=qG p) mW fx fU fx (gK.ext f F) fx (gQ K fU fx) fx (λu hu=>by rw[jS.1 hu];rfl) (by unfold maxLen;omega) fy (by have:=C.size;have:=F.size;omega) (λE T O M ak=>?_);have Q:Ow qG 1 T S.heap.size 157 E (d++[q]++[p]):=Ow.ext1 (l':=[p]) (by simpa using O);refine fA ?_
    exact gl ⟨(i+1,E,d++[q]++[p]),sub ⟨rfl,rfl,rfl,rfl⟩,⟨fY,Q,Ext.te (C.t F) M λj V e=>by have:=(f.gO e).1;omega,λx n=>by
     rcases iS.1 n with n|n
     .exact N x n
     .rw[jS.1 n];exact⟨Z,aa⟩,by simp only[ib,AZ]at Y|-;omega,.inr ⟨d++[q],p,rfl,by rw[hm];simp⟩⟩,(by show s.length-(i+1)<s.length-i;omega)⟩
   .rw[if_neg g]at hm
    repeat' (first|refine kt d.length (o4+d.length) fx fx fx fy fx fy ?_|refine KH fx k2 ?_|refine fT ?_|fail)
    refine fH fx fx (mS m.drew p.1 p.2 fy fy) (λr B h1=>?_);obtain⟨rfl,rfl⟩:=h1;refine fA ?_;refine fH fx fx (mS m.drew q.1 q.2 fy fy) (λr B h1=>?_);obtain⟨rfl,rfl⟩:=h1
    by_cases g2:q.1+q.2<p.1+p.2
    .rw[show max (q.1+q.2) (p.1+p.2)-q.1=p.1+p.2-q.1 from by omega]at hm
     repeat' (first|refine kt d.length (o4+d.length) fx fx fx fy fx fy ?_|refine fT ?_|fail)
     refine fH fx fx (kP m.drew q.1 q.2 fy) (λr B h1=>?_);obtain⟨rfl,rfl⟩:=h1;refine fA ?_;refine fH fx fx (mS m.drew p.1 p.2 fy fy) (λr B h1=>?_);obtain⟨rfl,rfl⟩:=h1;refine fA ?_;refine fH fx fx (kP m.drew q.1 q.2 fy) (λr B h1=>?_);obtain⟨rfl,rfl⟩:=h1;refine fA ?_;rw[show(p.1:Int)+p.2-q.1=((p.1+p.2-q.1:Nat):Int)from by omega];refine fH fx fx (yG m.drew q.1 (p.1+p.2-q.1) fy fy) (λr B h1=>?_);obtain⟨rfl,rfl⟩:=h1;obtain rfl:=f.afm
     repeat' (first|refine kt d.length (0+d.length) fx fx fx fy fx fy ?_|refine fT ?_|fail)
     refine Xz (x':=(q.1,p.1+p.2-q.1)) n0 d.length 0 (f.ext L) fx fx fy fU fx fx hq fx (λH ah aq=>?_);have ay:(d++[q]).set d.length (q.1,p.1+p.2-q.1)=d++[(q.1,p.1+p.2-q.1)]:=by simp
     rw[ay]at ah;have ar:Ow qG 1 H S.heap.size 157 (.S I 0 (d++[q]).length c4) (d++[(q.1,p.1+p.2-q.1)]):=ah;refine fA ?_
     exact gl ⟨(i+1,.S I 0 (d++[q]).length c4,d++[(q.1,p.1+p.2-q.1)]),sub ⟨rfl,rfl,rfl,rfl⟩,⟨fY,ar,Ext.te (C.t L) aq λj V e=>by have:=(f.gO (b:=I) fx).1;omega,λx n=>by
      rcases iS.1 n with n|n
      .exact N x (wB _ n)
      .rw[jS.1 n];dsimp only;omega,by simp only[ib,AZ]at Y|-;omega,.inr ⟨d,_,rfl,hm⟩⟩,(by show s.length-(i+1)<s.length-i;omega)⟩
    .rw[show max (q.1+q.2) (p.1+p.2)-q.1=q.2 from by omega]at hm;refine fA ?_;exact gl ⟨(i+1,.S I o4 (d++[q]).length c4,d++[q]),sub ⟨rfl,rfl,rfl,rfl⟩,⟨fY,f.ext L,C.t L,N,by dsimp only;omega,.inr ⟨d,q,rfl,hm⟩⟩,(by show s.length-(i+1)<s.length-i;omega)⟩
 .obtain rfl:i=s.length:=fy
  have aw:out=Iv s:=by
   rcases hm with⟨_,h⟩|⟨b,c,h1,ad⟩
   .exact absurd (zT.1 (by omega:l.length=0)) h0
   .rw[jP,x8]at ad;rw[h1,ad]
  refine fA ?_;exact fB fx fx ⟨⟨s,ab,au,aw▸f.mono af.size⟩,af.t C⟩
end
structure mM {α:Type} (lt:α->α->Bool):Prop where
 irr:∀x,lt x x=false
 tr:∀x y z,lt x y=true->lt y z=true->lt x z=true
 neg:∀x y z,lt x z=true->lt x y=true\/lt y z=true
namespace mM
variable {α:Type} {lt:α->α->Bool}
def asym (h:mM lt) {x y:α} (d:lt x y=true):lt y x=false:=by
 cases e:lt y x with
 |false=>rfl
 |true=>have:=h.tr _ _ _ d e;rw[h.irr]at this;cases this
def Wk (lt:α->α->Bool) (l:ip α):Prop:=l.Pairwise λa b=>lt b a=false
def Xm (h:mM lt) {x y z:α} (h1:lt y x=false) (d:lt z y=false):lt z x=false:=by
 cases e:lt z x with
 |false=>rfl
 |true=>
  rcases h.neg _ y _ e with g|g
  .rw[d]at g;cases g
  .rw[h1]at g;cases g
theorem one (h:mM lt):∀(l l':ip α),l.Pairwise (λa b=>lt a b=true)->Wk lt l'->l'.Perm l->l'=l
 |[],_,_,_,d=>d.eq_nil
 |_::_,[],_,_,d=>by have:=d.length_eq;simp at this
 | x::l,y::l',h1,f,d=>by
  unfold Wk at f;rw[jA]at h1 f
  have n:y=x:=by
   rcases iu.1 (d.mem_iff.1 (j0))with e|t
   .exact e
   .rcases iu.1 (d.mem_iff.2 (j0))with e|m
    .exact e.symm
    .have h3:=h1.1 y t;have g:=f.1 x m;rw[h3]at g;cases g
  subst n;rw[one h l l' h1.2 f.2 (List.perm_cons y|>.1 d)]
theorem IE (h:mM lt):∀(l:ip α) (p:α),kX lt (some p) l=true↔(∀x∈l,lt p x=true)/\l.Pairwise λa b=>lt a b=true
 |[],p=>by simp[kX]
 | x::r,p=>by
  rw[kX,iU,IE h r x,jA];constructor
  .rintro⟨h1,d,h3⟩;refine⟨λy f=>?_,d,h3⟩;rcases iu.1 f with e|f
   .rw[e];exact h1
   .exact h.tr _ _ _ h1 (d y f)
  .rintro⟨h1,d,h3⟩;exact⟨h1 x (j0),d,h3⟩
def Gm (h:mM lt) (l:ip α):kX lt none l=true↔l.Pairwise λa b=>lt a b=true:=by
 cases l with
 |nil=>simp[kX]
 |cons x r=>rw[kX,h.IE,jA]
def A7 (lt:α->α->Bool) (l:ip α):ip α:=l.mergeSort λa b=>!lt b a
def Hu (lt:α->α->Bool) (l:ip α):(A7 lt l).Perm l:=List.mergeSort_perm l _
def XK (h:mM lt) (l:ip α):Wk lt (A7 lt l):=by
 have:=List.pairwise_mergeSort (le:=λa b=>!lt b a) (λa b c h1 d=>by
  simp only[Bool.not_eq_eq_eq_not,DP]at h1 d|-
  exact h.Xm h1 d) (λa b=>by
  cases e:lt b a with
  |false=>rfl
  |true=>rw[h.asym e];rfl) l
 exact this.imp λf=>by simpa using f
def any (h:mM lt) {l l':ip α} (g:l'.Perm l) (hw:Wk lt l'):kX lt none l'=kX lt none (A7 lt l)/\(kX lt none l'=true->l'=A7 lt l):=by
 have d:l'.Perm (A7 lt l):=g.trans (Hu lt l).symm;have key:∀{a b:ip α},a.Perm b->Wk lt a->kX lt none b=true->a=b:=λ{a b} h1 f h3=>h.one b a ((h.Gm b).1 h3) f h1
 have e:kX lt none l'=kX lt none (A7 lt l):=by
  rw[xJ];constructor
  .intro h1;rw[<-key d.symm (h.XK l) h1]at h1;exact h1
  .intro h1;rw[key d hw h1];exact h1
 exact⟨e,λh1=>key d hw (e▸h1)⟩
def ins (h:mM lt) {a b:ip α} {x:α} (hw:Wk lt (a++b)) (h1:∀y∈a.getLast?,lt x y=false) (v:∀y∈b,lt x y=true):Wk lt (a++[x]++b):=by
 unfold Wk at*;rw[ke]at hw;obtain⟨t,C,w⟩:=hw
 have B:∀y∈a,lt x y=false:=λy d=>by
  have n:a≠[]:=λe=>by rw[e]at d;cases d
  have u:=h1 (a.getLast n) (by rw[List.getLast?_eq_some_getLast n];rfl);have m:=t;rw[<-MH n]at d m;rw[ke]at m;rcases iS.1 d with g|g
  .exact h.Xm (m.2.2 y g _ (jS.2 fx)) u
  .rw[jS.1 g];exact u
 rw[kF,ke];refine⟨t,?_,?_⟩
 .rw[WX,jA];exact⟨λy d=>h.asym (v y d),C⟩
 .intro y d z f;rw[WX]at f;rcases iu.1 f with e|f
  .rw[e];exact B y d
  .exact w y d z f
end mM
def p7:mM ki:=⟨λx=>si _,λx y z=>oG _ _ _,λx y z h=>by
 unfold ki at*
 by_cases e:x.name=y.name
 .rw[<-e];exact .inr h
 .rcases ux _ _ e with g|g
  .exact .inl g
  .exact .inr (oG _ _ _ g h)⟩
def pQ (x y:Ac):acLt x y=true↔x.kind<y.kind\/x.kind=y.kind/\x.id<y.id:=by
 unfold acLt;simp only[uf,iU,decide_eq_true_eq]
theorem wm:mM acLt:=⟨λx=>by
  cases e:acLt x x with
  |false=>rfl
  |true=>rw[pQ]at e;omega,λx y z h1 d=>by rw[pQ]at*;omega,λx y z h=>by rw[pQ]at*;rw[pQ];omega⟩
def qq {α:Type} (ok:α->Bool) (lt:α->α->Bool) (d:Nat) (l:ip α):Int×ip α:=
 if l.all ok=false then(1,[])else if kX lt none (mM.A7 lt l)=false then(6,[])else if d<l.length then(13,[])else(0,mM.A7 lt l)
def mz (l:ip xB):Int×ip xB:=qq j4 ki 8 l
def j6 (l:ip Ac):Int×ip Ac:=
 if(qq lz acLt 16 l).1≠0 then qq lz acLt 16 l else if l.length≠0/\(l.any λa=>decide (a.kind=3))=false then(7,[])else qq lz acLt 16 l
section
variable {α:Type} {ok:α->Bool} {lt:α->α->Bool} {mx:Nat} {l:ip α}
def MI (h:l.all ok=false):qq ok lt mx l=(1,[]):=if_pos h
def L5 (h:l.all ok=true) {l':ip α} (f:mM lt) (g:l'.Perm l) (hw:mM.Wk lt l') (d:kX lt none l'=false):qq ok lt mx l=(6,[]):=by
 unfold qq;rw[if_neg (by rw[h];decide),if_pos (by rw[<-(f.any g hw).1];exact d)]
def G0 (h:l.all ok=true) {l':ip α} (m:mM lt) (d:l'.Perm l) (hw:mM.Wk lt l') (f:kX lt none l'=true) (g:mx<l'.length):qq ok lt mx l=(13,[]):=by
 unfold qq;rw[if_neg (by rw[h];decide),if_neg (by rw[<-(m.any d hw).1,f];decide),if_pos (by rw[<-d.length_eq];exact g)]
theorem EY (h:l.all ok=true) {l':ip α} (g:mM lt) (d:l'.Perm l) (hw:mM.Wk lt l') (f:kX lt none l'=true) (m:¬mx<l'.length):qq ok lt mx l=(0,l'):=by
 unfold qq;rw[if_neg (by rw[h];decide),if_neg (by rw[<-(g.any d hw).1,f];decide),if_neg (by rw[<-d.length_eq];exact m),<-(g.any d hw).2 f]
def FW (h:(qq ok lt mx l).1=0):(qq ok lt mx l).2.Perm l/\l.length<=mx:=by
 unfold qq at*;split at h
 .cases h
 .rename_i h1;split at h
  .cases h
  .rename_i d;split at h
   .cases h
   .rename_i h3;rw[if_neg h1,if_neg d,if_neg h3];exact⟨mM.Hu lt l,fy⟩
end
section
open Go.RowKit Go.Shelf Go.Lib Go.Sort
def II {α:Type} [Inhabited α] {d:α->ip i6} {z:Nat} (C:0<z) (f:∀x,(d x).length=z) (l:ip α):flatK d z l.toArray=(l.flatMap d).toArray:=by
 have w:=gn f l;apply ext_get!
 .rw[size_flatK,nK,nK,w]
 .intro t ht;rw[size_flatK,nK]at ht;rw[get_flatK _ _ _ _ (by rw[nK];exact ht)];have hi:t/z<l.length:=Nat.div_lt_of_lt_mul (by rwa[Qc]at ht);have y:t% z<z:=rE _ C;have B:l[t/z]? =some l[t/z]:=j9 hi;have v:(l.toArray)[t/z]! =l[t/z]:=by rw[getElem!_pos l.toArray (t/z) (by rw[nK];exact hi)];simp
  have g:t% z<(d l[t/z]).length:=by rw[f];exact y
  have m:=flat_get f B (j:=t% z) (u:=(d l[t/z])[t% z]) (j9 g);rw[show t/z*z+t% z=t by rw[Qc];exact Nat.div_add_mod t z]at m;rw[v,getElem!_pos (d l[t/z]) (t% z) g];obtain⟨h1,n⟩:=jR.1 m;rw[getElem!_pos ((l.flatMap d).toArray) t (by rw[nK];exact h1)];simp[n]
def KL {n:Nat} (F:Array i6) (cur:Array i6) (d:F.size=n) (f:n<=cur.size):(putCells id 0 F cur).toList.take n=F.toList:=by
 apply BK;intro k
 by_cases hk:k<n
 .rw[GH hk,Hr];unfold putCells;rw[Wn,wW fy,tT,if_pos ⟨iF _,fy⟩,Hr,wW fy,Mz,getElem!_pos F k fy];rfl
 .rw[x0 (by rw[kv];omega),x0 (by rw[py];omega)]
def Ai {α:Type} [Inhabited α] {ρ:Ren} (L:Go.Proofs.SlLaysF0.n6 prog ρ) {d:α->ip i6} {z:Nat} (N:0<z) (F:∀x,(d x).length=z) (h1:∀x,∀v∈d x,v.oneCell'=true) {e:i9} (O:∀w,(isAgg (ρ.t 24)).run prog w= .ok true w) (ap:∀w,(Go.sizeOf (ρ.t 24)).run prog w= .ok z w) (E:α->α->Int) (hO:SWO (ltOf E)) (g:FuncId) (S:∀args w,(callFunc g args).run prog w= .ok (.enter g args) w)
  (hc:∀(w:i5) (x y:α),Calls prog g #[.agg (d x).toArray,.agg (d y).toArray] w λe w'=>e= .returned (.I (E x y))/\∃q ao,w'=grow (w.drewN q) ao)
  (w:i5) (B:Nat) (v:i6) (l:ip α) (am:Ow d z w B e v l) (h0:l≠[]) (au:l.length<=1000000):
  fQ prog (ρ.f 6) #[v,.func (.func g) #[] #[]] w λ_ w'=>(∃l',l'.Perm l/\l'.Pairwise (λa b=>¬E b a<0)/\Ow d z w' B e v l')/\Fr (λb=>v.ownBlock=some b) w w':=by
 obtain⟨hlen,W⟩:=am;rcases W with⟨rfl,an⟩|⟨b,cap,cur,rfl,V,I,h3,T,U,J⟩
 .exact absurd (zT.1 an) h0
 have fY:b<w.heap.size:=fW.lt (t:=e) (cs:=cur) I;have ad:=II N F l;have H:=gn F l
 have Z:l.length*z<=cur.size:=by
  have:=congrArg List.length J;rw[kv,H,py]at this;exact ly (K2 this.symm) (Nat.min_le_right _ _)
 have hH:HoldsK d z w b 0 l.toArray:=by
  unfold HoldsK;rw[ad];intro j D;rw[nK,H]at D;refine⟨?_,?_⟩
  .have:=fW.cell (t:=e) (cs:=cur) I (0+j);rw[this,iM];have G:(cur.toList.take (l.length*z))[j]? =(l.flatMap d)[j]? :=by rw[J]
   rw[GH D,Hr]at G;rw[G,getElem!_pos ((l.flatMap d).toArray) j (by rw[nK,H];exact D),j9 (by rw[H];exact D)];simp
  .simp only[World.frozen?,I];simp
 have Y:CmpLays prog g #[] d z E b 0 l.toArray.size w:=λm os Q _ x y=>hc (sortWorldK d z w b 0 m Q os) x y
 have K:=AnyQ.slices_SortFunc L z O ap d F h1 E hO g #[] b 0 cap l.toArray w S Y hH fY (by rw[nK];omega);rw[nK]at K;refine pS K λe' w' ⟨he,u,n,os,aj,hs,hw⟩=>?_
 refine⟨.tuple #[],he,?_,?_⟩
 .obtain⟨al,_,M⟩:=aj;have C:u.size=l.length:=by rw[al,nK]
  have aa:flatK d z u=(u.toList.flatMap d).toArray:=by
   have:=II N F u.toList;simpa using this
  have ab:(u.toList.flatMap d).length=l.length*z:=by rw[gn F,py,C]
  refine⟨u.toList,?_,?_,?_⟩
  .have G:(u.extract 0 l.length).toList=u.toList:=by rw[<-C];simp
   have R:(l.toArray.extract 0 l.length).toList=l:=by simp
   rw[G,R]at M;exact M
  .rw[Hc];intro i j hi D af;have ae:i<u.size:=by simpa using hi
   have ag:j<u.size:=by simpa using D
   have:=hs i j (iF _) af fy;rw[getElem!_pos u j ag,getElem!_pos u i ae]at this;unfold ltOf at this;simp only[decide_eq_false_iff_not]at this;simpa only[WO]using this
  .have X:w'.heap[b]? =some (.cells (putCells id 0 (flatK d z u) cur) e (0,0)):=by
    rw[hw];unfold sortWorldK putRowK;rw[heap_grow_old _ _ (by simpa[putRow,mapBlock]using fY)];simp only[putRow,mapBlock,tP,if_true,heap_ahead,I,tT,onCells]
   have ak:(putCells id 0 (flatK d z u) cur).size=cur.size:=by simp[putCells]
   refine⟨?_,.inr ⟨b,cap,putCells id 0 (flatK d z u) cur,?_,V,X,?_,T,?_,?_⟩⟩
   .rw[ab];simp[C]
   .simp[C]
   .simpa[C]using h3
   .rw[ak];exact U
   .rw[py,C,KL _ _ (by rw[size_flatK,C]) Z,aa]
 .rw[hw];unfold sortWorldK putRowK;refine⟨rfl,rfl,rfl,by simp,λk hk ai=>?_⟩;have ah:k≠b:=λe=>ai (by rw[e];rfl)
  rw[heap_grow_old _ _ (by simpa[putRow,mapBlock]using hk)];simp only[putRow,mapBlock,tP,if_neg (uG ah),heap_ahead]
def grown_of {w w':i5} (t:Ext w w') (g:w.drawn<=w'.drawn):∃q d,w'=grow (w.drewN q) d:=by
 refine⟨w'.drawn-w.drawn,w'.heap.extract w.heap.size w'.heap.size,?_⟩;obtain⟨h1,f,h3,B,n⟩:=t
 have u:w'.heap=w.heap++w'.heap.extract w.heap.size w'.heap.size:=by
  apply Array.ext
  .rw[IN,Array.size_extract];omega
  .intro i v D
   by_cases h:i<w.heap.size
   .have:=n i h (λh=>h);rw[wW v,wW h]at this;rw[Array.getElem_append_left h];exact jb this
   .rw[Array.getElem_append_right fy,Array.getElem_extract]
    congr 1
    omega
 obtain⟨heap,tape,drawn,os,output⟩:=w;obtain⟨C,y,m,d,x⟩:=w';dsimp only at h1 f h3 u g;subst h1;subst f;subst h3;show _=(⟨heap++_,y,drawn+(m-drawn),d,x⟩:i5)
 rw[Nat.add_sub_cancel' g]
 congr 1
section
variable {hs:ip Nat} {H:i5->Prop} {full:Array li} {K:Env->i5->Prop} {ii:ip li} {Y:Env} {w:i5} {d:Tmp} {R:i9} {pos:String} {af:Array Edge}
def Ld {t:i9} {x:i7} {v:i6} (f:gh Y x=some v)
  (h:∀w',fW w' w.heap.size t v.cells->Ext w w'->w'.heap.size=w.heap.size+1->w'.drawn=w.drawn->xs prog fD fC hs H full K ii ((d,.P w.heap.size)::Y) w') (hH:∀w',Ext w w'->H w':=by intros;trivial):
  xs prog fD fC hs H full K (⟨some d,.box t x,R,pos,af,none⟩::ii) Y w:=by
 refine xw (by simp[gd,Op.operands,f]) fx (v:= .P w.heap.size) (w':=w.alloc (.cells v.cells t)) ?_ (h _ (fW.new _ _ _) (Fr.alloc _ _ _) iB fx) (hH _ (Fr.alloc _ _ _));simp[execOp,fR f,Instr.box,newVar,newRow]
end
def Rh (a b:fL):Int:=if Op.bytesLess a b then-1 else if Op.bytesLess b a then 1 else 0
def K1 (a b:fL):Rh a b<0↔Op.bytesLess a b=true:=by
 unfold Rh;split
 .rename_i h;exact⟨λ_=>h,λ_=>by decide⟩
 .rename_i h;split
  .exact⟨λh=>fy,λd=>absurd d h⟩
  .exact⟨λh=>fy,λd=>absurd d h⟩
def Zy (x y:xB):Int:=Rh x.name y.name
def aeQ {α:Type} (f:α->fL) (m:α->α->Int) (h:∀x y,m x y<0↔Op.bytesLess (f x) (f y)=true):SWO (ltOf m):=by
 have e:∀x y,ltOf m x y=Op.bytesLess (f x) (f y):=λx y=>by
  unfold ltOf;rw[xJ,decide_eq_true_eq];exact h x y
 refine⟨λx=>by rw[e];exact si _,λx y z h1 d=>?_,λx y z h1 d=>?_⟩
 .rw[e]at*;exact oG _ _ _ h1 d
 .rw[e]at*;cases h3:Op.bytesLess (f x) (f z)with
  |false=>rfl
  | true=>
   by_cases n:f x=f y
   .rw[n,d]at h3;cases h3
   .rcases ux _ _ n with g|g
    .rw[h1]at g;cases g
    .have:=oG _ _ _ g h3;rw[d]at this;cases this
def U8:SWO (ltOf Zy):=aeQ (λx:xB=>x.name) Zy λx y=>K1 x.name y.name
attribute [local irreducible] xs T
def xH (w:i5) (a:fL):fQ prog 288 #[.U a] w λr w'=>r= .bool false/\w=w':=by
 refine gD func288 fx fE ?_
 repeat' (first|refine gk (op:= .neq) (a:=a) (b:=a) (r:=false) fx fx (by simp[hG]) ?_|refine fT ?_|fail)
 exact y2
def N6 (w:i5) (a b:fL):fQ prog 239 #[.U a,.U b] w λr w'=>r= .I (Rh a b)/\w=w':=by
 refine gP func239 fx fE ?_;refine fA ?_;refine fH fx fx (xH w a) (λr g h1=>?_);obtain⟨rfl,rfl⟩:=h1;refine fA ?_;refine fH fx fx (xH w b) (λr g h1=>?_);obtain⟨rfl,rfl⟩:=h1;unfold Rh;cases h1:Op.bytesLess a b with
 |true=>
  rw[if_pos rfl]
  repeat' (first|refine gk (op:= .lss) (a:=a) (b:=b) (r:=true) fx fx (by simp[hG,h1]) ?_|refine fT ?_|fail)
  exact y2
 | false=>
  rw[if_neg fU];cases d:Op.bytesLess b a with
  |true=>
   have f:¬a=b:=λe=>by rw[e,si]at d;cases d
   rw[if_pos rfl]
   repeat' (first|refine gk (op:= .lss) (a:=a) (b:=b) (r:=false) fx fx (by simp[hG,h1]) ?_|refine gk (op:= .gtr) (a:=a) (b:=b) (r:=true) fx fx (by simp[hG,h1,f]) ?_|refine fT ?_|fail)
   exact y2
  | false=>
   have he:a=b:=by
    by_cases h:a=b
    .exact h
    .rcases ux a b h with h3|h3
     .rw[h1]at h3;cases h3
     .rw[d]at h3;cases h3
   rw[if_neg fU]
   repeat' (first|refine gk (op:= .lss) (a:=a) (b:=b) (r:=false) fx fx (by simp[hG,h1]) ?_|refine gk (op:= .gtr) (a:=a) (b:=b) (r:=false) fx fx (by simp[hG,he]) ?_|refine fT ?_|fail)
   exact y2
def H4 (w:i5) (x y:xB):fQ prog 238 #[.agg (jO x).toArray,.agg (jO y).toArray] w λr w'=>r= .I (Zy x y)/\Ext w w'/\w.drawn<=w'.drawn:=by
 refine gP func238 fx fE ?_;refine fA ?_;refine Ld fx (λu g n C v=>?_);refine fA ?_;refine Ld fx (λd m f D B=>?_);have k1:gc d w.heap.size 0 (.U x.name):=(fW.ext g f).cell 0;have k2:gc d u.heap.size 0 (.U y.name):=fW.cell m 0;refine fA ?_;refine fH fx fx (N6 d x.name y.name) (λr E h3=>?_);obtain⟨rfl,rfl⟩:=h3;refine fA ?_;exact fB fx fx ⟨rfl,n.t f,fy⟩
def Kf (w:i5) (B:Nat) (v:i6) (l:ip xB) (d:Ow jO 2 w B 68 v l) (h0:l≠[]) (m:l.length<=1000000):
  fQ prog 237 #[v,.func (.func 238) #[] #[]] w λ_ w'=>(∃l',l'.Perm l/\l'.Pairwise (λa b=>¬Zy b a<0)/\Ow jO 2 w' B 68 v l')/\Fr (λb=>v.ownBlock=some b) w w':=
 Ai V7 fU jX (λx v d=>by
  simp only[jO,iu,tf,or_false]at d
  rcases d with rfl|rfl<;>rfl) (λw=>Tryz.isAgg68 w) (λw=>Tryz.sizeOf68 w) Zy U8 238 (enters_of func238 fE rfl)
  (λw x y=>pS (H4 w x y) λe w' ⟨u,he,n,f,g⟩=>by
   subst n
   exact⟨he,grown_of f g⟩) w B v l d h0 m
end
section
open Go.RowKit Go.Shelf Go.Lib Go.Sort
section
variable {hs:ip Nat} {H:i5->Prop} {full:Array li} {K:Env->i5->Prop} {ii:ip li} {Y:Env} {w:i5} {d:Tmp} {R:i9} {pos:String} {af:Array Edge}
def ads {t e:i9} {z:i6} {bytes n:Nat} {parts:ip (Nat×i7)} {vs:ip i6} (m:x4 t e z 1 bytes) (D:evp Y 0 parts=some vs) (B:vs.length=n) (h0:0<n) (J:n<=16777216) (h1:∀u∈vs,u.oneCell'=true)
  (h:∀w',fW w' w.heap.size e vs.toArray->Ext w w'->w'.drawn=w.drawn->xs prog fD fC hs H full K ii ((d,.S w.heap.size 0 n n)::Y) w') (hH:∀w',Ext w w'->H w':=by intros;trivial):
  xs prog fD fC hs H full K (⟨some d,.buildSlice t n parts.toArray,R,pos,af,none⟩::ii) Y w:=by
 obtain⟨hu,i,hi,G,hs,I⟩:=m;obtain⟨he,C⟩:=yY D;refine xw (by simp only[gd,Op.operands];rw[ld];intro x f;simp at f;obtain⟨j,y⟩:=f;exact C _ y) fx (v:= .S w.heap.size 0 n n) (w':=w.alloc (.cells vs.toArray e)) ?_ (h _ (fW.new _ _ _) (Fr.alloc _ _ _) fx) (hH _ (Fr.alloc _ _ _))
 have E:=run_buildSlice (P:=prog) w t e n ((parts.map λp=>(p.1,ev Y p.2)).toArray) vs.toArray i z hu hi G (by rw[hs];omega) (by rw[hs];omega) (by
  rw[hs];show Instr.fill _ _ (parts.map λp=>(p.1,ev Y p.2))=_
  rw[he]
  exact Great.fill_flat _ _ (λv F=>by have:=h1 v F;cases v<;>first|rfl|cases this) (by simp[B]))
 have g:(parts.toArray.map λx=>match x with|(i,x)=>(i,ev Y x))=(parts.map λp=>(p.1,ev Y p.2)).toArray:=by simp
 simp only[execOp];rw[g];simp[E]
end
def QZ:SWO (ltOf x1):=by
 have e:∀x y,ltOf x1 x y=decide (x.kind<y.kind\/x.kind=y.kind/\x.id<y.id):=λx y=>by
  unfold ltOf;have:=vb x y;unfold acLt at this;simp only[uf,iU,decide_eq_true_eq]at this;rw[xJ,decide_eq_true_eq,decide_eq_true_eq];exact this.symm
 refine⟨λx=>?_,λx y z h1 d=>?_,λx y z h1 d=>?_⟩
 .rw[e];simp only[decide_eq_false_iff_not];omega
 .rw[e]at*;simp only[decide_eq_true_eq]at*;omega
 .rw[e]at*;simp only[decide_eq_false_iff_not]at*;omega
attribute [local irreducible] xs T
def Gv (w:i5) (a b:Ac):fQ prog 223 #[.agg (lA a).toArray,.agg (lA b).toArray] w λr w'=>r= .I (x1 a b)/\Ext w w'/\w.drawn<=w'.drawn:=by
 refine gP func223 fx fE ?_;refine fA ?_;refine Ld fx (λv E G N J=>?_);refine fA ?_;refine Ld fx (λf F D O K=>?_);have y:fW f w.heap.size 70 #[.I a.kind,.I a.id,.I a.perm]:=E.ext D;have B:fW f v.heap.size 70 #[.I b.kind,.I b.id,.I b.perm]:=F;have a0:gc f.drew w.heap.size 0 (.I a.kind):=y.cell 0;have g:gc f.drew w.heap.size 1 (.I a.id):=y.cell 1;have I:gc f.drew v.heap.size 0 (.I b.kind):=B.cell 0;have m:gc f.drew v.heap.size 1 (.I b.id):=B.cell 1;have M:f.drawn<=f.drew.drawn:=K9 _;refine fA ?_;refine lk [11,13] (λw'=>gc w' w.heap.size 1 (.I a.id)/\gc w' v.heap.size 1 (.I b.id)) fE (by decide+kernel) ⟨g,m⟩ ?_;refine fA ?_;refine fI fx fx (nT f.drew a.kind b.kind) ?_ ?_
 .rintro r n ⟨rfl,rfl⟩
  repeat' (first|refine pG fx fx (λw' h=>h.1) ?_|refine pG fx fx (λw' h=>h.2) ?_|refine fT ?_|fail)
  refine fI fx fx (nT f.drew a.id b.id) ?_ ?_
  .rintro r n ⟨rfl,rfl⟩;refine fA ?_
   refine ads (vs:=[.I (qt a.kind b.kind),.I (qt a.id b.id)]) sC fx fx fU fU (λu hu=>by
    simp only[iu,tf,or_false]at hu
    rcases hu with rfl|rfl<;>rfl) (λn C x L=>?_) (λw' h=>⟨h.cell g,h.cell m⟩)
   refine fA ?_;refine fI fx fx (Hz n _ 0 2 (qt a.kind b.kind) (qt a.id b.id) (C.cell 0) (C.cell 1)) ?_ ?_
   .rintro r H ⟨rfl,rfl⟩;refine fA ?_;exact fB fx fx ⟨rfl,G.t (D.d.t x),fy⟩
   .rintro r H ⟨_,rfl⟩;exact⟨x.cell g,x.cell m⟩
  .rintro r n ⟨_,rfl⟩;exact⟨g,m⟩
 .rintro r n ⟨_,rfl⟩;exact⟨g,m⟩
def JU (w:i5) (B:Nat) (v:i6) (l:ip Ac) (d:Ow lA 3 w B 70 v l) (h0:l≠[]) (m:l.length<=1000000):
  fQ prog 240 #[v,.func (.func 223) #[] #[]] w λ_ w'=>(∃l',l'.Perm l/\l'.Pairwise (λa b=>¬x1 b a<0)/\Ow lA 3 w' B 70 v l')/\Fr (λb=>v.ownBlock=some b) w w':=
 Ai aaT fU j7 (λx v d=>by
  simp only[lA,iu,tf,or_false]at d
  rcases d with rfl|rfl|rfl<;>rfl) (λw=>Tryz.isAgg70 w) (λw=>Tryz.sizeOf70 w) x1 QZ 223 (enters_of func223 fE rfl)
  (λw x y=>pS (Gv w x y) λe w' ⟨u,he,n,f,g⟩=>by
   subst n
   exact⟨he,grown_of f g⟩) w B v l d h0 m
end
section
open Go.RowKit Go.Shelf Go.Lib Go.Sort
def Dt (w:i5):fQ prog 228 #[.int .u64 0] w λr w'=>r= .I 0/\w=w':=by
 have h:=Any.bits_Len (SlLaysF0.n15.bits (P:=prog) {V7 with}) (0:Int) w fy fy;refine pS h λe w' ⟨he,hw⟩=>⟨_,he,?_,hw.symm⟩
 rfl
attribute [local irreducible] xs T
def KO (w:i5) (g:i6):fQ prog 322 #[.slice none 0 0,.I 0,.I 0,g] w λ_ w'=>Ext w w':=by
 refine xA func322 fx fE ?_;exact y24
def KC (w:i5) (g:i6):fQ prog 287 #[.slice none 0 0,.I 0,.I 0,.I 0,g] w λ_ w'=>Ext w w':=by
 refine Ao func287 fx fE ?_;refine fA ?_;refine gC (α:=Unit) (λ_=>[(0,.slice none 0 0),(1,.I 0),(2,.I 0),(4,g)]) (λ_ w'=>w=w') (λ_=>0) () (sub ⟨rfl,rfl,rfl,rfl⟩) fx ?_;rintro _ w' rfl;refine fA ?_;refine fH fx fx (KO w g) (λr d h1=>?_);refine fA ?_;exact Gw fx h1
def Ie (w:i5) (g:i6):fQ prog 237 #[.slice none 0 0,g] w λ_ w'=>Ext w w':=by
 refine gP func237 fx fE ?_;refine kC ?_;refine fH fx fx (Dt w) (λr d h1=>?_);obtain⟨rfl,rfl⟩:=h1;refine fA ?_;refine fH fx fx (KC w g) (λr d h1=>?_);refine fA ?_;exact mr fx h1
def JB (w:i5) (g:i6):fQ prog 330 #[.slice none 0 0,.I 0,.I 0,g] w λ_ w'=>Ext w w':=by
 refine xA func330 fx fE ?_;exact y24
def JW (w:i5) (g:i6):fQ prog 289 #[.slice none 0 0,.I 0,.I 0,.I 0,g] w λ_ w'=>Ext w w':=by
 refine Ao func289 fx fE ?_;refine fA ?_;refine gC (α:=Unit) (λ_=>[(0,.slice none 0 0),(1,.I 0),(2,.I 0),(4,g)]) (λ_ w'=>w=w') (λ_=>0) () (sub ⟨rfl,rfl,rfl,rfl⟩) fx ?_;rintro _ w' rfl;refine fA ?_;refine fH fx fx (JB w g) (λr d h1=>?_);refine fA ?_;exact Gw fx h1
def GO (w:i5) (g:i6):fQ prog 240 #[.slice none 0 0,g] w λ_ w'=>Ext w w':=by
 refine gP func240 fx fE ?_;refine kC ?_;refine fH fx fx (Dt w) (λr d h1=>?_);obtain⟨rfl,rfl⟩:=h1;refine fA ?_;refine fH fx fx (JW w g) (λr d h1=>?_);refine fA ?_;exact mr fx h1
end
section
section
variable {hs:ip Nat} {H:i5->Prop} {full:Array li} {K:Env->i5->Prop} {ii:ip li} {Y:Env} {w:i5} {d:Tmp} {R:i9} {pos:String} {af:Array Edge}
def EqS (t:i9) (cs ds:ip i6) (b:Bool):Prop:=prog.eqGuardType prog.depth t=false/\∀w',(Op.equalIn 10000 t (.agg cs.toArray) (.agg ds.toArray)).run prog w'= .ok b w'
def LB {t g:i9} {x y:i7} {cs ds:ip i6} {b:Bool} (m:gh Y x=some (.agg cs.toArray)) (n:gh Y y=some (.agg ds.toArray)) (he:EqS t cs ds b)
  (h:xs prog fD fC hs H full K ii ((d,.bool (!b))::Y) w):xs prog fD fC hs H full K (⟨some d,.binOp .neq t x y g,R,pos,af,none⟩::ii) Y w:=by
 refine gW fx (by grind [gd,Op.operands]) ⟨.bool !b,λw'=>?_,h⟩;have h1:=run_eqGuard_agg (P:=prog) w' .neq t x y cs.toArray ds.toArray he.1;have f:=run_neq_struct (P:=prog) w' t cs.toArray ds.toArray;rw[he.2 w']at f
 simp_all [execOp,fR]
end
def me {P:Program} {w:i5} {d:Nat} {cs ds:Array i6} {f:Field} {fs:ip Field} {a b:i6} {r:Bool} (t:f.name≠ "_") (g:P.plainKey f.type=true) (m:cs[f.offset]? =some a) (n:ds[f.offset]? =some b) (he:(Op.equalIn d f.type a b).run P w= .ok r w):
  (Op.eqFields d cs ds (f::fs)).run P w=if r then(Op.eqFields d cs ds fs).run P w else .ok false w:=by
 rw[Op.eqFields,if_pos t];simp only[tg,run_part_plain w g m,run_part_plain w g n,tp,he];cases r<;>simp
def aby (a b:Ac):EqS 70 (lA a) (lA b) (decide (a=b)):=by
 refine⟨by kernel_rfl,λw'=>?_⟩
 have d:prog.fieldsOf 70=(match prog.underlying 70 with
  |some (.struct fs)=>fs
  |_=> #[]):=rfl
 rw[underlying70]at d;have hu:prog.underlying 70=some (.struct (prog.fieldsOf 70)):=by rw[d];exact underlying70
 rw[run_equalIn_agg w' 9999 _ _ _ hu fE,d];rw[me (r:=a.kind==b.kind) fU fE rfl rfl (run_equalIn_int w' 9998 _ _ _ _ _ underlying3),me (r:=a.id==b.id) fU fE rfl rfl (run_equalIn_int w' 9998 _ _ _ _ _ underlying3),me (r:=a.perm==b.perm) fU fE rfl rfl (run_equalIn_int w' 9998 _ _ _ _ _ underlying3)];obtain⟨x,y,z⟩:=a;obtain⟨x',g,m⟩:=b
 by_cases h0:x=x'<;>by_cases h1:y=g<;>by_cases f:z=m<;>simp[h0,h1,f,Op.eqFields]
def XX (a b:xB):EqS 68 (jO a) (jO b) (decide (a=b)):=by
 refine⟨by kernel_rfl,λw'=>?_⟩
 have d:prog.fieldsOf 68=(match prog.underlying 68 with
  |some (.struct fs)=>fs
  |_=> #[]):=rfl
 rw[underlying68]at d;have hu:prog.underlying 68=some (.struct (prog.fieldsOf 68)):=by rw[d];exact underlying68
 have f:prog.plainKey 9=true:=by kernel_rfl
 rw[run_equalIn_agg w' 9999 _ _ _ hu fE,d];rw[me (r:=(su a.name).toList==(su b.name).toList) fU f rfl rfl (run_equalIn_string w' 9998 _ _ _ underlying9),me (r:=(su a.value).toList==(su b.value).toList) fU f rfl rfl (run_equalIn_string w' 9998 _ _ _ underlying9)];obtain⟨x,y⟩:=a;obtain⟨x',g⟩:=b;simp only[jt]
 by_cases h0:x=x'<;>by_cases h1:y=g<;>simp[h0,h1,Op.eqFields]
def aaH (a b:hT):EqS 39 (kc a) (kc b) (decide (a=b)):=by
 refine⟨by kernel_rfl,λw'=>?_⟩
 have d:prog.fieldsOf 39=(match prog.underlying 39 with
  |some (.struct fs)=>fs
  |_=> #[]):=rfl
 rw[underlying39]at d;have hu:prog.underlying 39=some (.struct (prog.fieldsOf 39)):=by rw[d];exact underlying39
 have f:prog.plainKey 9=true:=by kernel_rfl
 rw[run_equalIn_agg w' 9999 _ _ _ hu fE,d];rw[me (r:=a.pos==b.pos) fU fE rfl rfl (run_equalIn_int w' 9998 _ _ _ _ _ underlying2),me (r:=(su a.data).toList==(su b.data).toList) fU f rfl rfl (run_equalIn_string w' 9998 _ _ _ underlying9)];obtain⟨x,y⟩:=a;obtain⟨x',g⟩:=b;simp only[jt]
 by_cases h0:x=x'<;>by_cases h1:y=g<;>simp[h0,h1,Op.eqFields]
def aac (a b:En):EqS 49 (hR a) (hR b) (decide (a=b)):=by
 refine⟨by kernel_rfl,λw'=>?_⟩
 have d:prog.fieldsOf 49=(match prog.underlying 49 with
  |some (.struct fs)=>fs
  |_=> #[]):=rfl
 rw[underlying49]at d;have hu:prog.underlying 49=some (.struct (prog.fieldsOf 49)):=by rw[d];exact underlying49
 have f:prog.plainKey 9=true:=by kernel_rfl
 rw[run_equalIn_agg w' 9999 _ _ _ hu fE,d];rw[me (r:=(su a.path).toList==(su b.path).toList) fU f rfl rfl (run_equalIn_string w' 9998 _ _ _ underlying9),me (r:=a.node==b.node) fU fE rfl rfl (run_equalIn_int w' 9998 _ _ _ _ _ underlying3)];obtain⟨x,y⟩:=a;obtain⟨x',g⟩:=b;simp only[jt]
 by_cases h0:x=x'<;>by_cases h1:y=g<;>simp[h0,h1,Op.eqFields]
attribute [local irreducible] xs T
def OV (w:i5) (v m:i6) (l l':ip Ac) (I:Rw lA w v l) (J:Rw lA w m l'):fQ prog 218 #[v,m] w λr w'=>r= .bool (decide (l=l'))/\Ext w w':=by
 refine gP func218 fx fE ?_;obtain⟨A,c,rfl,M,O,C⟩:=I.op j7;obtain⟨t,B,rfl,N,Q,D⟩:=J.op j7
 by_cases hlen:l.length=l'.length
 .refine fA ?_;refine gC (α:=Nat) (λi=>[(0,.slice A l.length c),(1,.slice t l'.length B),(5,.I (i:Int))]) (λi w'=>Ext w w'/\i<=l.length/\decide (l.drop i=l'.drop i)=decide (l=l')) (λi=>l.length-i) 0 (sub ⟨rfl,rfl,rfl⟩) ⟨Fr.refl _ _,iF _,rfl⟩ ?_;rintro i n ⟨g,hi,f⟩
  by_cases fY:i<l.length
  .obtain⟨b,o,x,rfl,_,R,G,E⟩:=C.at_ fY;obtain⟨b',o',y,rfl,_,S,H,F⟩:=D.at_ (i:=i) fy;rw[G,H]at f;have K:∀j u,(lA x)[j]? =some u->gc n.drew b (o+i*3+j) u:=λj u hu=>g.cell (E j u hu)
   have L:∀j u,(lA y)[j]? =some u->gc n.drew b' (o'+i*3+j) u:=λj u hu=>g.cell (F j u hu)
   refine GR ?_;refine hV (cs:=lA x) fx fx K ?_
   repeat' (first|refine gH i (o'+i*3) fx fx fx fx fx fy ?_|refine fT ?_|fail)
   refine hV (cs:=lA y) fx fx L ?_;refine LB fx fx (aby x y) ?_
   by_cases e:x=y
   .exact y5
   .exact y19
  .exact y20
 .exact y27
def KQ (w:i5) (v m:i6) (l l':ip xB) (I:Rw jO w v l) (J:Rw jO w m l'):fQ prog 217 #[v,m] w λr w'=>r= .bool (decide (l=l'))/\Ext w w':=by
 refine gP func217 fx fE ?_;obtain⟨A,c,rfl,M,O,C⟩:=I.op jX;obtain⟨t,B,rfl,N,Q,D⟩:=J.op jX
 by_cases hlen:l.length=l'.length
 .refine fA ?_;refine gC (α:=Nat) (λi=>[(0,.slice A l.length c),(1,.slice t l'.length B),(5,.I (i:Int))]) (λi w'=>Ext w w'/\i<=l.length/\decide (l.drop i=l'.drop i)=decide (l=l')) (λi=>l.length-i) 0 (sub ⟨rfl,rfl,rfl⟩) ⟨Fr.refl _ _,iF _,rfl⟩ ?_;rintro i n ⟨g,hi,f⟩
  by_cases fY:i<l.length
  .obtain⟨b,o,x,rfl,_,R,G,E⟩:=C.at_ fY;obtain⟨b',o',y,rfl,_,S,H,F⟩:=D.at_ (i:=i) fy;rw[G,H]at f;have K:∀j u,(jO x)[j]? =some u->gc n.drew b (o+i*2+j) u:=λj u hu=>g.cell (E j u hu)
   have L:∀j u,(jO y)[j]? =some u->gc n.drew b' (o'+i*2+j) u:=λj u hu=>g.cell (F j u hu)
   refine zD ?_;refine hV (cs:=jO x) fx fx K ?_
   repeat' (first|refine gH i (o'+i*2) fx fx fx fx fx fy ?_|refine fT ?_|fail)
   refine hV (cs:=jO y) fx fx L ?_;refine LB fx fx (XX x y) ?_
   by_cases e:x=y
   .exact y5
   .exact y19
  .exact y20
 .exact y27
def NG (w:i5) (v m:i6) (l l':ip hT) (I:Rw kc w v l) (J:Rw kc w m l'):fQ prog 149 #[v,m] w λr w'=>r= .bool (decide (l=l'))/\Ext w w':=by
 refine gP func149 fx fE ?_;obtain⟨A,c,rfl,M,O,C⟩:=I.op hB;obtain⟨t,B,rfl,N,Q,D⟩:=J.op hB
 by_cases hlen:l.length=l'.length
 .refine fA ?_;refine gC (α:=Nat) (λi=>[(0,.slice A l.length c),(1,.slice t l'.length B),(5,.I (i:Int))]) (λi w'=>Ext w w'/\i<=l.length/\decide (l.drop i=l'.drop i)=decide (l=l')) (λi=>l.length-i) 0 (sub ⟨rfl,rfl,rfl⟩) ⟨Fr.refl _ _,iF _,rfl⟩ ?_;rintro i n ⟨g,hi,f⟩
  by_cases fY:i<l.length
  .obtain⟨b,o,x,rfl,_,R,G,E⟩:=C.at_ fY;obtain⟨b',o',y,rfl,_,S,H,F⟩:=D.at_ (i:=i) fy;rw[G,H]at f;have K:∀j u,(kc x)[j]? =some u->gc n.drew b (o+i*2+j) u:=λj u hu=>g.cell (E j u hu)
   have L:∀j u,(kc y)[j]? =some u->gc n.drew b' (o'+i*2+j) u:=λj u hu=>g.cell (F j u hu)
   refine zD ?_;refine hV (cs:=kc x) fx fx K ?_
   repeat' (first|refine gH i (o'+i*2) fx fx fx fx fx fy ?_|refine fT ?_|fail)
   refine hV (cs:=kc y) fx fx L ?_;refine LB fx fx (aaH x y) ?_
   by_cases e:x=y
   .exact y5
   .exact y19
  .exact y20
 .exact y27
