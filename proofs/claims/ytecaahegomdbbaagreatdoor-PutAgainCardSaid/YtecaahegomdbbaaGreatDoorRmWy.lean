/- Parts of the proof. -/
import Derived.Test.YtecaahegomdbbaaGreatDoorRmWp
import Derived.Test.YtecaahegomdbbaaGreatDoorRmWt
import Derived.Test.YtecaahegomdbbaaGreatDoorRmYa
set_option linter.all false
set_option maxRecDepth 99999
set_option maxHeartbeats 0
namespace Go.Proofs.YtecaahegomdbbaaGreatDoor.gr
open Go.Proofs.Tryz
open Go.RowKit
variable {x:i7} {t:i9}
section
variable {hs:ip Nat} {H:i5->Prop} {full:Array li} {K:Env->i5->Prop} {ii:ip li} {Y:Env} {w:i5} {d:Tmp} {R:i9} {pos:String} {af:Array Edge}
def afA {α:Type} {f:α->ip i6} {z:Nat} (_:∀x,(f x).length=z) {hi:i7} {N:kw} {v:i6} {l:ip α} {m:Int} (h:Nat) (I:es t=some z) (E:Rw f w v l) (M:gh Y x=some v) (J:gh Y hi=some (.int N m)) (y:m=h) (O:h<=l.length)
  (hc:∀A c,Rw f w (.slice A h c) (l.take h)->xs prog fD fC hs H full K ii ((d,.slice A h c)::Y) w):
  xs prog fD fC hs H full K (⟨some d,.slice t x none (some hi) none,R,pos,af,none⟩::ii) Y w:=by
 subst y;obtain⟨A,c,rfl,h3,B,C⟩:=E;refine Yt I M J fy fy (λg D=>?_);rw[je];have L:(l.take h).length=h:=by rw[kv];omega
 refine hc g c ?_;unfold Rw;rw[L];refine⟨g,c,rfl,fy,B,λh0=>?_⟩;obtain⟨b,o,rfl,F,G⟩:=C fy;refine⟨b,o,D b o fx fy,F,λj u hu=>G j u ?_⟩;have n:l.flatMap f=(l.take h).flatMap f++(l.drop h).flatMap f:=by rw[<-ue,mJ]
 rw[n,rk (jR.1 hu).1];exact hu
def adn {α:Type} {f:α->ip i6} {z:Nat} (M:∀x,(f x).length=z) {lo:i7} {N:kw} {v:i6} {l:ip α} {jl:Int} (h:Nat) (G:es t=some z) (D:Rw f w v l) (L:gh Y x=some v) (J:gh Y lo=some (.int N jl)) (el:jl=h) (y:h<=l.length)
  (hc:∀A c,Rw f w (.slice A (l.length-h) c) (l.drop h)->xs prog fD fC hs H full K ii ((d,.slice A (l.length-h) c)::Y) w):
  xs prog fD fC hs H full K (⟨some d,.slice t x (some lo) none none,R,pos,af,none⟩::ii) Y w:=by
 subst el;obtain⟨A,c,rfl,h3,O,B⟩:=D;refine PJ G L J fy fy fy (λg C=>?_);rw[je];have I:(l.drop h).length=l.length-h:=lY ..;refine hc g _ ?_;unfold Rw;rw[I];refine⟨g,_,rfl,fy,by omega,λh0=>?_⟩;obtain⟨b,o,rfl,E,F⟩:=B fy;refine⟨b,o+h*z,?_,E,λj u hu=>?_⟩
 .have:=C b o rfl fy;rwa[je]at this
 have m:l.flatMap f=(l.take h).flatMap f++(l.drop h).flatMap f:=by rw[<-ue,mJ]
 have n:((l.take h).flatMap f).length=h*z:=by rw[gn M,kv,tD y]
 have:=F (h*z+j) u (by rw[m,tk fy,n,Ia];exact hu);rwa[<-GC]at this
def TZ {op:BinOp} {v:i9} {y:i7} {k:kw} {a b:Int} {p:Prop} (r:Bool) (m:gh Y x=some (.int k a)) (n:gh Y y=some (.int k b)) (g:OA op a b=some p) (f:r=true↔p)
  (h:xs prog fD fC hs H full K ii ((d,.bool r)::Y) w):xs prog fD fC hs H full K (⟨some d,.binOp op t x y v,R,pos,af,none⟩::ii) Y w:=by
 cases r with
 |true=>exact SL m n g (f.1 rfl) h
 |false=>exact SM m n g (λu=>by have:=f.2 u;cases this) h
end
def nF (l:ip En) (i:Nat):ip En:=(l.take i).foldl (λa e=>yl e a) []
def C4 (l:ip En) (i:Nat):(nF l i).Perm (l.take i):=by have:=(uQ (l.take i) [] List.Pairwise.nil).2;rwa[mR]at this
def IS {l:ip En} {i:Nat} (h:i<=l.length):(nF l i).length=i:=by rw[(C4 l i).length_eq,kv];omega
def NR {l:ip En} {i:Nat} {e:En} (he:l[i]? =some e):nF l (i+1)=yl e (nF l i):=by
 unfold nF;rw[j2,he];simp[ID]
def Iw (seen:ip Int) (n:Nat):ip Int:=(List.range n).map λ(k:Nat)=>if(k:Int)∈seen then((seen.idxOf (k:Int)+1:Nat):Int)else 0
def Vj (n:Nat):Iw [] n=List.replicate n 0:=by
 apply xM
 .simp[Iw]
 .intro i h1 d;simp[Iw]
def yL {seen:ip Int} {n k:Nat} (h:k<n):(Iw seen n)[k]? =some (if(k:Int)∈seen then((seen.idxOf (k:Int)+1:Nat):Int)else 0):=by
 unfold Iw;rw[qX,LG h];rfl
def yw (seen:ip Int) (n:Nat):(Iw seen n).length=n:=by simp[Iw]
def Vo {seen:ip Int} {n k:Nat} (hk:(k:Int)∉seen):(Iw seen n).set k ((seen.length+1:Nat):Int)=Iw (seen++[(k:Int)]) n:=by
 apply BK;intro j;rw[LK,yw]
 by_cases d:j<n
 .rw[yL d,yL d]
  by_cases h:k=j
  .subst h;rw[if_pos rfl,if_pos d,if_pos iB,Q5,if_neg hk];simp
  .rw[if_neg h];have m:¬(j:Int)=(k:Int):=fy
   by_cases hm:(j:Int)∈seen
   .rw[if_pos hm,if_pos (wB _ hm),Q5,if_pos hm]
   .rw[if_neg hm,if_neg (by simp[hm,m])]
 .have f:(Iw seen n)[j]? =none:=x0 (by rw[yw];omega);have g:(Iw (seen++[(k:Int)]) n)[j]? =none:=x0 (by rw[yw];omega);rw[f,g]
  by_cases h:k=j
  .rw[if_pos h,if_neg fy]
  .rw[if_neg h]
structure RaI (t:fZ) (w0:World) (x:Nat×Value) (w:World):Prop where
 i:x.1<=t.es.length
 ok:∀e∈t.es.take x.1,gX e.path=true/\yj t.ns.length e=true
 rw:Rw hR w x.2 (nF t.es x.1)
 ext:Ext w0 w
structure RnS where
 i:Nat
 seen:List Int
 ve:Value
 vn:Value
 nv:List gG
 es:List En
structure RnI (t:fZ) (S:List En) (gu ga B:Nat) (J9:List gG) (w0:World) (x:RnS) (w:World):Prop where
 ext:Ext w0 w
 le:x.i<=S.length
 xP:fW w gu 26 #[x.ve,x.vn]
 at_:fW w ga 3 ((Iw x.seen t.ns.length).map (Value.int .i64)).toArray
 go:(x.es++(iJ x.seen (S.drop x.i)).1,(iJ x.seen (S.drop x.i)).2)=iJ [] S
 oe:Ow hR 2 w B 49 x.ve x.es
 on:Ow gB 12 w B 37 x.vn x.nv
 nd:x.nv.map (·.n)=x.seen.map λk=>t.ns.getD k.toNat default
 ndi:∀y∈x.nv,y∈J9/\y.n∈t.ns
 sl:x.seen.length<=x.i
 el:x.es.length=x.i
 sz:B<=w.heap.size
structure RnJ (t:fZ) (k:Int) (i:Nat) (seen:List Int) (es:List En) (we:Value) (gu ga B:Nat) (J9:List gG) (w0:World) (y:List Int×Value×List gG) (w:World):Prop where
 m:k∈y.1
 wh:y.1=seen/\k∈seen\/y.1=seen++[k]/\k∉seen
 ext:Ext w0 w
 xP:fW w gu 26 #[we,y.2.1]
 at_:fW w ga 3 ((Iw y.1 t.ns.length).map (Value.int .i64)).toArray
 oe:Ow hR 2 w B 49 we es
 on:Ow gB 12 w B 37 y.2.1 y.2.2
 nd:y.2.2.map (·.n)=y.1.map λk=>t.ns.getD k.toNat default
 ndi:∀z∈y.2.2,z∈J9/\z.n∈t.ns
 sl:y.1.length<=i+1
 sz:B<=w.heap.size
def RA (fO:ip gG) (t:fZ) (w:i5) (r:i6) (w':i5):Prop:=Ext w w'/\match hQ t with
 |none=>r= .tuple #[.agg #[.slice none 0 0,.slice none 0 0],.I 1]
 |some t'=>∃ve vn d,r= .tuple #[.agg #[ve,vn],.I 0]/\mE w' ve vn d t'/\Ow hR 2 w' w.heap.size 49 ve t'.es/\Ow gB 12 w' w.heap.size 37 vn d/\∀y∈d,y∈fO
def DU {fO:ip gG} {t:fZ} (h:hQ t=none) {w w':i5} (d:Ext w w'):RA fO t w (.tuple #[.agg #[.slice none 0 0,.slice none 0 0],.I 1]) w':=⟨d,by rw[h]⟩
def GI (w:i5) (ve vn:i6) (fO:ip gG) (t:fZ) (aU:mE w ve vn fO t) (aB:H8 t) (di:t.es.length<=1000000) (dm:t.ns.length<=1000000):fQ prog 28 #[.agg #[ve,vn]] w (RA fO t w):=by
 refine gD func28 fx fE ?_;have aF:=aU;obtain⟨A,c,rfl,db,dc,b8⟩:=aU.e.op gi;obtain⟨ad,Y,rfl,cD,dd,b9⟩:=aU.n.op gw;have hlen:=aU.len;rw[hlen]at cD;have aa:∀{a b c:i5} {g:Nat},Ext a b->Fr (· =g) b c->a.heap.size<=g->Ext a c:=λh1 aI dj=>h1.trans aI λj ar e=>absurd ar fy
 refine fA ?_;refine hP fx (λQ ca a3 dn=>?_);have bq:fW Q w.heap.size 26 #[.slice A t.es.length c,.slice ad fO.length Y]:=ca;have k0:gc Q w.heap.size 0 (.slice A t.es.length c):=bq.cell 0;have k1:Q.cell? ⟨w.heap.size,1,none⟩=some (.slice ad t.ns.length Y):=by rw[<-hlen];exact bq.cell 1
 refine fA ?_;refine gx (z:= .agg #[.slice none 0 0,.slice none 0 0]) fE (λax cb a4 dr=>?_);have br:fW ax Q.heap.size 26 #[.slice none 0 0,.slice none 0 0]:=cb;have cd:Ext w ax:=a3.t a4;have m0:gc ax w.heap.size 0 (.slice A t.es.length c):=a4.cell k0;have m1:gc ax w.heap.size 1 (.slice ad t.ns.length Y):=a4.cell k1;refine fA ?_;refine gC (α:=Nat×i6) (λx=>[(1,.P w.heap.size),(2,.P Q.heap.size),(4,x.2),(5,.I (x.1:Int))]) (RaI t ax) (λx=>t.es.length-x.1) (0,.slice none 0 0) (sub ⟨rfl,rfl,rfl,rfl⟩) ⟨iF _,λe he=>by simp at he,Rw.nil _ _ (by unfold maxLen;omega),Fr.refl _ _⟩ ?_;rintro⟨i,v⟩ f ⟨hi,aE,bi,Z⟩;dsimp only at hi aE bi Z|-;have aL:Ext w f:=cd.t Z;have du:gc f w.heap.size 0 (.slice A t.es.length c):=Z.cell m0;have n1:gc f w.heap.size 1 (.slice ad t.ns.length Y):=Z.cell m1;have aV:=bi;obtain⟨aY,cL,rfl,_,_,aJ⟩:=bi.op gi;rw[IS hi]
 by_cases fY:i<t.es.length
 .obtain⟨b,o,e,rfl,_,he,_,aS⟩:=b8.at_ fY;have aq:=jT he;have bP:=aB.p e aq;have cF:∀j u,(hR e)[j]? =some u->gc f b (o+i*2+j) u:=λj u hu=>aL.cell (aS j u hu)
  refine zD ?_;refine hV (cs:=hR e) fx fx cF ?_;refine gx (z:= .agg #[.string ⟨#[]⟩,.I 0]) fE (λH aZ am cN=>?_);refine gY (cs:=(hR e).toArray) aZ fx fx fx fx (yy e) (λF al cm=>?_);have ag:Ext f F:=aa am cm fy;have cf:Ext w F:=aL.t ag;have q0:gc F f.heap.size 0 (.U e.path):=al.cell 0;have q1:gc F f.heap.size 1 (.I e.node):=al.cell 1;refine fA ?_;refine fH fx fx (lU F e.path bP) (λr C b5=>?_);obtain⟨rfl,J⟩:=b5;have az:Ext w C:=cf.t J;have bt:Ext ax C:=Z.t (ag.t J);have r1:gc C f.heap.size 1 (.I e.node):=J.cell q1;have o1:gc C w.heap.size 1 (.slice ad t.ns.length Y):=bt.cell m1;have a0:fW C Q.heap.size 26 #[.slice none 0 0,.slice none 0 0]:=br.ext bt;have bad:hQ t=none->∀m,Fr (· =Q.heap.size) C m->RA fO t w (.tuple #[.agg #[.slice none 0 0,.slice none 0 0],.I 1]) m:=λh m cj=>DU h (aa az cj (by have:=a3.size;omega))
  cases hm:gX e.path with
  |false=>
   refine fA ?_;refine oQ (parts:=[]) (cells:= #[.slice none 0 0,.slice none 0 0]) fx fE ?_;refine fA ?_;refine gY a0 fx fx fE fx (fJ (l:=[.slice none 0 0,.slice none 0 0]) fx) (λm af aA=>?_);refine fA ?_;exact hL fx fx fx af fE (bad (N1 aq hm) m aA)
  |true=>
  by_cases bY:e.node<0
  .have aC:hQ t=none:=Mt aq (by unfold yj;rw[decide_eq_false fy];rfl);exact y13
  by_cases c0:(t.ns.length:Int)<=e.node
  .have aC:hQ t=none:=Mt aq (by unfold yj;rw[decide_eq_false (p:=e.node<(t.ns.length:Int)) fy,tl]);exact y13
  have bc:yj t.ns.length e=true:=by unfold yj;rw[decide_eq_true fy,decide_eq_true fy];rfl
  have bu:Ext f C:=ag.t J;have X:=IS (l:=t.es) (i:=i) hi;refine gz2 ?_;refine p5 (α:=Nat) (λk=>[(1,.P w.heap.size),(2,.P Q.heap.size),(4,.slice aY i cL),(5,.I (i:Int)),(6,.P f.heap.size),(7,.I (k:Int))]) (λk w'=>Ext C w'/\k=qY e (nF t.es i) i) ?_ ?_
  .refine fA ?_;refine gC (α:=Nat) (λk=>[(1,.P w.heap.size),(2,.P Q.heap.size),(4,.slice aY i cL),(5,.I (i:Int)),(6,.P f.heap.size),(7,.I (k:Int))]) (λk w'=>Ext C w'/\k<=i/\qY e (nF t.es i) k=qY e (nF t.es i) i) (λk=>k) i (sub ⟨rfl,rfl,rfl,rfl,rfl,rfl⟩) ⟨Fr.refl _ _,gJ _,rfl⟩ ?_;rintro k m ⟨D,hk,K⟩
   by_cases dl:0<k
   .obtain⟨k,rfl⟩:=Nat.exists_eq_succ_of_ne_zero (show k≠0 by omega);obtain⟨b2,o4,y,e4,_,G,_,bb⟩:=aJ.at_ (i:=k) (by rw[X];omega);subst e4;have cW:(nF t.es i).getD k default=y:=by rw[kW,G];rfl
    have cY:y∈t.es:=DC ((C4 t.es i).mem_iff.1 (jT G));have cX:=aB.p y cY;rw[qY,cW]at K;have s0:gc m.drew f.heap.size 0 (.U e.path):=(J.t D).ed.cell q0;have s1:gc m.drew b2 (o4+k*2+0) (.U y.path):=(bu.t D).ed.cell (bb 0 _ rfl)
    repeat' (first|refine gH k (o4+k*2) fx fx fx fy fx fy ?_|refine fT ?_|fail)
    refine fH fx fx (z8 m.drew e.path y.path bP cX) (λr L b7=>?_);obtain⟨rfl,ao⟩:=b7;have a6:Ext C L:=D.d.t ao;cases bI:ix e.path y.path with
    |true=>
     rw[bI,if_pos rfl]at K;refine fA ?_;exact gl ⟨k,sub ⟨rfl,rfl,rfl,rfl,rfl,km fy⟩,⟨a6,fy,K⟩,(by show k<k+1;omega)⟩
    |false=>
     rw[bI,if_neg fU]at K;refine fA ?_;exact gl ⟨k+1,sub ⟨rfl,rfl,rfl,rfl,rfl,rfl⟩,⟨a6,K⟩⟩
   .obtain rfl:k=0:=fy;refine fA ?_;exact gl ⟨0,sub ⟨rfl,rfl,rfl,rfl,rfl,rfl⟩,⟨D.d,by simpa[qY]using K⟩⟩
  .rintro k m ⟨D,hk⟩;have bF:k<=i:=by rw[hk];exact Fa _ _ _
   have cH:yl e (nF t.es i)=(nF t.es i).take k++[e]++(nF t.es i).drop k:=by unfold yl;rw[X,<-hk];simp
   have a5:Ext f m:=bu.t D;refine fA ?_;refine abZ iO (λL aN ao cO=>?_);refine fA ?_;have bT:=aV.ext (a5.t ao);rw[X]at bT;refine afA gi k fx bT fx fx fx (by rw[X];exact bF) (λaG c8 cu=>?_);have au:((nF t.es i).take k).length=k:=by rw[kv,X];omega
   have cv:Row L (.slice aG k c8) k (((nF t.es i).take k).flatMap hR):=by have:=cu;unfold Rw at this;rw[au]at this;exact this
   refine jH (B:=m.heap.size) (news:=((nF t.es i).take k).flatMap hR) iO fx fU fx aN fx cv (by rw[gn gi,au]) (mC _) (by unfold maxLen;omega) fy fy (λv9 R a9 O _=>?_);have ap:Ow hR 2 R m.heap.size 49 v9 ((nF t.es i).take k):=by unfold Ow;rw[au];simpa using a9
   have aM:Ext m R:=ao.trans O λj ar h=>by have:=(gK.gO aN h).1;omega
   have z9:=aM.size;have t6:gc R.drew f.heap.size 0 (.U e.path):=(J.t (D.t aM)).ed.cell q0;have aK:fW R.drew f.heap.size 49 (hR e).toArray:=fW.ext al ((J.t (D.t aM)).d);refine fA ?_;refine gR (t:=49) aK fx fx ?_;refine fA ?_;refine nV iO fx fx fU fU (λaW ak cg dp=>?_);have a8:Ext R aW:=(Fr.drew _ _).t cg;refine jH (B:=m.heap.size) (news:=hR e) iO fx fU fx (ap.ext a8) fx (gQ ak fU fx) fx (λu hu=>mC [e] u (by simpa using hu)) (by unfold maxLen;rw[au];omega) (by rw[au];omega) (by have:=a8.size;omega) (λv11 bl cn ck _=>?_);have bx:Ow hR 2 bl m.heap.size 49 v11 ((nF t.es i).take k++[e]):=Ow.ext1 (l':=[e]) (by simpa using cn);have a7:Ext m bl:=(aM.t a8).trans ck λj ar h=>by have:=(ap.gO h).1;omega
   have c2:=a7.size;refine fA ?_;have bS:=aV.ext (a5.t a7);rw[X]at bS;refine adn gi k fx bS fx fx fx (by rw[X];exact bF) (λbZ yE bz=>?_);have bd:((nF t.es i).drop k).length=i-k:=by rw[lY,X]
   have bG:((nF t.es i).take k++[e]).length=k+1:=by rw[ib,au];rfl
   rw[X]at bz|-;have ct:Row bl (.slice bZ (i-k) yE) (i-k) (((nF t.es i).drop k).flatMap hR):=by have:=bz;unfold Rw at this;rw[bd]at this;exact this
   refine jH (B:=m.heap.size) (news:=((nF t.es i).drop k).flatMap hR) iO fx fU fx bx fx ct (by rw[gn gi,bd]) (mC _) (by unfold maxLen;rw[bG];omega) (by rw[bG];omega) c2 (λv12 bX co cl _=>?_)
   have cq:Ow hR 2 bX m.heap.size 49 v12 (nF t.es (i+1)):=by
    rw[NR he,cH];exact Ow.ext1 (l':=(nF t.es i).drop k) (by rw[bd];exact co)
   have ci:Ext m bX:=a7.trans cl λj ar h=>by have:=(bx.gO h).1;omega
   refine fA ?_;refine gl ⟨(i+1,v12),sub ⟨rfl,rfl,rfl,rfl⟩,⟨fY,λx U=>?_,cq.rw,Z.t (a5.t ci)⟩,(by show t.es.length-(i+1)<t.es.length-i;omega)⟩;dsimp only at U;rw[j2,he]at U;rcases iS.1 U with U|U
   .exact aE x U
   .have cU:x=e:=by simpa using U
    rw[cU];exact⟨hm,bc⟩
 obtain rfl:i=t.es.length:=fy;rw[kh]at aE;have cw:nF t.es t.es.length=jM t.es:=by unfold nF;rw[kh];rfl
 rw[cw]at aJ aV;have aP:=jk t.es;have bB:(jM t.es).length=t.es.length:=aP.length_eq;obtain⟨S,bA⟩:∃S,S=jM t.es:=⟨_,rfl⟩;rw[<-bA]at aJ aV aP bB;rw[<-bB]
 have cz:∀e∈S,0<=e.node/\e.node<t.ns.length:=λe he=>by
  have:=(aE e (aP.mem_iff.1 he)).2;unfold yj at this;simpa using this
 have bN:∀r,gM (jy t.ns S)=r->hQ t=if r then some (jy t.ns S)else none:=λr cM=>by
  unfold hQ;rw[<-bA,cM,ld.2 λe he=>(aE e he).2];rfl
 refine fA ?_;refine gx (z:= .agg #[.slice none 0 0,.slice none 0 0]) fE (λH aZ am cN=>?_);have cc:fW H f.heap.size 26 #[.slice none 0 0,.slice none 0 0]:=aZ;have n14:gc H w.heap.size 1 (.slice ad t.ns.length Y):=am.cell n1;refine fA ?_;refine WA sC fx fx fx fy fy fy (λF al bw ds=>?_);rw[je]at al|-;have ag:Ext f F:=am.t bw
 have cA:fW F H.heap.size 3 ((Iw [] t.ns.length).map (Value.int .i64)).toArray:=by
  rw[Vj,ME];simpa using al
 refine fA ?_;refine gC (α:=RnS) (λx=>[(1,.P w.heap.size),(2,.P Q.heap.size),(4,.slice aY S.length cL),(9,.P f.heap.size),(10,.S H.heap.size 0 t.ns.length t.ns.length),(11,.I (x.i:Int))]) (RnI t S f.heap.size H.heap.size F.heap.size fO f) (λx=>S.length-x.i) ⟨0,[],.slice none 0 0,.slice none 0 0,[],[]⟩ (sub ⟨rfl,rfl,rfl,rfl,rfl,rfl⟩) ⟨ag,iF _,cc.ext bw,cA,rfl,Ow.nil _ _ _,Ow.nil _ _ _,rfl,(λy G=>by cases G),iF _,rfl,gJ _⟩ ?_;rintro⟨i,seen,aX,wn,nv,M⟩ C ⟨J,hi,aw,aR,K,ab,W,ai,aj,cP,bD,bR⟩;dsimp only at J hi aw aR K ab W ai aj cP bD bR|-;have az:Ext w C:=aL.t J;have cK:nv.length=seen.length:=by have:=congrArg List.length ai;simpa using this
 by_cases fY:i<S.length
 .obtain⟨b,o,e,rfl,_,he,cE,aS⟩:=aJ.at_ fY;have aq:=jT he;obtain⟨bY,c0⟩:=cz e aq;obtain⟨k,hk⟩:=lZ bY;have pA:k<t.ns.length:=fy;rw[cE,iJ]at K;have c1:C.cell? ⟨b,o+i*2+1,none⟩=some (.I (k:Int)):=by rw[<-hk];exact J.cell (aS 1 _ rfl)
  have c7:C.cell? ⟨H.heap.size,k,none⟩=some (.I (if(k:Int)∈seen then((seen.idxOf (k:Int)+1:Nat):Int)else 0)):=by
   rw[aR.cell];have:=yL (seen:=seen) pA;simp only[po,qX,this,tT]
  have key:∀I:ip Int,(I=seen/\(k:Int)∈seen\/I=seen++[(k:Int)]/\(k:Int)∉seen)->((M++[⟨e.path,(I.idxOf (k:Int):Int)⟩])++(iJ I (S.drop (i+1))).1,(iJ I (S.drop (i+1))).2)=iJ [] S:=λI h=>by
   rw[hk]at K;rcases h with⟨rfl,hm⟩|⟨rfl,hm⟩
   .rw[if_pos hm]at K;rw[<-K];simp
   .rw[if_neg hm]at K;rw[Q5,if_neg hm];rw[<-K];simp
  have b3:gc C f.heap.size 1 wn:=aw.cell 1;have o1:gc C w.heap.size 1 (.slice ad t.ns.length Y):=J.cell n1;refine gz3 ?_;refine O6 fx ?_;refine gz3 ?_
  first|refine pj ?_|refine B0 ?_
  repeat' (first|refine gH i (o+i*2) fx fx fx fx fx fY ?_|refine kt k k fx fx fx fx (by omega) pA ?_|refine TZ (op:= .eql) (decide ((k:Int)∉seen)) fx fx fx (by by_cases hm:(k:Int)∈seen<;>simp[hm]<;>omega) ?_|refine gk0 ?_|refine ur (by kernel_rfl) ?_|refine oD (by kernel_rfl) (by decide+kernel) ?_|fail)
  refine p5 (α:=ip Int×i6×ip gG) (λy=>[(1,.P w.heap.size),(2,.P Q.heap.size),(4,.S b o S.length cL),(9,.P f.heap.size),(10,.S H.heap.size 0 t.ns.length t.ns.length),(11,.I (i:Int)),(12,.I (k:Int))]) (RnJ t (k:Int) i seen M aX f.heap.size H.heap.size F.heap.size fO f) ?_ ?_
  .by_cases hm:(k:Int)∈seen
   .rw[decide_eq_false (λh=>h hm)];refine fA ?_;exact gl ⟨(seen,wn,nv),sub ⟨rfl,rfl,rfl,rfl,rfl,rfl,rfl⟩,⟨hm,.inl ⟨rfl,hm⟩,J,aw,aR,ab,W,ai,aj,by dsimp only;omega,bR⟩⟩
   .rw[decide_eq_true hm];obtain⟨bn,o3,n,b4,_,aT,_,bb⟩:=b9.at_ (i:=k) fy;subst b4;have cJ:∀q u,(gB n)[q]? =some u->gc C.drew bn (o3+k*12+q) u:=λq u hu=>az.ed.cell (bb q u hu)
    have bc:=aF.i n (jT aT);obtain⟨ae,c5,rfl,de,df⟩:=W.form;have bp:gc C.drew f.heap.size 1 (.slice ae nv.length c5):=b3;have dv:gc C.drew w.heap.size 1 (.S bn o3 t.ns.length Y):=o1;refine fA ?_;refine tY 8 [94] (λw'=>gc w' f.heap.size 1 (.slice ae nv.length c5)) fE (by decide+kernel) bp ?_
    repeat' (first|refine pG fx fx (λ_ h=>h) ?_|refine gH k (o3+k*12) fx fx fx fx fx pA ?_|refine fT ?_|fail)
    refine hV (cs:=gB n) fx fx cJ ?_;refine nV mi fx fx fU fU (λm af D dt=>?_) (λw' he=>he.cell bp);have ah:Ext C m:=(Fr.drew _ _).t D;refine lB ?_;have dw:=ah.size;refine jH (B:=F.heap.size) (news:=gB n) mi fx fU fx (W.ext ah) fx (gQ af fU fx) fx (iC bc) (by unfold maxLen;omega) fy fy (λcZ L aN N _=>?_);have aO:Ow gB 12 L F.heap.size 37 cZ (nv++[n]):=Ow.ext1 (l':=[n]) (by simpa using aN);obtain⟨aG,c8,rfl,_,_⟩:=aO.form;have be:∀x,x<F.heap.size->¬(Value.slice ae nv.length c5).ownBlock=some x:=λx U h=>by have:=(W.gO h).1;omega
    have z3:=am.size;have cS:fW L f.heap.size 26 #[aX,.slice ae nv.length c5]:=(aw.ext ah).fr N (be _ fy);refine fA ?_;refine ir cS fx fx fE fx fx (λR aK O=>?_);have cB:fW L H.heap.size 3 ((Iw seen t.ns.length).map (Value.int .i64)).toArray:=(aR.ext ah).fr N (be _ fy);have cC:fW R H.heap.size 3 ((Iw seen t.ns.length).map (Value.int .i64)).toArray:=cB.fr O (show ¬H.heap.size=f.heap.size by omega);have c4:gc R f.heap.size 1 (.slice aG (nv++[n]).length c8):=aK.cell 1
    repeat' (first|refine kt k k fx fx fx fx fy pA ?_|refine fT ?_|fail)
    refine ir cC fx fx fx fx (by simp only[nK,jv,yw];exact decide_eq_true pA) (λaW ak T=>?_);refine fA ?_;have a6:Fr (λb=>(Value.slice ae nv.length c5).ownBlock=some b) C L:=Fr.t (Ext.fr ah) N;have bv:Ext f L:=(J.t ah).trans N λj ar h=>absurd h (be j fy)
    have c3:=bv.size
    have cI:fW aW H.heap.size 3 ((Iw (seen++[(k:Int)]) t.ns.length).map (Value.int .i64)).toArray:=by
     rw[LO,show(nv++[n]).length=seen.length+1 from by rw[ib,cK];rfl]at ak;rw[<-Vo hm,vz];exact ak
    have bg:Ow hR 2 L F.heap.size 49 aX M:=(ab.ext ah).fr N (λb E h=>W.apart ab fU h E);refine gl ⟨(seen++[(k:Int)],.slice aG (nv++[n]).length c8,nv++[n]),sub ⟨rfl,rfl,rfl,rfl,rfl,rfl,rfl⟩,⟨by simp,.inr ⟨rfl,hm⟩,aa (aa bv O (gJ _)) T fy,aK.fr T (show ¬f.heap.size=H.heap.size by omega),cI,(bg.fr O (λb E=>by have:=(bg.gO E).1;show ¬b=f.heap.size;omega)).fr T (λb E=>by have:=(bg.gO E).1;show ¬b=H.heap.size;omega),(aO.fr O (λb E=>by have:=(aO.gO E).1;show ¬b=f.heap.size;omega)).fr T (λb E=>by have:=(aO.gO E).1;show ¬b=H.heap.size;omega),?_,?_,?_,?_⟩⟩
    .dsimp only;rw[pw,pw,ai]
     congr 1
     simp only[jj,PR,je,aF.getD aT]
    .intro y G;rcases iS.1 G with G|G
     .exact aj y G
     .rw[jS.1 G];exact⟨jT aT,jT (aF.get aT)⟩
    .dsimp only;rw[ib];simp only[iP,kL];omega
    .have:=O.size;have:=T.size;have:=N.size;omega
  .rintro⟨I,bm,bW⟩ m ⟨bj,bU,D,bk,ba,aD,bh,bK,bL,bQ,cR⟩;dsimp only at bj bU D bk ba aD bh bK bL bQ cR|-;obtain⟨aH,ce,rfl,dg,dh⟩:=aD.form;have bo:gc m.drew f.heap.size 0 (.slice aH M.length ce):=bk.cell 0;have cp:gc m.drew b (o+i*2+0) (.U e.path):=D.ed.cell (aS 0 _ rfl)
   have da:m.drew.cell? ⟨H.heap.size,k,none⟩=some (.I ((I.idxOf (k:Int)+1:Nat):Int)):=by
    have h1:=yL (seen:=I) pA;rw[if_pos bj]at h1;have aI:=ba.cell k;simp only[po,qX,h1,tT]at aI;exact aI
   have dk:I.idxOf (k:Int)<I.length:=VO.2 bj;have z3:=am.size;refine fA ?_;refine tY 14 [110] (λw'=>gc w' f.heap.size 0 (.slice aH M.length ce)) fE (by decide+kernel) bo ?_
   repeat' (first|refine pG fx fx (λ_ h=>h) ?_|refine gH i (o+i*2) fx fx fx fx fx fY ?_|refine kt k k fx fx fx fx fy pA ?_|refine fT ?_|fail)
   obtain⟨V,bE⟩:∃V:En,V=⟨e.path,(I.idxOf (k:Int):Int)⟩:=⟨_,rfl⟩;have cG:((I.idxOf (k:Int)+1:Nat):Int)-1=(I.idxOf (k:Int):Int):=fy
   refine oQ (parts:=[(0,.tmp 115),(1,.tmp 120)]) (cells:=(hR V).toArray) (vs:=[(0,.U V.path),(1,.I V.node)]) (by
    rw[bE];show some [(0,Value.U e.path),(1,Value.I (((I.idxOf (k:Int)+1:Nat):Int)-1))]=_
    rw[cG]) fE ?_
   refine nV iO fx fx fU fU (λL ay ao cO=>?_) (λw' he=>he.cell bo);have an:Ext m L:=(Fr.drew _ _).t ao;refine lB ?_;have c3:=an.size;refine jH (B:=F.heap.size) (news:=hR V) iO fx fU fx (aD.ext an) fx (gQ ay fU fx) fx (λu hu=>mC [_] u (by simpa using hu)) (by unfold maxLen;omega) fy fy (λv9 R a9 O _=>?_);have ap:Ow hR 2 R F.heap.size 49 v9 (M++[V]):=Ow.ext1 (l':=[V]) (by simpa using a9);obtain⟨b1,c9,rfl,_,_⟩:=ap.form;have bf:∀x,x<F.heap.size->¬(Value.slice aH M.length ce).ownBlock=some x:=λx U h=>by have:=(aD.gO h).1;omega
   have cT:fW R f.heap.size 26 #[.slice aH M.length ce,bm]:=(bk.ext an).fr O (bf _ fy);refine fA ?_;refine ir cT fx fx fE fx fx (λaW ak T=>?_);refine fA ?_;have ch:Ext f R:=(D.t an).trans O λj ar h=>absurd h (bf j fy)
   have bO:Ow gB 12 R F.heap.size 37 bm bW:=(bh.ext an).fr O (λb E h=>bh.apart aD fU E h);refine gl ⟨⟨i+1,I,.slice b1 (M++[V]).length c9,bm,bW,M++[V]⟩,sub ⟨rfl,rfl,rfl,rfl,rfl,rfl⟩,⟨aa ch T (gJ _),fY,ak,((ba.ext an).fr O (bf _ fy)).fr T (show ¬H.heap.size=f.heap.size by omega),(by have:=key I bU;rw[<-bE]at this;exact this),ap.fr T (λb E=>by have:=(ap.gO E).1;show ¬b=f.heap.size;omega),bO.fr T (λb E=>by have:=(bO.gO E).1;show ¬b=f.heap.size;omega),bK,bL,bQ,(by dsimp only;rw[ib,bD];rfl),(by have:=O.size;have:=T.size;omega)⟩,(by show S.length-(i+1)<S.length-i;omega)⟩
 .obtain rfl:i=S.length:=fy;have cr:iJ [] S=(M,seen):=by rw[<-K,jP,iJ,mR]
  have aQ:jy t.ns S=⟨M,seen.map λk=>t.ns.getD k.toNat default⟩:=by unfold jy;rw[cr]
  have cx:∀w',Ext C w'->mE w' aX wn nv (jy t.ns S):=λw' a1=>by
   rw[aQ];exact⟨ab.rw.ext a1,W.rw.ext a1,λy G=>(aF.i y (aj y G).1).ext (az.t a1),ai⟩
  obtain⟨ae,c5,rfl,_,_⟩:=W.form;obtain⟨b0,c6,rfl,_,_⟩:=ab.form
  have cy:H8 (jy t.ns S):=by
   have bM:∀n∈(jy t.ns S).ns,n∈t.ns:=λn av=>by
    rw[aQ,<-ai]at av;obtain⟨y,G,rfl⟩:=lp.1 av;exact(aj y G).2
   refine⟨λn av=>aB.b n (bM n av),λn av=>aB.g n (bM n av),λe he=>?_⟩;have:e.path∈(iJ [] S).1.map (·.path):=xc (by exact he);rw[lN]at this;obtain⟨x,U,cV⟩:=lp.1 this;rw[<-cV];exact aB.p x (aP.mem_iff.1 U)
  have bs:fW C Q.heap.size 26 #[.slice none 0 0,.slice none 0 0]:=br.ext (Z.t J);have dq:=a3.size;refine fA ?_;refine gR (t:=26) aw fx fx ?_;refine fA ?_;refine fH fx fx (Aq C _ _ nv (jy t.ns S) (cx C (Fr.refl _ _)) cy (by rw[aQ];dsimp only;rw[jv];omega)) (λr m b6=>?_);obtain⟨rfl,D⟩:=b6;have a2:Ext w m:=az.t D;cases hm:gM (jy t.ns S)with
  |false=>
   have aC:hQ t=none:=bN false hm;refine fA ?_;refine oQ (parts:=[]) (cells:= #[.slice none 0 0,.slice none 0 0]) fx fE ?_;refine fA ?_;refine gY (bs.ext D) fx fx fE fx (fJ (l:=[.slice none 0 0,.slice none 0 0]) fx) (λL ay N=>?_);refine fA ?_;exact hL fx fx fx ay fE (DU aC (aa a2 N fy))
  |true=>
   have cQ:hQ t=some (jy t.ns S):=bN true hm;refine fA ?_;refine gR (t:=26) (aw.ext D) fx fx ?_;refine fA ?_;refine gY (bs.ext D) fx fx fE fx (fJ (l:=[.slice b0 M.length c6,.slice ae nv.length c5]) fx) (λL ay N=>?_);refine fA ?_;have bH:∀b,F.heap.size<=b->¬b=Q.heap.size:=λb E=>by have:=ag.size;have:=Z.size;omega
   refine hL fx fx fx ay fE ⟨aa a2 N fy,?_⟩;rw[cQ];refine⟨_,_,nv,rfl,?_⟩;rw[aQ];have bV:w.heap.size<=F.heap.size:=(aL.t ag).size;have bC:=(ab.ext D).fr N λb E=>bH b (ab.gO E).1
   have bJ:=(W.ext D).fr N λb E=>bH b (W.gO E).1
   exact⟨⟨bC.rw,bJ.rw,λy G=>(aF.i y (aj y G).1).ext (aa a2 N fy),ai⟩,bC.mono bV,bJ.mono bV,λy G=>(aj y G).1⟩
def AM (w:i5) (ve vn:i6) (fO:ip gG) (t:fZ) (u:mE w ve vn fO t) (d:H8 t) (m:t.es.length<=1000000) (n:t.ns.length<=1000000):fQ prog 28 #[.agg #[ve,vn]] w (ZC t w):=
 fQ.mono (GI w ve vn fO t u d m n) λr w' h=>by
  obtain⟨g,h⟩:=h;refine⟨g,?_⟩;cases d:hQ t with
  |none=>rw[d]at h;exact h
  |some t'=>
   rw[d]at h;obtain⟨ve,vn,fO,h1,f,_⟩:=h;exact⟨ve,vn,fO,h1,f⟩
