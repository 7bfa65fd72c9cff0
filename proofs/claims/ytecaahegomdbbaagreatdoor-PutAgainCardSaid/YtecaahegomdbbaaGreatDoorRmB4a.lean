/- Parts of the proof. -/
import Derived.Laws.AppendOwn
import Derived.Laws.CopyRow
import Derived.Lib.AppendZerosOnto
import Derived.Test.YtecaahegomdbbaaGreatDoorRmB1
import Derived.Test.YtecaahegomdbbaaGreatDoorRmWd
set_option linter.all false
set_option maxRecDepth 99999
set_option maxHeartbeats 0
namespace Go.Proofs.YtecaahegomdbbaaGreatDoor.gr
open Go.Proofs.Tryz
open Go.RowKit
variable {af:Array Edge} {full:Array li} {Y:Env} {K:Env->i5->Prop} {hs:ip Nat} {ii:ip li} {vs:ip i6} {B a b c g i n q z:Nat} {p x y:i7} {dst:Option Tmp} {pos:String} {d:Tmp} {e t R:i9} {w:i5} {H:i5->Prop}
theorem Ci {α:Type} {p q:α->Bool} (f:∀x,p x=true->q x=true):∀l:ip α,(∃x∈l,q x=true/\p x=false)->l.countP p<l.countP q
 |[],h=>by grind
 | y::l,h=>by
  obtain⟨x,d,h1,g⟩:=h;rw[Hv,Hv];have hle:l.countP p<=l.countP q:=VS λx _=>f x
  rcases iu.1 d with rfl|d
  .grind
  .have m:=Ci f l ⟨x,d,h1,g⟩
   grind
def yk (O:ip En) (x:En):Nat:=O.countP λy=>ix y.path x.path
theorem MK {O:ip En} {x:En} (d:x∈O) (y:En):ix x.path y.path=true↔yk O x<yk O y:=by
 unfold ix;constructor
 .intro h;exact Ci (by grind [ix,lS]) O ⟨x,d,h,sK _⟩
 .intro h;cases e:jc (fX x.path) (fX y.path)with
  |true=>rfl
  |false=>
   have:yk O y<=yk O x:=VS (by grind [ix,DS,fX]);omega
def D8 (l:ip En):ip Tg:=l.zipIdx.map λp=>(p.2,p.1)
def Ar (l:ip En):(D8 l).map Prod.snd=l:=by
 unfold D8;rw[rN];have:(Prod.snd∘λp:En×Nat=>(p.2,p.1))=Prod.fst:=rfl
 simp_all
def QH (l:ip En) (c:Tg->Int):(D8 l).Pairwise (yn c):=by
 unfold D8;rw[zH]
 have:∀(l:ip En) (k:Nat),(l.zipIdx k).Pairwise λa b=>a.2<b.2:=by
  intro l
  induction l with
  |nil=>simp_all
  |cons x l d=>
   grind [List.zipIdx_cons,List.pairwise_cons,List.le_snd_of_mem_zipIdx]
 exact(this l 0).imp (by grind [yn])
def Je (w:i5) (a b:En):fQ prog 85 #[.agg (hR a).toArray,.agg (hR b).toArray] w λr w'=>Ext w w'/\∃z,r= .I z/\(z<0↔ix a.path b.path=true):=by
 refine gP func85 fx fE ?_;refine fA ?_;refine hP fx (λg y C F=>?_);have k1:gc g w.heap.size 0 (.U a.path):=fW.cell y 0;refine fA ?_;refine hP fx (λm B u G=>?_);have k2:gc m g.heap.size 0 (.U b.path):=fW.cell B 0;have k3:gc m w.heap.size 0 (.U a.path):=u.cell k1;refine fA ?_;refine fH fx fx (sW m a.path b.path) (λr d h3=>?_);obtain⟨rfl,f⟩:=h3;have n:Ext w d:=C.t (u.t f);cases D:ix a.path b.path with
 |true=>
  refine fA ?_;exact fB fx fx fM
 | false=>
  have k4:gc d w.heap.size 0 (.U a.path):=f.cell k3;have k5:gc d g.heap.size 0 (.U b.path):=f.cell k2;refine fA ?_;refine fH fx fx (sW d b.path a.path) (λr H x=>?_);obtain⟨rfl,v⟩:=x;cases E:ix b.path a.path with
  |true=>
   refine fA ?_;exact fB fx fx ⟨n.t v,_,rfl,by simp⟩
  |false=>
   refine fA ?_;exact fB fx fx ⟨n.t v,_,rfl,by simp⟩
def Ol (O:ip En) (g:Nat) (w:i5):pE g w 85 #[] (λx=>x.2∈O) (λx=>(yk O x.2:Int)):=by
 refine⟨by kernel_rfl,λw' _ x y d f=>?_⟩;refine(Je w' x.2 y.2).mono ?_
 grind [MK]
def iO:x4 23 49 (.agg #[.string ⟨#[]⟩,.I 0]) 2 24:=Nq underlying23 fE
def yr:x4 31 68 (.agg #[.string ⟨#[]⟩,.string ⟨#[]⟩]) 2 32:=Nq underlying31 fE
def Fy:x4 32 70 (.agg #[.I 0,.I 0,.I 0]) 3 24:=Nq underlying32 fE
def ks:x4 35 39 (.agg #[.I 0,.string ⟨#[]⟩]) 2 24:=Nq underlying35 fE
def tH:Array i6:= #[.I 0,.I 0,.I 0,.I 0,.I 0,.slice none 0 0,.slice none 0 0,.I 0,.slice none 0 0,.string ⟨#[]⟩,.I 0,.I 0]
def mi:x4 24 37 (.agg tH) 12 152:=Nq underlying24 fE
def mC (l:ip En):∀u∈l.flatMap hR,u.oneCell'=true:=λu hu=>by
 obtain⟨x,_,d⟩:=xk.1 hu;simp only[hR,iu,tf,or_false]at d;rcases d with rfl|rfl<;>rfl
def Bo (l:ip xB):∀u∈l.flatMap jO,u.oneCell'=true:=λu hu=>by
 obtain⟨x,_,d⟩:=xk.1 hu;simp only[jO,iu,tf,or_false]at d;rcases d with rfl|rfl<;>rfl
def Fo (l:ip Ac):∀u∈l.flatMap lA,u.oneCell'=true:=λu hu=>by
 obtain⟨x,_,d⟩:=xk.1 hu;simp only[lA,iu,tf,or_false]at d;rcases d with rfl|rfl|rfl<;>rfl
def mh (l:ip hT):∀u∈l.flatMap kc,u.oneCell'=true:=λu hu=>by
 obtain⟨x,_,d⟩:=xk.1 hu;simp only[kc,iu,tf,or_false]at d;rcases d with rfl|rfl<;>rfl
structure GZ (n:Nd):Prop where
 a:n.attrs.length<=1000000
 c:n.acl.length<=1000000
 d:n.data.length<=1000000
def NdF (B:Nat) (x:gG):Prop:=∀b,x.va.ownBlock=some b\/x.vc.ownBlock=some b\/x.vd.ownBlock=some b->B<=b
def im.fr {S:Nat->Prop} {w w':i5} {x:gG} {B:Nat} (h:im w x) (g:NdF B x) (n:Fr S w w') (m:∀b,B<=b->¬S b):im w' x:=⟨h.a.fr n λb f=>m b (g b (.inl f)),h.c.fr n λb f=>m b (g b (.inr (.inl f))),h.d.fr n λb f=>m b (g b (.inr (.inr f)))⟩
structure rj (w:World) (B:Nat) (x:gG):Prop where
 a:Ow jO 2 w B 68 x.va x.n.attrs
 c:Ow lA 3 w B 70 x.vc x.n.acl
 d:Ow kc 2 w B 39 x.vd x.n.data
def rj.in {x:gG} (h:rj w B x):im w x:=⟨h.a.rw,h.c.rw,h.d.rw⟩
theorem rj.f {x:gG} (h:rj w B x):NdF B x:=λb g=>by
 rcases g with g|g|g
 .exact(h.a.gO g).1
 .exact(h.c.gO g).1
 .exact(h.d.gO g).1
def rj.fr {S:Nat->Prop} {w w':i5} {B:Nat} {x:gG} (h:rj w B x) (f:Fr S w w') (g:∀b,x.va.ownBlock=some b\/x.vc.ownBlock=some b\/x.vd.ownBlock=some b->¬S b):rj w' B x:=
 ⟨h.a.fr f fM,h.c.fr f fM,h.d.fr f fM⟩
def rj.ext {w':i5} {x:gG} (h:rj w B x) (d:Ext w w'):rj w' B x:=h.fr d λ_ _ f=>f
def rj.mono {w:i5} {B g:Nat} {x:gG} (h:rj w B x) (f:g<=B):rj w g x:=⟨h.a.mono f,h.c.mono f,h.d.mono f⟩
structure Fs (w:World) (B:Nat) (ve vn:Value) (fO:List gG) (t:fZ):Prop where
 e:Ow hR 2 w B 49 ve t.es
 n:Ow gB 12 w B 37 vn fO
 i:∀x∈fO,rj w B x
 m:fO.map (·.n)=t.ns
def Fs.v {ve vn:i6} {fO:ip gG} {t:fZ} (h:Fs w B ve vn fO t):mE w ve vn fO t:=⟨h.e.rw,h.n.rw,λx d=>(h.i x d).in,h.m⟩
def Fs.ext {w w':i5} {B:Nat} {ve vn:i6} {fO:ip gG} {t:fZ} (h:Fs w B ve vn fO t) (d:Ext w w'):Fs w' B ve vn fO t:=⟨h.e.ext d,h.n.ext d,λx f=>(h.i x f).ext d,h.m⟩
def Fs.mono {w:i5} {B f:Nat} {ve vn:i6} {fO:ip gG} {t:fZ} (h:Fs w B ve vn fO t) (d:f<=B):Fs w f ve vn fO t:=⟨h.e.mono d,h.n.mono d,λx g=>(h.i x g).mono d,h.m⟩
def D7 (w:i5) (x:gG) (aw:im w x) (aq:GZ x.n):fQ prog 87 #[.agg (gB x).toArray] w λr w'=>∃x',r= .agg (gB x').toArray/\rj w' w.heap.size x'/\x'.n=x.n/\Ext w w':=by
 refine gD func87 fx fE ?_;obtain⟨n,va,vc,vd⟩:=x;obtain⟨Q,hc,S⟩:=aw;obtain⟨la,lc,ax⟩:=aq;dsimp only at Q hc S la lc ax|-;obtain⟨V,c1,rfl,_,_,_⟩:=Q.op jX;obtain⟨W,c2,rfl,_,_,_⟩:=hc.op j7;obtain⟨X,c3,rfl,_,_,_⟩:=S.op hB;refine fA ?_;refine hP fx (λT ai O aD=>?_);refine fA ?_;refine gx (z:= .agg tH) fE (λK aj F aE=>?_);have aa:fW K w.heap.size 37 (gB ⟨n,.slice V n.attrs.length c1,.slice W n.acl.length c2,.slice X n.data.length c3⟩).toArray:=fW.ext ai F;have k1:gc K w.heap.size 5 (.slice V n.attrs.length c1):=aa.cell 5;refine fA ?_;refine jH (B:=K.heap.size) (news:=n.attrs.flatMap jO) yr fx fU fx (gK.nil _ _ _ _) fx (Row.ext Q (O.t F)) (gn jX _) (Bo _) (by grind [maxLen]) fy (gJ _) (λv1 ay d an _=>?_);have G:Ext K ay:=an.mono λ_ _ h=>by cases h
 have J:∀{a b c:i5} {g:Nat},Ext a b->Fr (· =g) b c->a.heap.size<=g->Ext a c:=λh1 ah aC=>h1.trans ah fM
 obtain⟨Y,d1,rfl,_,_⟩:=d.form;rw[iM]at d;refine fA ?_;refine ir (fW.ext aa G) fx fx fE fx fx (λL ab H=>?_);have af:Ext w L:=J (O.t (F.t G)) H (gJ _);have k2:gc L w.heap.size 6 (.slice W n.acl.length c2):=fW.cell ab 6;refine fA ?_;refine jH (B:=L.heap.size) (news:=n.acl.flatMap lA) Fy fx fU fx (gK.nil _ _ _ _) fx (Row.ext hc af) (gn j7 _) (Fo _) (by grind [maxLen]) fy (gJ _) (λv2 az u ao _=>?_);have y:Ext L az:=ao.mono λ_ _ h=>by cases h
 obtain⟨B2,d2,rfl,_,_⟩:=u.form;rw[iM]at u;refine fA ?_;refine ir (fW.ext ab y) fx fx fE fx fx (λM ad C=>?_);have ag:Ext w M:=J (af.t y) C (gJ _);have k3:gc M w.heap.size 8 (.slice X n.data.length c3):=fW.cell ad 8;refine fA ?_;refine jH (B:=M.heap.size) (news:=n.data.flatMap kc) ks fx fU fx (gK.nil _ _ _ _) fx (Row.ext S ag) (gn hB _) (mh _) (by grind [maxLen]) fy (gJ _) (λv3 aA E ap _=>?_);have f:Ext M aA:=ap.mono λ_ _ h=>by cases h
 obtain⟨Z,d3,rfl,_,_⟩:=E.form;rw[iM]at E;refine fA ?_;refine ir (fW.ext ad f) fx fx fE fx fx (λU ae D=>?_);have al:Ext w U:=J (ag.t f) D (gJ _);have aF:=O.size;have z2:=F.size;have z3:=G.size;have z4:=H.size;have z5:=y.size;have aG:=C.size;have aH:=f.size;have ne:∀{w':i5} {B:Nat} {e:i9} {z m:Nat} {v:i6} {vs:ip i6},gK w' B e z v m vs->w.heap.size<B->∀b,v.ownBlock=some b->¬b=w.heap.size:=λh fY b R=>by have:=(h.gO R).1;omega
 have ar:=((((d.fr H (ne d fy)).ext y).fr C (ne d fy)).ext f).fr D (ne d fy);have au:=((u.fr C (ne u fy)).ext f).fr D (ne u fy);have av:=E.fr D (ne E fy);refine fA ?_
 have ak:fW U w.heap.size 37 (gB ⟨n,.slice Y n.attrs.length d1,.slice B2 n.acl.length d2,.slice Z n.data.length d3⟩).toArray:=by
  simp only[iM]at ae;exact ae
 refine gR (t:=37) ak fx fx ?_;have N:fW U T.heap.size 37 (Value.agg tH).cells:=fW.fr (fW.ext (fW.fr (fW.ext (fW.fr (fW.ext aj G) H fy) y) C fy) f) D fy;refine fA ?_;refine gY N fx fx fE fx (fJ (l:=gB ⟨n,.slice Y n.attrs.length d1,.slice B2 n.acl.length d2,.slice Z n.data.length d3⟩) fx) (λaB N I=>?_);have am:Ext w aB:=J al I fy;have ne':∀{w':i5} {B:Nat} {e:i9} {z m:Nat} {v:i6} {vs:ip i6},gK w' B e z v m vs->T.heap.size<B->∀b,v.ownBlock=some b->¬b=T.heap.size:=λh fY b R=>by have:=(h.gO R).1;omega
 refine fA ?_;exact CP fx fx N fE ⟨⟨n,_,_,_⟩,rfl,⟨(ar.fr I (ne' d fy)).mono fy,(au.fr I (ne' u fy)).mono fy,(av.fr I (ne' E fy)).mono fy⟩,rfl,am⟩
theorem Rq {α:Type} {d:α->ip i6} (f:∀x,(d x).length=z) {l:ip α} {L:ip i6} (v:n=l.length) (u:L.take (n*z)=l.flatMap d) (hlen:n*z<=L.length) (hi:i<l.length) (x:α):
  (L.take (i*z)++d x++L.drop (i*z+z)).take (n*z)=(l.set i x).flatMap d:=by
 subst v;have w:l=l.take i++l[i]::l.drop (i+1):=by rw[<-Fq hi,mJ]
 have g:=gn f (l.take i);rw[kv,tD fy]at g;have t:=gn f (l.drop (i+1));rw[lY]at t
 have m:L=(l.take i).flatMap d++(d l[i]++((l.drop (i+1)).flatMap d++L.drop (l.length*z))):=by
  conv=>lhs;rw[<-mJ (l.length*z) L,u]
  conv=>lhs;arg 1;rw[w]
  rw[ue,tu,kF,kF]
 have h1:L.take (i*z)=(l.take i).flatMap d:=by rw[m,M9 fy,p8 fy]
 have y:L.drop (i*z+z)=(l.drop (i+1)).flatMap d++L.drop (l.length*z):=by
  conv=>lhs;rw[m]
  rw[Ho,zi fy,tz,g,show i*z+z-i*z=z from by omega,Ho,zi (by rw[f];omega),tz,f,HD,wK]
 grind [List.set_eq_take_append_cons_drop,List.length,List.length_append,Nat.add_mul,List.append_assoc,List.take_of_length_le]
def F8 {α:Type} {f:α->ip i6} (m:∀x,(f x).length=z) {l:ip α} {x:α} (i:Nat) (hO:Ow f z w B e (.S g 0 n c) l) (O:gh Y p=some (.pointer (some ⟨g,q,none⟩))) (Q:gh Y y=some (.agg (f x).toArray)) (hq:q=i*z) (ht:get kA t=some z) (h1:∀u∈f x,u.oneCell'=true) (hi:i<l.length)
  (h:∀w',Ow f z w' B e (.S g 0 n c) (l.set i x)->Fr (· =g) w w'->xs prog fD fC hs H full K ii Y w') (hH:∀w',Fr (· =g) w w'->H w':=by intros;trivial):xs prog fD fC hs H full K (⟨none,.store t p y,R,pos,af,none⟩::ii) Y w:=by
 subst hq;obtain⟨_,it,G,I⟩:=kJ ht;obtain⟨_,hO⟩:=hO;rcases hO with⟨d,_⟩|⟨qe5,cap,cur,d,N,D,J,L,T,S⟩
 .cases d
 injection d with d E F
 injection d with d
 injection d with d
 subst d;subst E;subst F;have hle:i*z+z<=l.length*z:=by rw[<-sc];exact qz z hi
 have V:l.length*z<=c*z:=fM;refine gW fx (by grind [gd,Op.operands]) ?_;have v:=run_storeCells_at (P:=prog) g (i*z) e (f x) 0 cur w D (by rw[m];omega) h1;rw[kB,m]at v;generalize U:(cur.toList.take (i*z)++f x++cur.toList.drop (i*z+z)).toArray=cs at v;have C:Fr (· =g) w (w.setRow g cs):=⟨rfl,rfl,rfl,by simp[World.setRow],by grind [World.setRow]⟩
 have M:fW (w.setRow g cs) g e cs:=by
  unfold fW;simp[World.setRow,tP,D]
 show out prog ((execOp (ev Y) ⟨none,.store t p y,R,pos,af,none⟩).run prog w) _
 have e:(execOp (ev Y) ⟨none,.store t p y,R,pos,af,none⟩).run prog w= .ok .skip (w.setRow g cs):=by
  simp[execOp,fR O,fR Q,Instr.storeAt,Instr.sureAddr,storeVar,Value.cells,sizeOf,typeInfo,G,I,m,v]
 rw[e];refine⟨hH _ C,h _ ?_ C⟩;unfold Ow;rw[nS];refine⟨by rw[gn m,nS],.inr ⟨g,c,cs,rfl,N,M,J,L,?_,?_⟩⟩<;>grind [gn,List.length_set,List.size_toArray,List.length_append,List.length_take,List.length_drop,Array.length_toList,Rq,List.length,Array.size]
theorem Dh:∀(l:ip Tg) (i q:Nat) (s:fL) (o z:Int) (r:ip i6),l[i]? =some (q,⟨s,o⟩)->(l.flatMap BA++r).set (i*2+1) (.I z)=(l.set i (q,⟨s,z⟩)).flatMap BA++r
 |[],i,_,_,_,_,_,h=>by simp at h
 |x::l,0,q,s,o,z,r,h=>by
  simp only[My,CU]at h;subst h;rfl
 | x::l,i+1,q,s,o,z,r,h=>by
  have f:=Dh l i q s o z r (by simpa using h)
  have d:((x::l).flatMap BA++r).set ((i+1)*2+1) (.I z)= .U x.2.path:: .I x.2.node::((l.flatMap BA++r).set (i*2+1) (.I z)):=by
   rw[show(i+1)*2+1=i*2+1+2 from by omega];rfl
  rw[d,f];rfl
def V5 {zs:Nat} {k:Nat} {l:ip Tg} {s:fL} {o z:Int} (d:DB zs w g l) (m:gh Y p=some (.pointer (some ⟨g,k,none⟩))) (n:gh Y y=some (.I z)) (hk:k=i*2+1) (hi:l[i]? =some (q,⟨s,o⟩))
  (h:∀w',DB zs w' g (l.set i (q,⟨s,z⟩))->Fr (· =g) w w'->xs prog fD fC hs H full K ii Y w') (hH:∀w',Fr (· =g) w w'->H w':=by intros;trivial):xs prog fD fC hs H full K (⟨none,.store 3 p y,R,pos,af,none⟩::ii) Y w:=by
 subst hk;obtain⟨r,v,d⟩:=d;have u:=gn D4 l;have fY:=(jR.1 hi).1;refine ir d m n fE fx fM (λw' t f=>h w' ⟨r,by grind,?_⟩ f) hH
 grind [Dh]
def Dw.op {A:Option Addr} {l:ip Tg} (h:Dw w B (.slice A n c) l):n=l.length/\(l=[]\/∃g,A=some ⟨g,0,none⟩/\B<=g/\DB (c*2) w g l):=by
 obtain⟨d,f,e,_,_,h⟩:=h
 grind
theorem CT {α:Type} {d:α->ip i6} {z:Nat} (f:∀x,(d x).length=z) {j:Nat} {u:i6} (m:j<z):∀{l:ip α} {i:Nat} {x x':α},l[i]? =some x->d x'=(d x).set j u->(l.flatMap d).set (i*z+j) u=(l.set i x').flatMap d
 |[],i,x,x',h,_=>by simp at h
 |y::l,0,x,x',h,g=>by
  simp only[My,CU]at h;subst h;rw[tN,iM,tu,List.set_append_left _ _ (by rw[f];exact m),Qa,tu,g]
 |y::l,i+1,x,x',h,g=>by
  rw[Dr]at h;have n:=CT f m h g;rw[tu,Lz _ _ (by rw[f,sc];omega),W0,tu,f,sc,show i*z+z+j-z=i*z+j from by omega,n]
def Xz {α:Type} {f:α->ip i6} (v:∀x,(f x).length=z) {l:ip α} {x x':α} {u:i6} (i j:Nat) (hO:Ow f z w B e (.S g 0 n c) l) (O:gh Y p=some (.pointer (some ⟨g,q,none⟩))) (qe6:gh Y y=some u) (hq:q=i*z+j) (N:j<z) (ht:one t=true) (h1:u.oneCell'=true) (hi:l[i]? =some x) (Q:f x'=(f x).set j u)
  (h:∀w',Ow f z w' B e (.S g 0 n c) (l.set i x')->Fr (· =g) w w'->xs prog fD fC hs H full K ii Y w') (hH:∀w',Fr (· =g) w w'->H w':=by intros;trivial):xs prog fD fC hs H full K (⟨none,.store t p y,R,pos,af,none⟩::ii) Y w:=by
 subst hq;have fY:=(jR.1 hi).1;obtain⟨_,hO⟩:=hO;rcases hO with⟨d,_⟩|⟨S,cap,cur,d,L,M,m,F,G,E⟩
 .cases d
 injection d with d C D
 injection d with d
 injection d with d
 subst d;subst C;subst D;have hle:i*z+z<=l.length*z:=by rw[<-sc];exact qz z fY
 have T:l.length*z<=c*z:=qz z m;refine ir M O qe6 ht h1 (by simp only[decide_eq_true_eq];omega) (λw' I J=>h w' ?_ J) hH;unfold Ow;rw[nS];refine⟨by rw[gn v,nS],.inr ⟨g,c,_,rfl,L,I,m,F,?_,?_⟩⟩
 .simp only[WS];exact G
 .rw[MM,List.take_set,E];exact CT v N hi Q
def gK.grow {n':Nat} (h:gK w B e z (.S g 0 n c) n vs) (h1:n<=n') (f:n'<=c):∃r,gK w B e z (.S g 0 n' c) n' (vs++r):=by
 obtain⟨h3,v⟩:=h;rcases v with⟨d,_⟩|⟨D,cap,cur,d,y,C,E,x,m,u⟩
 .cases d
 injection d with d _ t
 injection d with d
 injection d with d
 subst d;subst t;have hle:n*z<=n'*z:=qz z h1;have G:n'*z<=c*z:=qz z f;have F:cur.toList.length=c*z:=by rw[py];exact m
 refine⟨(cur.toList.take (n'*z)).drop (n*z),?_,.inr ⟨g,c,cur,rfl,y,C,f,x,m,?_⟩⟩
 .rw[ib,h3,lY,kv];omega
 .rw[<-u];have:(cur.toList.take (n'*z)).take (n*z)=cur.toList.take (n*z):=by rw[IP];congr 1;omega
  rw[<-this,mJ]
def U0 {C qe7:i9} {o t f G d F:Nat} {cs:ip i6} (ah:es C=some z) (hO:gK w B e z (.S g 0 n c) n vs) (O:gh Y x=some (.S g o f G)) (Q:gh Y y=some (.S b t d F))
  (D:cs.length=min d f*z) (ae:∀j u,cs[j]? =some u->gc w b (t+j) u) (aj:o+cs.length<=n*z) (h1:∀u∈cs,u.oneCell'=true)
  (h:∀w',gK w' B e z (.S g 0 n c) n (vs.take o++cs++vs.drop (o+cs.length))->Fr (· =g) w w'->xs prog fD fC hs H full K ii (put Y dst (goInt (min d f))) w') (hH:∀w',Fr (· =g) w w'->H w':=by intros;trivial):
  xs prog fD fC hs H full K (⟨dst,.call {callee:= .builtin .copy,args:=⟨[x,y]⟩,argTypes:=⟨[C,qe7]⟩},R,pos,af,none⟩::ii) Y w:=by
 obtain⟨el,i,hu,Z,ag⟩:=mY ah;obtain⟨h3,U⟩:=hO;rcases U with⟨m,_⟩|⟨ai,cap,cur,m,qb6,N,I,V,J,T⟩
 .cases m
 injection m with m _ S
 injection m with m
 injection m with m
 subst m;subst S;have ak:n*z<=c*z:=qz z I;have X:cur.toList.length=cur.size:=py;have aa:=run_firstCells_some (P:=prog) w z (min d f) ⟨b,t,none⟩ d F cs D (λj u hu=>by rw[nE];exact ae j u hu);have E:=run_storeCells_at (P:=prog) g o e cs 0 cur w N (by rw[kB,J];omega) h1;rw[kB]at E;generalize M:(cur.toList.take o++cs++cur.toList.drop (o+cs.length)).toArray=nw at E;have L:Fr (· =g) w (w.setRow g nw):=⟨rfl,rfl,rfl,by simp[World.setRow],λk hk D=>by simp only[World.setRow,tP];rw[if_neg (λe=>D e.symm)]⟩
 have W:fW (w.setRow g nw) g e nw:=by
  unfold fW;simp[World.setRow,tP,N]
 have ad:(Builtin.copy_ #[C,qe7] R #[.S g o f G,.S b t d F]).run prog w= .ok (goInt (min d f)) (w.setRow g nw):=by
  have ab:Nat.min d f=min d f:=rfl;simp[Builtin.copy_,run_underlying hu,Builtin.lenOf,sizeOf,typeInfo,Z,ag,ab,aa,E]
  congr 1
  omega
 refine xw (v:=goInt (min d f)) (w':=w.setRow g nw) (by simp[gd,Op.operands,Call.operands,O,Q]) fx ?_ (h _ ⟨?_,.inr ⟨g,c,nw,rfl,qb6,W,I,V,?_,?_⟩⟩ L) (hH _ L)
 .simp[execOp,resolve,invoke,builtin,fR O,fR Q,ad]
 .rw[ib,ib,kv,lY,h3];omega
 .rw[<-M,nK,ib,ib,kv,lY,X,J];omega
 .rw[<-M,<-T,IP,show min o (n*z)=o from by omega,kF,kF];show(cur.toList.take o++(cs++cur.toList.drop (o+cs.length))).take (n*z)=_
  rw[RS,kv,p8 (i:=n*z) (by rw[kv];omega),RS,p8 (i:=n*z-min o cur.toList.length) (l:=cs) fy,List.drop_take]
  congr 3
  omega
def afu {m:i9} {z:i6} {kn:kw} {size bytes k cap off:Nat} {s:i7} {olds:ip i6} {F:Int} (I:x4 t e z size bytes) (T:prog.underlying m=some (.int kn)) (g:z.cells.size=size) (S:0<size) (D:gh Y s=some (.S b off n cap)) (f:olds.length=n*size) (O:∀j u,olds[j]? =some u->gc w b (off+j) u) (E:gh Y x=some (.I F)) (hk:F=k)
  (h0:0<k) (C:cap<n+k) (y:n+k<=maxLen) (L:(n+k)*bytes<=140737488355328)
  (h:∀G w' zs,gK w' w.heap.size e size G (n+k) (olds++zs)->zs.length=k*size->Ext w w'->xs prog fD fC hs H full K ii ((d,G)::Y) w') (hH:∀w',Ext w w'->H w':=by intros;trivial):
  xs prog fD fC hs H full K (⟨some d,.call {callee:= .builtin .append,args:=⟨[s,x]⟩,argTypes:=⟨[t,m]⟩},R,pos,af,none⟩::ii) Y w:=by
 subst hk;obtain⟨hu,i,hi,U,qe8,J⟩:=I;subst qe8;subst J;have V:n+k<=9223372036854775807:=y;have hold:=run_firstCells_some (P:=prog) w.drew i.size n ⟨b,off,none⟩ n cap olds f (λj u hu=>by rw[nE];exact O j u hu);have W:k*i.bytes<=(n+k)*i.bytes:=qz _ fy;have Q:=Lib.run_append_grow_zeros (P:=prog) w t m R e i z .i64 kn hu T hi U (some ⟨b,off,none⟩) n cap olds hold k h0 S C fy fy (growslice_fits C L);have hlen:(olds++(Builtin.zeroCells z.cells k).toList).length=(n+k)*i.size:=by rw[ib,f,py,size_zeroCells,g,oA]
 have N:=grownCap_ge w (n+k) cap e;have M:grownCap w (n+k) cap e<=maxLen:=grownCap_le_maxLen w (n+k) cap e y;have B:Ext w (w.drew.alloc (.cells (olds.toArray++Builtin.zeroCells z.cells k++Builtin.zeroCells z.cells (grownCap w (n+k) cap e-(n+k))) e)):=(Fr.drew hJ w).t (Fr.alloc _ _ _);refine xw (by simp[gd,Op.operands,Call.operands,D,E]) fx (v:= .S w.heap.size 0 (n+k) (grownCap w (n+k) cap e)) (w':=_) ?_ (h _ _ (Builtin.zeroCells z.cells k).toList ⟨hlen,.inr ⟨w.heap.size,_,_,rfl,gJ _,heap_alloc_new w.drew _,N,M,?_,?_⟩⟩ (by rw[py,size_zeroCells,g]) B) (hH _ B)
 .simp[execOp,resolve,invoke,builtin,fR D,fR E,Q]
 .simp only[IN,nK,size_zeroCells,g,f,<-oA]
  congr 1
  omega
 .have e:∀(b c:Array i6),(olds.toArray++b++c).toList=(olds++b.toList)++c.toList:=λb c=>by simp
  rw[e,<-hlen];exact vr
def Yd {d:i9} {cs nw:Array i6} (f:fW w g d cs) (B:gh Y x=some (.pointer (some ⟨g,q,none⟩))) (C:gh Y y=some (.agg vs.toArray)) (ht:get kA t=some vs.length) (hi:q+vs.length<=cs.size) (h1:∀u∈vs,u.oneCell'=true) (m:nw=(cs.toList.take q++vs++cs.toList.drop (q+vs.length)).toArray)
  (h:∀w',fW w' g d nw->Fr (· =g) w w'->xs prog fD fC hs H full K ii Y w') (hH:∀w',Fr (· =g) w w'->H w':=by intros;trivial):xs prog fD fC hs H full K (⟨none,.store t x y,R,pos,af,none⟩::ii) Y w:=by
 obtain⟨_,it,D,E⟩:=kJ ht;refine gW fx (by simp[gd,Op.operands,B,C]) ?_;have v:=run_storeCells_at (P:=prog) g q d vs 0 cs w f fy h1;rw[kB,<-m]at v;have n:Fr (· =g) w (w.setRow g nw):=⟨rfl,rfl,rfl,by simp[World.setRow],λk hk m=>by simp only[World.setRow,tP];rw[if_neg (λe=>m e.symm)]⟩
 have F:fW (w.setRow g nw) g d nw:=by
  unfold fW at f|-;simp[World.setRow,tP,f]
 show out prog ((execOp (ev Y) ⟨none,.store t x y,R,pos,af,none⟩).run prog w) _
 have e:(execOp (ev Y) ⟨none,.store t x y,R,pos,af,none⟩).run prog w= .ok .skip (w.setRow g nw):=by
  simp[execOp,fR B,fR C,Instr.storeAt,Instr.sureAddr,storeVar,Value.cells,sizeOf,typeInfo,D,E,v]
 rw[e];exact⟨hH _ n,h _ F n⟩
section
attribute [local irreducible] xs T
def qV (x:gG):ip i6:=[.I x.n.mode,.I x.n.uid,.I x.n.gid,.I x.n.time,x.va,x.vc]
def IQ (n:Int):v8 n=true↔0<=n/\n<=2147483647:=by simp only[v8,iU,decide_eq_true_eq]
def sw (a:xB):j4 a=true↔1<=(a.name.length:Int)/\(a.name.length:Int)<=20/\(a.value.length:Int)<=200:=by
 simp only[j4,iU,decide_eq_true_eq];omega
def nW (w:i5) (n:Int):fQ prog 153 #[.I n] w λr w'=>r= .bool (v8 n)/\w=w':=by
 refine gD func153 fx fE ?_
 repeat' (first|refine fT ?_|refine lj fx fx (λhc=>?_) (λhc=>?_)|refine lg fx fx (λhc=>?_) (λhc=>?_)|refine lq fx fx (λhc=>?_) (λhc=>?_)|refine lh fx fx (λhc=>?_) (λhc=>?_)|refine lv fx fx (λhc=>?_) (λhc=>?_)|refine lf fx fx (λhc=>?_) (λhc=>?_)|fail)
 all_goals first|exact fB rfl rfl ⟨pe (IQ n) fy,rfl⟩|exact fB rfl rfl ⟨pt (IQ n) fy,rfl⟩
def u7 (w:i5) (a:xB):fQ prog 154 #[.agg (jO a).toArray] w λr w'=>r= .bool (j4 a)/\Ext w w':=by
 refine gD func154 fx fE ?_;refine fA ?_;refine hP fx (λd m g n=>?_);have f:fW d w.heap.size 68 #[.U a.name,.U a.value]:=m;have k0:gc d w.heap.size 0 (.U a.name):=f.cell 0;have k1:gc d w.heap.size 1 (.U a.value):=f.cell 1
 repeat' (first|refine ie fx fx ?_|refine iE fx fx ?_|refine fT ?_|refine lj fx fx (λhc=>?_) (λhc=>?_)|refine lg fx fx (λhc=>?_) (λhc=>?_)|refine lq fx fx (λhc=>?_) (λhc=>?_)|refine lh fx fx (λhc=>?_) (λhc=>?_)|refine lv fx fx (λhc=>?_) (λhc=>?_)|refine lf fx fx (λhc=>?_) (λhc=>?_)|fail)
 all_goals first|exact fB rfl rfl ⟨pe (sw a) fy,g⟩|exact fB rfl rfl ⟨pt (sw a) fy,g⟩
def Dl (n:Nd):hd n=(decide (0<=n.mode)&&decide (n.mode<=4095)&&v8 n.uid&&v8 n.gid&&decide (0<=n.time)&&(decide (n.attrs.length<=8)&&(jw j4 ki none n.attrs&&om n.acl))):=by
 rw[hd,rD];simp[L8]
def vU (w:i5) (x:gG) (R:im w x):fQ prog 91 #[.agg (qV x).toArray] w λr w'=>r= .bool (hd x.n)/\Ext w w':=by
 refine gD func91 fx fE ?_;rw[Dl];refine fA ?_;refine hP fx (λf W B ag=>?_);have D:fW f w.heap.size 34 #[.I x.n.mode,.I x.n.uid,.I x.n.gid,.I x.n.time,x.va,x.vc]:=W;obtain⟨A,c,V,X,ae,L⟩:=R.a.op jX;have k0:gc f w.heap.size 0 (.I x.n.mode):=D.cell 0;have k1:gc f w.heap.size 1 (.I x.n.uid):=D.cell 1;have k2:gc f w.heap.size 2 (.I x.n.gid):=D.cell 2;have k3:gc f w.heap.size 3 (.I x.n.time):=D.cell 3;have k4:f.cell? ⟨w.heap.size,4,none⟩=some (.slice A x.n.attrs.length c):=by rw[<-V];exact D.cell 4
 refine fA ?_
 by_cases h0:¬0<=x.n.mode
 .refine jh ?_;refine fA ?_;exact fB fx fx ⟨by simp[h0],B⟩
 have h0:0<=x.n.mode:=fy
 by_cases h1:¬x.n.mode<=4095
 .refine jh ?_;refine fA ?_;exact fB fx fx ⟨by simp[h1],B⟩
 have h1:x.n.mode<=4095:=fy;cases hu:v8 x.n.uid with
 |false=>
  refine jh ?_;refine fA ?_;refine fH fx fx (nW f x.n.uid) (λr v g=>?_);obtain⟨rfl,rfl⟩:=g;rw[hu];refine fA ?_;exact fB fx fx ⟨by simp,B⟩
 |true=>
 cases I:v8 x.n.gid with
 |false=>
  refine jh ?_;refine fA ?_;refine fH fx fx (nW f x.n.uid) (λr v g=>?_);obtain⟨rfl,rfl⟩:=g;rw[hu];refine fA ?_;refine fH fx fx (nW f x.n.gid) (λr v g=>?_);obtain⟨rfl,rfl⟩:=g;rw[I];refine fA ?_;exact fB fx fx ⟨by simp,B⟩
 |true=>
 by_cases h3:¬0<=x.n.time
 .refine jh ?_;refine fA ?_;refine fH fx fx (nW f x.n.uid) (λr v g=>?_);obtain⟨rfl,rfl⟩:=g;rw[hu];refine fA ?_;refine fH fx fx (nW f x.n.gid) (λr v g=>?_);obtain⟨rfl,rfl⟩:=g;rw[I];refine fA ?_;exact fB fx fx ⟨by simp[h3],B⟩
 have h3:0<=x.n.time:=fy;rw[decide_eq_true h0,decide_eq_true h1,decide_eq_true h3,iV,iV,iV,iV,iV]
 by_cases G:¬x.n.attrs.length<=8
 .refine jh ?_;refine fA ?_;refine fH fx fx (nW f x.n.uid) (λr v g=>?_);obtain⟨rfl,rfl⟩:=g;rw[hu];refine fA ?_;refine fH fx fx (nW f x.n.gid) (λr v g=>?_);obtain⟨rfl,rfl⟩:=g;rw[I];refine fA ?_;exact fB fx fx ⟨by simp[G],B⟩
 have G:x.n.attrs.length<=8:=fy;rw[decide_eq_true G,iV];obtain⟨l,Z⟩:∃l,l=x.n.attrs:=⟨_,rfl⟩;rw[<-Z]at G L X k4|-;refine iq (α:=Nat) 0 fx (λi=>[(1,.P w.heap.size),(3,.I (i:Int))]) (λi w'=>Ext f w'/\i<=l.length/\jw j4 ki (h6 l i) (l.drop i)=jw j4 ki none l) (λi=>l.length-i) ?_ ?_
 .rintro i v ⟨E,hi,m⟩;have m4:gc v w.heap.size 4 (.slice A l.length c):=E.cell k4;have ah:gc v.drew w.heap.size 4 (.slice A l.length c):=m4;have m5:gc v w.heap.size 5 x.vc:=(D.ext E).cell 5
  by_cases fY:i<l.length
  .obtain⟨b,o,y,rfl,_,ab,af,O⟩:=L.at_ fY;rw[qj ab]at m;have ad:∀j u,(jO y)[j]? =some u->gc v.drew b (o+i*2+j) u:=λj u hu=>E.cell (B.cell (O j u hu))
   refine zD ?_;refine hV (cs:=jO y) fx fx ad ?_;refine fH fx fx (u7 v.drew y) (λr F h3=>?_);obtain⟨rfl,M⟩:=h3;have C:Ext f F:=E.d.t M;cases Q:j4 y with
   |false=>
    rw[Q,hW,hW]at m;refine fA ?_;exact fB fx fx ⟨by rw[<-m];rfl,B.t C⟩
   | true=>
    rw[Q,iV]at m;cases i with
    |zero=>
     have m:jw j4 ki (h6 l (0+1)) (l.drop (0+1))=jw j4 ki none l:=by simpa[h6]using m
     refine fA ?_;exact hy fx ⟨_,(by show l.length-(0+1)<l.length-0;omega),rfl,0+1,sub ⟨rfl,rfl⟩,⟨C,fy,m⟩,rfl⟩
    | succ k=>
     obtain⟨z,S⟩:∃z,l[k]? =some z:=⟨_,j9 fy⟩;have aa:h6 l (k+1)=some z:=S;rw[aa]at m;dsimp only at m;obtain⟨b',o',ak,e',_,K,_,Y⟩:=L.at_ (i:=k) fy;injection e' with e'
     injection e' with T U
     subst T;subst U;rw[S]at K;injection K with K
     subst K;have aj:gc F w.heap.size 4 (.S b o l.length c):=C.cell k4;have n1:gc F b (o+k*2+0) (.U z.name):=C.cell (B.cell (Y 0 _ rfl));have ai:gc F b (o+(k+1)*2+0) (.U y.name):=C.cell (B.cell (O 0 _ rfl));cases J:ki z y with
     |false=>
      rw[J,hW]at m;have N:Op.bytesLess z.name y.name=false:=J
      repeat' (first|refine gH k (o+k*2) fx fx fx fy fx fy ?_|refine gH (k+1) (o+(k+1)*2) fx fx fx fx fx fY ?_|refine gk (op:= .geq) (r:=true) fx fx (by rw[hG,N];rfl) ?_|refine fT ?_|fail)
      exact fB fx fx ⟨by rw[<-m];rfl,B.t C⟩
     |true=>
      rw[J,iV]at m;have N:Op.bytesLess z.name y.name=true:=J
      repeat' (first|refine gH k (o+k*2) fx fx fx fy fx fy ?_|refine gH (k+1) (o+(k+1)*2) fx fx fx fx fx fY ?_|refine gk (op:= .geq) (r:=false) fx fx (by rw[hG,N];rfl) ?_|refine fT ?_|fail)
      exact hy fx ⟨_,(by show l.length-(k+1+1)<l.length-(k+1);omega),rfl,k+1+1,sub ⟨rfl,rfl⟩,⟨C,fy,m⟩,rfl⟩
  .obtain rfl:i=l.length:=fy;rw[jP]at m;rw[<-m];refine fA ?_;refine fI fx fx (Hw v x.vc x.n.acl (R.c.ext (B.t E))) (λr F h3=>?_);obtain⟨rfl,M⟩:=h3;refine fA ?_;exact fB fx fx ⟨by simp[jw],B.t (E.t M)⟩
 .intro H;refine fA ?_;refine fH fx fx (nW f x.n.uid) (λr v g=>?_);obtain⟨rfl,rfl⟩:=g;rw[hu];refine fA ?_;refine fH fx fx (nW f x.n.gid) (λr v g=>?_);obtain⟨rfl,rfl⟩:=g;rw[I];refine fA ?_;refine hI ?_;exact iw (H 0 f ⟨Fr.refl _ _,iF _,rfl⟩) (sub ⟨rfl,rfl⟩)
end
section
def ac8 {t u:i9} (f:gh Y x=some (.float .f64 a)) (g:gh Y y=some (.float .f64 b))
  (h:xs prog fD fC hs gS full K ii ((d,.complex .f64 a b)::Y) w):xs prog fD fC hs gS full K (⟨some d,.call {callee:= .builtin .complex,args:=⟨[x,y]⟩,argTypes:=⟨[t,u]⟩},R,pos,af,none⟩::ii) Y w:=by
 refine xw (v:= .complex .f64 a b) (w':=w) (by simp[gd,Op.operands,Call.operands,f,g]) fx ?_ h True.intro;simp[execOp,resolve,invoke,builtin,fR f,fR g,run_complex]
def O9 {t:i9} (f:gh Y x=some (.complex .f64 a b))
  (h:xs prog fD fC hs gS full K ii ((d,.float .f64 a)::Y) w):xs prog fD fC hs gS full K (⟨some d,.call {callee:= .builtin .real,args:=⟨[x]⟩,argTypes:=⟨[t]⟩},R,pos,af,none⟩::ii) Y w:=by
 refine xw (v:= .float .f64 a) (w':=w) (by simp[gd,Op.operands,Call.operands,f]) fx ?_ h True.intro;simp[execOp,resolve,invoke,builtin,fR f,run_real]
def Wv {t:i9} (f:gh Y x=some (.complex .f64 a b))
  (h:xs prog fD fC hs gS full K ii ((d,.float .f64 b)::Y) w):xs prog fD fC hs gS full K (⟨some d,.call {callee:= .builtin .imag,args:=⟨[x]⟩,argTypes:=⟨[t]⟩},R,pos,af,none⟩::ii) Y w:=by
 refine xw (v:= .float .f64 b) (w':=w) (by simp[gd,Op.operands,Call.operands,f]) fx ?_ h True.intro;simp[execOp,resolve,invoke,builtin,fR f,run_imag]
def X7 {k:kw} {g:Int} (n:Nat) (f:gh Y x=some (.int k g)) (m:g=n)
  (h:xs prog fD fC hs gS full K ii ((d,.float .f64 (fw n))::Y) w):xs prog fD fC hs gS full K (⟨some d,.convert 2 227 x,R,pos,af,none⟩::ii) Y w:=by
 subst m;refine xw (v:= .float .f64 (fw n)) (w':=w) (by simp[gd,Op.operands,f]) fE ?_ h True.intro;simp[execOp,fR f,run_convert_int_float (P:=prog) w 2 227 k .f64 (n:Int) (by rw[underlying2];rfl) underlying227,floatOfInt,fw]
def aaW (f:gh Y x=some (.float .f64 (fw n))) (m:n<=1099511627776)
  (h:xs prog fD fC hs gS full K ii ((d,.I (n:Int))::Y) w):xs prog fD fC hs gS full K (⟨some d,.convert 227 2 x,R,pos,af,none⟩::ii) Y w:=by
 refine xw (v:= .I (n:Int)) (w':=w) (by simp[gd,Op.operands,f]) fE ?_ h True.intro
 have g:floatToIntVal .f64 (fw n) .i64=some (n:Int):=by
  unfold floatToIntVal;rw[Ra fy];dsimp only;rw[if_pos (by simp[IntKind.min,IntKind.max,IntKind.signed,IntKind.bits];omega)]
 simp[execOp,fR f,run_convert_float_int (P:=prog) w 227 2 .f64 .i64 (fw n) n (by rw[underlying227];rfl) underlying2 g]
def Oi {n:i9} (g:gh Y x=some (.float .f64 (fw a))) (m:gh Y y=some (.float .f64 (fw b))) (u:a<=1099511627776) (v:b<=1099511627776) {r:Bool} (f:decide (b<a)=r)
  (h:xs prog fD fC hs H full K ii ((d,.bool r)::Y) w):xs prog fD fC hs H full K (⟨some d,.binOp .gtr t x y n,R,pos,af,none⟩::ii) Y w:=by
 refine jE g m (by rfl) (λw'=>?_) h;have hc:(binOp .gtr t (.float .f64 (fw a)) (.float .f64 (fw b)))=pure (.bool (FloatKind.f64.format.order (fw a) (fw b)==some .gt)):=by simp[binOp,Op.floatCmp]
 rw[hc,zM fy fy,<-f];rcases zw a b with h|h|h
 .rw[DV.2 h,decide_eq_false fy];rfl
 .rw[Cf.2 h,decide_eq_false fy];rfl
 .rw[CF.2 h,decide_eq_true h];rfl
def KH {p:Addr} {v:i6} (f:gh Y x=some (.pointer (some p))) (hc:w.cell? p=some v)
  (h:xs prog fD fC hs H full K ii ((d,v)::Y) w) (hm:n4 hs (some d)=false:=by rfl):xs prog fD fC hs H full K (⟨some d,.load 157 x,R,pos,af,none⟩::ii) Y w:=by
 refine gW fx (by simp[gd,Op.operands,f]) ?_;have m:ja fD fC hs ⟨some d,.load 157 x,R,pos,af,none⟩= .r:=by simp[ja,cls,hm]
 rw[m];refine⟨v,?_,h⟩
 have g:(isAgg 157).run prog w= .ok false w:=by
  unfold isAgg;simp only[tg,run_underlying underlying157,tp];simp
 simp[execOp,fR f,Instr.loadAt,Instr.sureAddr,loadVar,g,load,Sem.run,hc]
def vL (p:hT):(kc p).toArray.all (·.oneCell')=true:=by simp[kc,Value.oneCell']
attribute [local irreducible] xs T
def QY:fw 1099511627776=4787326403894837248:=by decide+kernel
def zy (w:i5) (v:Int):fQ prog 164 #[.I v] w λr w'=>r= .I (min (max v 0) 1099511627776)/\w=w':=by
 refine gD func164 fx fE ?_;refine KJ ?_;exact y2
def CH (w:i5) (n:Nat) (d:n<=1099511627776):fQ prog 165 #[.float .f64 (fw n)] w λr w'=>r= .I (n:Int)/\w=w':=by
 refine gD func165 fx fE ?_;have em:∀Y:Env,gh Y (.const (.float .f64 4787326403894837248))=some (.float .f64 (fw 1099511627776)):=λY=>by rw[QY];rfl
 have f:∀Y:Env,gh Y (.const (.float .f64 0))=some (.float .f64 (fw 0)):=λY=>by rw[EZ];rfl
 by_cases h0:n=0
 .subst h0
  repeat' (first|refine Oi (r:=false) fx (em _) fy fy fU ?_|refine Oi (r:=false) fx (f _) fy fy fU ?_|refine fT ?_|fail)
  exact y2
 .repeat' (first|refine Oi (r:=false) fx (em _) d fy (decide_eq_false fy) ?_|refine Oi (r:=true) fx (f _) d fy (decide_eq_true fy) ?_|refine aaW fx d ?_|refine fT ?_|fail)
  exact y2
def yG (w:i5) (a l:Nat) (f:a<=1099511627776) (g:l<=1099511627776):fQ prog 100 #[.I (a:Int),.I (l:Int)] w λr w'=>r= .complex .f64 (fw a) (fw l)/\w=w':=by
 refine gP func100 fx fE ?_;refine fA ?_;refine fH fx fx (zy w a) (λr d h1=>?_);obtain⟨rfl,rfl⟩:=h1;rw[show min (max (a:Int) 0) 1099511627776=(a:Int)from by omega]
 repeat' (first|refine X7 a fx fx ?_|refine fT ?_|fail)
 refine fH fx fx (zy w l) (λr d h1=>?_);exact y28
def kP (w:i5) (a l:Nat) (d:a<=1099511627776):fQ prog 102 #[.complex .f64 (fw a) (fw l)] w λr w'=>r= .I (a:Int)/\w=w':=by
 refine gD func102 fx fE ?_
 repeat' (first|refine O9 fx ?_|refine fT ?_|fail)
 refine fH fx fx (CH w a d) (λr f h1=>?_);exact y8
def nc (w:i5) (a l:Nat) (d:l<=1099511627776):fQ prog 101 #[.complex .f64 (fw a) (fw l)] w λr w'=>r= .I (l:Int)/\w=w':=by
 refine gD func101 fx fE ?_
 repeat' (first|refine Wv fx ?_|refine fT ?_|fail)
 refine fH fx fx (CH w l d) (λr f h1=>?_);exact y8
def mS (w:i5) (a l:Nat) (d:a<=1099511627776) (f:l<=1099511627776):fQ prog 163 #[.complex .f64 (fw a) (fw l)] w λr w'=>r= .I ((a:Int)+l)/\w=w':=by
 refine gD func163 fx fE ?_;refine fA ?_;refine fH fx fx (kP w a l d) (λr g h1=>?_);obtain⟨rfl,rfl⟩:=h1;refine fA ?_;refine fH fx fx (nc w a l f) (λr g h1=>?_);exact y8
def qG (p:Nat×Nat):ip i6:=[.complex .f64 (fw p.1) (fw p.2)]
def n0 (p:Nat×Nat):(qG p).length=1:=rfl
def wv (size:Int):Int->ip (Nat×Nat)->Bool
 |last,[]=>decide (last<=size)
 |last,p::r=>decide (p.2≠0)&&decide (last<p.1)&&wv size ((p.1:Int)+p.2) r
def J3 (l:ip (Nat×Nat)):Prop:=∀p∈l,p.1<=1099511627776/\p.2<=1099511627776
def IG (w:i5) (v:i6) (l:ip (Nat×Nat)) (size:Int) (C:Rw qG w v l) (y:J3 l):fQ prog 156 #[v,.I size] w λr w'=>r= .bool (decide (0<=size)&&decide (size<=1099511627776)&&wv size (-1) l)/\w=w':=by
 refine gP func156 fx fE ?_;obtain⟨A,c,rfl,D,E,n⟩:=C.op n0
 by_cases h0:¬0<=size
 .refine fA ?_;exact fB fx fx ⟨by simp[h0],rfl⟩
 have h0:0<=size:=fy
 by_cases h1:¬size<=1099511627776
 .refine fA ?_;exact fB fx fx ⟨by simp[h1],rfl⟩
 have h1:size<=1099511627776:=fy;rw[decide_eq_true h0,decide_eq_true h1,iV,iV];refine fA ?_;refine gC (α:=Nat×Int) (λx=>[(1,.I size),(5,.I x.2),(14,.slice A l.length c),(15,.I (l.length:Int)),(16,.I (x.1:Int))]) (λx w'=>w=w'/\x.1<=l.length/\wv size x.2 (l.drop x.1)=wv size (-1) l) (λx=>l.length-x.1) (0,-1) (sub ⟨rfl,rfl,rfl,rfl,rfl⟩) ⟨rfl,iF _,rfl⟩ ?_;rintro⟨i,last⟩ m ⟨rfl,hi,d⟩;dsimp only at hi d|-
 by_cases fY:i<l.length
 .obtain⟨b,o,p,rfl,_,B,u,t⟩:=n.at_ fY;have f:=y p (jT B);have k0:=t 0 _ rfl;rw[oR,kB]at k0;rw[u,wv]at d;refine P9 ?_;refine fH fx fx (nc w p.1 p.2 f.2) (λr m h1=>?_);obtain⟨rfl,rfl⟩:=h1
  by_cases g0:p.2=0
  .rw[decide_eq_false (by simpa using g0),hW,hW]at d;exact y37
  rw[decide_eq_true (show p.2≠0 from g0),iV]at d;refine fA ?_;refine fH fx fx (kP w p.1 p.2 f.1) (λr m h1=>?_);obtain⟨rfl,rfl⟩:=h1
  by_cases g1:last<p.1
  .rw[decide_eq_true g1,iV]at d;refine fA ?_;refine fH fx fx (mS w p.1 p.2 f.1 f.2) (λr m h1=>?_);obtain⟨rfl,rfl⟩:=h1;refine fA ?_;exact gl ⟨(i+1,(p.1:Int)+p.2),sub ⟨rfl,rfl,rfl,rfl,rfl⟩,⟨rfl,by dsimp only;omega,d⟩,(by show l.length-(i+1)<l.length-i;omega)⟩
  .rw[decide_eq_false g1,hW]at d;exact y37
 .obtain rfl:i=l.length:=fy;rw[jP,wv]at d
  by_cases g:last<=size
  .rw[decide_eq_true g]at d;exact y37
  .rw[decide_eq_false g]at d;exact y37
theorem oa:∀{l:ip hT} {p:hT},p∈l->p.data.length<=fF l
 |[],p,h=>by simp at h
 |q::r,p,h=>by
  rw[fF];rcases iu.1 h with rfl|h
  .omega
  .have:=oa h;omega
theorem iK:∀(a b:ip hT),fF (a++b)=fF a+fF b
 |[],b=>by simp[fF]
 |p::a,b=>by rw[rf,fF,fF,iK a b];omega
def nA {l:ip hT} {p:hT} (h:l[i]? =some p):fF (l.take (i+1))=fF (l.take i)+p.data.length:=by
 rw[j2,h,wD,iK];simp[fF]
def sV (l:ip hT) (i:Nat):fF (l.take i)<=fF l:=by
 have:=iK (l.take i) (l.drop i);rw[mJ]at this;omega
def qv (w:i5) (x:gG) (R:im w x) (K:fF x.n.data<=1000000):fQ prog 88 #[.agg (gB x).toArray] w λr w'=>r= .I (fF x.n.data:Int)/\Ext w w':=by
 refine gD func88 fx fE ?_;refine fA ?_;refine hP fx (λm E y V=>?_);have D:fW m w.heap.size 37 (gB x).toArray:=E;obtain⟨A,c,C,L,S,v⟩:=R.d.op hB;have k8:m.cell? ⟨w.heap.size,8,none⟩=some (.slice A x.n.data.length c):=by rw[<-C];exact D.cell 8
 obtain⟨l,N⟩:∃l,l=x.n.data:=⟨_,rfl⟩;rw[<-N]at v L k8 K|-;refine fA ?_;refine gC (α:=Nat) (λi=>[(3,.I (fF (l.take i):Int)),(7,.slice A l.length c),(8,.I (l.length:Int)),(9,.I (i:Int))]) (λi w'=>Ext m w'/\i<=l.length) (λi=>l.length-i) 0 (sub ⟨rfl,rfl,rfl,rfl⟩) ⟨Fr.refl _ _,iF _⟩ ?_;rintro i f ⟨g,hi⟩
 by_cases fY:i<l.length
 .obtain⟨b,o,p,rfl,_,O,T,M⟩:=v.at_ fY;have Q:∀j u,(kc p)[j]? =some u->gc f b (o+i*2+j) u:=λj u hu=>g.cell (y.cell (M j u hu))
  have hle:=sV l (i+1);have X:=nA O;refine zD ?_;refine hV (cs:=kc p) fx fx Q ?_;refine gx (z:= .agg #[.I 0,.string ⟨#[]⟩]) fE (λY F H W=>?_);refine gY (cs:=(kc p).toArray) F fx fx fx fx (vL p) (λB G J=>?_);have I:Ext f B:=Ext.te H J λj U e=>by have e':j=f.heap.size:=e;omega
  have q1:gc B f.heap.size 1 (.U p.data):=G.cell 1;refine l4 ?_;exact gl ⟨i+1,sub ⟨km fy,rfl,rfl,rfl⟩,⟨g.t I,fy⟩,(by show l.length-(i+1)<l.length-i;omega)⟩
 .obtain rfl:i=l.length:=fy;refine fA ?_;exact fB fx fx ⟨by rw[kh],y.t g⟩
def jJ (l:ip hT):ip (Nat×Nat):=l.map λp=>(p.pos.toNat,p.data.length)
def mW:x4 154 157 (.complex .f64 0 0) 1 16:=Nq underlying154 fE
structure ExI (l:List hT) (w1:World) (x:Nat×Value) (w:World):Prop where
 i:x.1<=l.length
 own:Ow qG 1 w w1.heap.size 157 x.2 (jJ (l.take x.1))
 ext:Ext w1 w
def uP (w:i5) (x:gG) (ah:im w x) (K:x.n.data.all j3=true) (X:fF x.n.data<=1000000) (ad:x.n.data.length<=1000):fQ prog 99 #[.agg (gB x).toArray] w λr w'=>Ow qG 1 w' w.heap.size 157 r (jJ x.n.data)/\Ext w w':=by
 refine gD func99 fx fE ?_;refine fA ?_;refine hP fx (λB R D an=>?_);have Q:fW B w.heap.size 37 (gB x).toArray:=R;obtain⟨A,c,N,Y,ak,G⟩:=ah.d.op hB;have k8:B.cell? ⟨w.heap.size,8,none⟩=some (.slice A x.n.data.length c):=by rw[<-N];exact Q.cell 8
 obtain⟨l,ab⟩:∃l,l=x.n.data:=⟨_,rfl⟩;rw[<-ab]at G Y k8 X K ad|-;refine fA ?_;refine gC (α:=Nat×i6) (λy=>[(3,y.2),(7,.slice A l.length c),(8,.I (l.length:Int)),(9,.I (y.1:Int))]) (ExI l B) (λy=>l.length-y.1) (0,.slice none 0 0) (sub ⟨rfl,rfl,rfl,rfl⟩) ⟨iF _,Ow.nil _ _ _,Fr.refl _ _⟩ ?_;rintro⟨i,v⟩ m ⟨hi,g,f⟩;dsimp only at hi g f|-
 by_cases fY:i<l.length
 .obtain⟨b,o,p,rfl,_,L,al,Z⟩:=G.at_ fY;have ag:∀j u,(kc p)[j]? =some u->gc m b (o+i*2+j) u:=λj u hu=>f.cell (D.cell (Z j u hu))
  have hm:=jT L;have J:=ld.1 K p hm;simp only[j3,iU,decide_eq_true_eq]at J;have hlen:=oa hm;obtain⟨a,I⟩:=lZ J.1.2;refine zD ?_;refine hV (cs:=kc p) fx fx ag ?_;refine gx (z:= .agg #[.I 0,.string ⟨#[]⟩]) fE (λar S U ao=>?_);refine gY (cs:=(kc p).toArray) S fx fx fx fx (vL p) (λC H V=>?_);have E:Ext m C:=Ext.te U V λj aa e=>by have e':j=m.heap.size:=e;omega
  have q0:C.cell? ⟨m.heap.size,0,none⟩=some (.I (a:Int)):=by rw[<-I];exact H.cell 0
  have q1:gc C m.heap.size 1 (.U p.data):=H.cell 1;refine l4 ?_;refine fH fx fx (yG C a p.data.length fy fy) (λr ai O=>?_);obtain⟨rfl,rfl⟩:=O;refine fA ?_;refine FG (vs:=qG (a,p.data.length)) mW fx fx fU fU (λu hu=>by rw[jS.1 hu];rfl) (λai T F ap=>?_);have am:(jJ (l.take i)).length=i:=by simp[jJ];omega
  refine jH (news:=qG (a,p.data.length)) mW fx fU fx (gK.ext g (E.t F)) fx (gQ T fU fx) fx (λu hu=>by rw[jS.1 hu];rfl) (by unfold maxLen;omega) fy (by have:=f.size;have:=E.size;have:=F.size;omega) (λM aj ae W aq=>?_)
  have af:Ow qG 1 aj B.heap.size 157 M (jJ (l.take (i+1))):=by
   have e:jJ (l.take (i+1))=jJ (l.take i)++[(a,p.data.length)]:=by
    unfold jJ;rw[j2,L,wD,pw,Wx,I];rfl
   rw[e];exact Ow.ext1 (l':=[(a,p.data.length)]) (by simpa using ae)
  refine fA ?_;exact gl ⟨(i+1,M),sub ⟨rfl,rfl,rfl,rfl⟩,⟨by dsimp only;omega,af,Ext.te (f.t (E.t F)) W λj aa e=>by have:=(g.gO e).1;omega⟩,(by show l.length-(i+1)<l.length-i;omega)⟩
 .obtain rfl:i=l.length:=fy;rw[kh]at g;refine fA ?_;exact fB fx fx ⟨g.mono D.size,D.t f⟩
