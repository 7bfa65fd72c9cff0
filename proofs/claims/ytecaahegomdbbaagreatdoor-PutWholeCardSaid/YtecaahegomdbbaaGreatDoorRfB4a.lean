/- Parts of the proof. -/
import Derived.Laws.AppendOwn
import Derived.Laws.CopyRow
import Derived.Lib.AppendZerosOnto
import Derived.Test.YtecaahegomdbbaaGreatDoorRfB1
import Derived.Test.YtecaahegomdbbaaGreatDoorRfWd
set_option linter.all false
set_option maxRecDepth 100000
set_option maxHeartbeats 64000000
namespace Go.Proofs.YtecaahegomdbbaaGreatDoor.gp
open Go.Proofs.Tryz
open Go.RowKit
variable {af:Array Edge} {full:Array Oper} {env:Env} {K:Env->World->Prop} {hs:List Nat} {rest:List Oper} {vs:List Value} {B a b c g i n q z:Nat} {p x y:Operand} {dst:Option Tmp} {pos:String} {d:Tmp} {e t ty:TypeId} {w:World} {H:World->Prop}
section
theorem Dk {α:Type} {p q:α->Bool} (d:∀x,p x=true->q x=true):∀l:List α,(∃x∈l,q x=true/\p x=false)->l.countP p<l.countP q
 |[],h=>by grind
 | y::l,h=>by
  obtain⟨x,a,h1,f⟩:=h;rw[GJ,GJ];have hle:l.countP p<=l.countP q:=VJ λx _=>d x
  rcases hX.1 a with rfl|a
  ·grind
  ·have g:=Dk d l ⟨x,a,h1,f⟩
   grind
def xt (O:List En) (x:En):Nat:=O.countP λy=>ie y.path x.path
theorem Ki {O:List En} {x:En} (a:x∈O) (y:En):ie x.path y.path=true↔xt O x<xt O y:=by
 unfold ie;constructor
 ·intro h;exact Dk (by grind [ie,lL]) O ⟨x,a,h,sa _⟩
 ·intro h;cases e:iV (fZ x.path) (fZ y.path)with
  |true=>rfl
  |false=>
   have:xt O y<=xt O x:=VJ (by grind [ie,C3,fZ]);omega
def DL (l:List En):List Tg:=l.zipIdx.map λp=>(p.2,p.1)
theorem Aj (l:List En):(DL l).map Prod.snd=l:=by
 unfold DL;rw[sH];have:(Prod.snd∘λp:En×Nat=>(p.2,p.1))=Prod.fst:=rfl
 simp_all
theorem Pd (l:List En) (c:Tg->Int):(DL l).Pairwise (xW c):=by
 unfold DL;rw[zd]
 have:∀(l:List En) (k:Nat),(l.zipIdx k).Pairwise λa b=>a.2<b.2:=by
  intro l
  induction l with
  |nil=>simp_all
  |cons x l d=>
   grind [List.zipIdx_cons,List.pairwise_cons,List.le_snd_of_mem_zipIdx]
 exact(this l 0).imp (by grind [xW])
theorem JV (w:World) (a b:En):fL prog 85 #[.agg (hI a).toArray,.agg (hI b).toArray] w λr w'=>Ext w w'/\∃z,r= .int .i64 z/\(z<0↔ie a.path b.path=true):=by
 refine gK func85 fx fF ?_;refine fA ?_;refine hD fx (λg y C F=>?_);have k1:g.cell? ⟨w.heap.size,0,none⟩=some (.string (su a.path)):=fU.cell y 0;refine fA ?_;refine hD fx (λm B s G=>?_);have k2:m.cell? ⟨g.heap.size,0,none⟩=some (.string (su b.path)):=fU.cell B 0;have k3:m.cell? ⟨w.heap.size,0,none⟩=some (.string (su a.path)):=s.cell k1;refine fA ?_;refine fG fx fx (sA m a.path b.path) (λr d v=>?_);obtain⟨rfl,f⟩:=v;have n:Ext w d:=C.t (s.t f);cases D:ie a.path b.path with
 |true=>
  refine fA ?_;exact fB fx fx fS
 | false=>
  have k4:d.cell? ⟨w.heap.size,0,none⟩=some (.string (su a.path)):=f.cell k3;have k5:d.cell? ⟨g.heap.size,0,none⟩=some (.string (su b.path)):=f.cell k2;refine fA ?_;refine fG fx fx (sA d b.path a.path) (λr H x=>?_);obtain⟨rfl,u⟩:=x;cases E:ie b.path a.path with
  |true=>
   refine fA ?_;exact fB fx fx ⟨n.t u,_,rfl,by simp⟩
  |false=>
   refine fA ?_;exact fB fx fx ⟨n.t u,_,rfl,by simp⟩
theorem Oc (O:List En) (g:Nat) (w:World):pw g w 85 #[] (λx=>x.2∈O) (λx=>(xt O x.2:Int)):=by
 refine⟨by kernel_rfl,λw' _ x y a d=>?_⟩;refine(JV w' x.2 y.2).mono ?_
 grind [Ki]
theorem iZ:xv 23 49 (.agg #[.string ⟨#[]⟩,.int .i64 0]) 2 24:=M7 underlying23 fF
theorem yk:xv 31 68 (.agg #[.string ⟨#[]⟩,.string ⟨#[]⟩]) 2 32:=M7 underlying31 fF
theorem Eu:xv 32 70 (.agg #[.int .i64 0,.int .i64 0,.int .i64 0]) 3 24:=M7 underlying32 fF
theorem kk:xv 35 39 (.agg #[.int .i64 0,.string ⟨#[]⟩]) 2 24:=M7 underlying35 fF
def tP:Array Value:= #[.int .i64 0,.int .i64 0,.int .i64 0,.int .i64 0,.int .i64 0,.slice none 0 0,.slice none 0 0,.int .i64 0,.slice none 0 0,.string ⟨#[]⟩,.int .i64 0,.int .i64 0]
theorem nx:xv 24 37 (.agg tP) 12 152:=M7 underlying24 fF
theorem mK (l:List En):∀u∈l.flatMap hI,u.oneCell'=true:=λu hu=>by
 obtain⟨x,_,a⟩:=yu.1 hu;simp only[hI,hX,sC,or_false]at a;rcases a with rfl|rfl<;>rfl
theorem yt (l:List xn):∀u∈l.flatMap jK,u.oneCell'=true:=λu hu=>by
 obtain⟨x,_,a⟩:=yu.1 hu;simp only[jK,hX,sC,or_false]at a;rcases a with rfl|rfl<;>rfl
theorem D4 (l:List Ac):∀u∈l.flatMap lh,u.oneCell'=true:=λu hu=>by
 obtain⟨x,_,a⟩:=yu.1 hu;simp only[lh,hX,sC,or_false]at a;rcases a with rfl|rfl|rfl<;>rfl
theorem lV (l:List hJ):∀u∈l.flatMap j5,u.oneCell'=true:=λu hu=>by
 obtain⟨x,_,a⟩:=yu.1 hu;simp only[j5,hX,sC,or_false]at a;rcases a with rfl|rfl<;>rfl
structure G0 (n:Nd):Prop where
 a:n.attrs.length<=1000000
 c:n.acl.length<=1000000
 d:n.data.length<=1000000
def NdF (B:Nat) (x:gG):Prop:=∀b,x.va.ownBlock=some b∨x.vc.ownBlock=some b∨x.vd.ownBlock=some b->B<=b
theorem ix.fr {S:Nat->Prop} {w w':World} {x:gG} {B:Nat} (h:ix w x) (g:NdF B x) (n:Fr S w w') (m:∀b,B<=b->¬S b):ix w' x:=⟨h.a.fr n λb f=>m b (g b (.inl f)),h.c.fr n λb f=>m b (g b (.inr (.inl f))),h.d.fr n λb f=>m b (g b (.inr (.inr f)))⟩
structure qH (w:World) (B:Nat) (x:gG):Prop where
 a:Ow jK 2 w B 68 x.va x.n.attrs
 c:Ow lh 3 w B 70 x.vc x.n.acl
 d:Ow j5 2 w B 39 x.vd x.n.data
theorem qH.in {x:gG} (h:qH w B x):ix w x:=⟨h.a.rw,h.c.rw,h.d.rw⟩
theorem qH.f {x:gG} (h:qH w B x):NdF B x:=λb g=>by
 rcases g with g|g|g
 ·exact(h.a.gH g).1
 ·exact(h.c.gH g).1
 ·exact(h.d.gH g).1
theorem qH.fr {S:Nat->Prop} {w w':World} {B:Nat} {x:gG} (h:qH w B x) (f:Fr S w w') (g:∀b,x.va.ownBlock=some b∨x.vc.ownBlock=some b∨x.vd.ownBlock=some b->¬S b):qH w' B x:=
 ⟨h.a.fr f fS,h.c.fr f fS,h.d.fr f fS⟩
theorem qH.ext {w':World} {x:gG} (h:qH w B x) (a:Ext w w'):qH w' B x:=h.fr a λ_ _ d=>d
theorem qH.mono {w:World} {B g:Nat} {x:gG} (h:qH w B x) (f:g<=B):qH w g x:=⟨h.a.mono f,h.c.mono f,h.d.mono f⟩
structure Er (w:World) (B:Nat) (ve vn:Value) (fK:List gG) (t:fY):Prop where
 e:Ow hI 2 w B 49 ve t.es
 n:Ow gz 12 w B 37 vn fK
 i:∀x∈fK,qH w B x
 m:fK.map (·.n)=t.ns
theorem Er.v {ve vn:Value} {fK:List gG} {t:fY} (h:Er w B ve vn fK t):nj w ve vn fK t:=⟨h.e.rw,h.n.rw,λx a=>(h.i x a).in,h.m⟩
theorem Er.ext {w w':World} {B:Nat} {ve vn:Value} {fK:List gG} {t:fY} (h:Er w B ve vn fK t) (a:Ext w w'):Er w' B ve vn fK t:=⟨h.e.ext a,h.n.ext a,λx d=>(h.i x d).ext a,h.m⟩
theorem Er.mono {w:World} {B d:Nat} {ve vn:Value} {fK:List gG} {t:fY} (h:Er w B ve vn fK t) (a:d<=B):Er w d ve vn fK t:=⟨h.e.mono a,h.n.mono a,λx f=>(h.i x f).mono a,h.m⟩
theorem DZ (w:World) (x:gG) (av:ix w x) (ap:G0 x.n):fL prog 87 #[.agg (gz x).toArray] w λr w'=>∃x',r= .agg (gz x').toArray/\qH w' w.heap.size x'/\x'.n=x.n/\Ext w w':=by
 refine gr func87 fx fF ?_;obtain⟨n,va,vc,vd⟩:=x;obtain⟨O,hc,R⟩:=av;obtain⟨la,lc,ld⟩:=ap;dsimp only at O hc R la lc ld⊢;obtain⟨U,c1,rfl,_,_,_⟩:=O.op jN;obtain⟨V,c2,rfl,_,_,_⟩:=hc.op jZ;obtain⟨W,c3,rfl,_,_,_⟩:=R.op ha;refine fA ?_;refine hD fx (λS ah N aB=>?_);refine fA ?_;refine gy (z:= .agg tP) fF (λJ ai E aC=>?_);have Z:fU J w.heap.size 37 (gz ⟨n,.slice U n.attrs.length c1,.slice V n.acl.length c2,.slice W n.data.length c3⟩).toArray:=fU.ext ah E;have k1:J.cell? ⟨w.heap.size,5,none⟩=some (.slice U n.attrs.length c1):=Z.cell 5;refine fA ?_;refine jI (B:=J.heap.size) (news:=n.attrs.flatMap jK) yk fx fV fx (gD.nil _ _ _ _) fx (Row.ext O (N.t E)) (gl jN _) (yt _) (by grind [maxLen]) fy (gJ _) (λv1 aw d am _=>?_);have F:Ext J aw:=am.mono λ_ _ h=>by cases h
 have I:∀{a b c:World} {g:Nat},Ext a b->Fr (· =g) b c->a.heap.size<=g->Ext a c:=λh1 ag aA=>h1.trans ag fS
 obtain⟨X,d1,rfl,_,_⟩:=d.form;rw[iC]at d;refine fA ?_;refine iq (fU.ext Z F) fx fx fF fx fx (λK aa G=>?_);have ae:Ext w K:=I (N.t (E.t F)) G (gJ _);have k2:K.cell? ⟨w.heap.size,6,none⟩=some (.slice V n.acl.length c2):=fU.cell aa 6;refine fA ?_;refine jI (B:=K.heap.size) (news:=n.acl.flatMap lh) Eu fx fV fx (gD.nil _ _ _ _) fx (Row.ext hc ae) (gl jZ _) (D4 _) (by grind [maxLen]) fy (gJ _) (λv2 ax s an _=>?_);have u:Ext K ax:=an.mono λ_ _ h=>by cases h
 obtain⟨B2,d2,rfl,_,_⟩:=s.form;rw[iC]at s;refine fA ?_;refine iq (fU.ext aa u) fx fx fF fx fx (λL ab y=>?_);have af:Ext w L:=I (ae.t u) y (gJ _);have k3:L.cell? ⟨w.heap.size,8,none⟩=some (.slice W n.data.length c3):=fU.cell ab 8;refine fA ?_;refine jI (B:=L.heap.size) (news:=n.data.flatMap j5) kk fx fV fx (gD.nil _ _ _ _) fx (Row.ext R af) (gl ha _) (lV _) (by grind [maxLen]) fy (gJ _) (λv3 ay D ao _=>?_);have f:Ext L ay:=ao.mono λ_ _ h=>by cases h
 obtain⟨Y,d3,rfl,_,_⟩:=D.form;rw[iC]at D;refine fA ?_;refine iq (fU.ext ab f) fx fx fF fx fx (λT ad C=>?_);have ak:Ext w T:=I (af.t f) C (gJ _);have aD:=N.size;have z2:=E.size;have z3:=F.size;have z4:=G.size;have z5:=u.size;have aE:=y.size;have aF:=f.size;have ne:∀{w':World} {B:Nat} {e:TypeId} {z m:Nat} {v:Value} {vs:List Value},gD w' B e z v m vs->w.heap.size<B->∀b,v.ownBlock=some b->¬b=w.heap.size:=λh fW b Q=>by have:=(h.gH Q).1;omega
 have aq:=((((d.fr G (ne d fy)).ext u).fr y (ne d fy)).ext f).fr C (ne d fy);have ar:=((s.fr y (ne s fy)).ext f).fr C (ne s fy);have au:=D.fr C (ne D fy);refine fA ?_
 have aj:fU T w.heap.size 37 (gz ⟨n,.slice X n.attrs.length d1,.slice B2 n.acl.length d2,.slice Y n.data.length d3⟩).toArray:=by
  simp only[iC]at ad;exact ad
 refine gM (t:=37) aj fx fx ?_;have M:fU T S.heap.size 37 (Value.agg tP).cells:=fU.fr (fU.ext (fU.fr (fU.ext (fU.fr (fU.ext ai F) G fy) u) y fy) f) C fy;refine fA ?_;refine hd M fx fx fF fx (fJ (l:=gz ⟨n,.slice X n.attrs.length d1,.slice B2 n.acl.length d2,.slice Y n.data.length d3⟩) fx) (λaz M H=>?_);have al:Ext w az:=I ak H fy;have ne':∀{w':World} {B:Nat} {e:TypeId} {z m:Nat} {v:Value} {vs:List Value},gD w' B e z v m vs->S.heap.size<B->∀b,v.ownBlock=some b->¬b=S.heap.size:=λh fW b Q=>by have:=(h.gH Q).1;omega
 refine fA ?_;exact Cn fx fx M fF ⟨⟨n,_,_,_⟩,rfl,⟨(aq.fr H (ne' d fy)).mono fy,(ar.fr H (ne' s fy)).mono fy,(au.fr H (ne' D fy)).mono fy⟩,rfl,al⟩
end
section
theorem Ph {α:Type} {a:α->List Value} (d:∀x,(a x).length=z) {l:List α} {L:List Value} (t:n=l.length) (s:L.take (n*z)=l.flatMap a) (hlen:n*z<=L.length) (hi:i<l.length) (x:α):
  (L.take (i*z)++a x++L.drop (i*z+z)).take (n*z)=(l.set i x).flatMap a:=by
 subst t;have u:l=l.take i++l[i]::l.drop (i+1):=by rw[←EJ hi,lv]
 have f:=gl d (l.take i);rw[kt,uk fy]at f;have m:=gl d (l.drop (i+1));rw[lH]at m
 have g:L=(l.take i).flatMap a++(a l[i]++((l.drop (i+1)).flatMap a++L.drop (l.length*z))):=by
  conv=>lhs;rw[←lv (l.length*z) L,s]
  conv=>lhs;arg 1;rw[u]
  rw[tO,wb,j7,j7]
 have h1:L.take (i*z)=(l.take i).flatMap a:=by rw[g,Mg fy,pG fy]
 have v:L.drop (i*z+z)=(l.drop (i+1)).flatMap a++L.drop (l.length*z):=by
  conv=>lhs;rw[g]
  rw[EP,yE fy,vD,f,show i*z+z-i*z=z from by omega,EP,yE (by rw[d];omega),vD,d,Ou,vU]
 grind [List.set_eq_take_append_cons_drop,List.length,List.length_append,Nat.add_mul,List.append_assoc,List.take_of_length_le]
theorem Le {α:Type} {d:α->List Value} (f:∀x,(d x).length=z) {l:List α} {x:α} (i:Nat) (hO:Ow d z w B e (.slice (some ⟨g,0,none⟩) n c) l) (M:gh env p=some (.pointer (some ⟨g,q,none⟩))) (N:gh env y=some (.agg (d x).toArray)) (hq:q=i*z) (ht:get ks t=some z) (h1:∀u∈d x,u.oneCell'=true) (hi:i<l.length)
  (h:∀w',Ow d z w' B e (.slice (some ⟨g,0,none⟩) n c) (l.set i x)->Fr (· =g) w w'->xs prog fD fC hs H full K rest env w') (hH:∀w',Fr (· =g) w w'->H w':=by intros;trivial):xs prog fD fC hs H full K (⟨none,.store t p y,ty,pos,af,none⟩::rest) env w:=by
 subst hq;obtain⟨_,it,E,F⟩:=kD ht;obtain⟨_,hO⟩:=hO;rcases hO with⟨a,_⟩|⟨O,cap,cur,a,L,v,G,I,R,Q⟩
 ·cases a
 injection a with a C D
 injection a with a
 injection a with a
 subst a;subst C;subst D;have hle:i*z+z<=l.length*z:=by rw[←qV];exact qk z hi
 have T:l.length*z<=c*z:=fS;refine gR fx (by grind [fX,Op.operands]) ?_;have m:=run_storeCells_at (P:=prog) g (i*z) e (d x) 0 cur w v (by rw[f];omega) h1;rw[kS,f]at m;generalize S:(cur.toList.take (i*z)++d x++cur.toList.drop (i*z+z)).toArray=cs at m;have s:Fr (· =g) w (w.setRow g cs):=⟨rfl,rfl,rfl,by simp[World.setRow],by grind [World.setRow]⟩
 have J:fU (w.setRow g cs) g e cs:=by
  unfold fU;simp[World.setRow,tw,v]
 show out prog ((execOp (ev env) ⟨none,.store t p y,ty,pos,af,none⟩).run prog w) _
 have e:(execOp (ev env) ⟨none,.store t p y,ty,pos,af,none⟩).run prog w= .ok .skip (w.setRow g cs):=by
  simp[execOp,fM M,fM N,Instr.storeAt,Instr.sureAddr,storeVar,Value.cells,sizeOf,typeInfo,E,F,f,m]
 rw[e];refine⟨hH _ s,h _ ?_ s⟩;unfold Ow;rw[mo];refine⟨by rw[gl f,mo],.inr ⟨g,c,cs,rfl,L,J,G,I,?_,?_⟩⟩<;>grind [gl,List.length_set,List.size_toArray,List.length_append,List.length_take,List.length_drop,Array.length_toList,Ph,List.length,Array.size]
theorem B8:∀(l:List Tg) (i q:Nat) (s:fQ) (o z:Int) (r:List Value),l[i]? =some (q,⟨s,o⟩)->(l.flatMap Bt++r).set (i*2+1) (.int .i64 z)=(l.set i (q,⟨s,z⟩)).flatMap Bt++r
 |[],i,_,_,_,_,_,h=>by simp at h
 |x::l,0,q,s,o,z,r,h=>by
  simp only[KQ,C2]at h;subst h;rfl
 | x::l,i+1,q,s,o,z,r,h=>by
  have d:=B8 l i q s o z r (by simpa using h)
  have a:((x::l).flatMap Bt++r).set ((i+1)*2+1) (.int .i64 z)= .string (su x.2.path):: .int .i64 x.2.node::((l.flatMap Bt++r).set (i*2+1) (.int .i64 z)):=by
   rw[show(i+1)*2+1=i*2+1+2 from by omega];rfl
  rw[a,d];rfl
theorem VM {zs:Nat} {k:Nat} {l:List Tg} {s:fQ} {o z:Int} (a:DB zs w g l) (f:gh env p=some (.pointer (some ⟨g,k,none⟩))) (m:gh env y=some (.int .i64 z)) (hk:k=i*2+1) (hi:l[i]? =some (q,⟨s,o⟩))
  (h:∀w',DB zs w' g (l.set i (q,⟨s,z⟩))->Fr (· =g) w w'->xs prog fD fC hs H full K rest env w') (hH:∀w',Fr (· =g) w w'->H w':=by intros;trivial):xs prog fD fC hs H full K (⟨none,.store 3 p y,ty,pos,af,none⟩::rest) env w:=by
 subst hk;obtain⟨r,u,a⟩:=a;have t:=gl EG l;have fW:=(j0.1 hi).1;refine iq a f m fF fx fS (λw' n d=>h w' ⟨r,by grind,?_⟩ d) hH
 grind [B8]
theorem Dw.op {A:Option Addr} {l:List Tg} (h:Dw w B (.slice A n c) l):n=l.length/\(l=[]∨∃g,A=some ⟨g,0,none⟩/\B<=g/\DB (c*2) w g l):=by
 obtain⟨a,d,e,_,_,h⟩:=h
 grind
end
section
theorem CG {α:Type} {a:α->List Value} {z:Nat} (d:∀x,(a x).length=z) {j:Nat} {u:Value} (g:j<z):∀{l:List α} {i:Nat} {x x':α},l[i]? =some x->a x'=(a x).set j u->(l.flatMap a).set (i*z+j) u=(l.set i x').flatMap a
 |[],i,x,x',h,_=>by simp at h
 |y::l,0,x,x',h,f=>by
  simp only[KQ,C2]at h;subst h;rw[td,iC,wb,List.set_append_left _ _ (by rw[d];exact g),Wi,wb,f]
 |y::l,i+1,x,x',h,f=>by
  rw[C8]at h;have m:=CG d g h f;rw[wb,Pu _ _ (by rw[d,qV];omega),List.set_cons_succ,wb,d,qV,show i*z+z+j-z=i*z+j from by omega,m]
theorem WM {α:Type} {d:α->List Value} (m:∀x,(d x).length=z) {l:List α} {x x':α} {u:Value} (i j:Nat) (hO:Ow d z w B e (.slice (some ⟨g,0,none⟩) n c) l) (M:gh env p=some (.pointer (some ⟨g,q,none⟩))) (O:gh env y=some u) (hq:q=i*z+j) (L:j<z) (ht:one t=true) (h1:u.oneCell'=true) (hi:l[i]? =some x) (N:d x'=(d x).set j u)
  (h:∀w',Ow d z w' B e (.slice (some ⟨g,0,none⟩) n c) (l.set i x')->Fr (· =g) w w'->xs prog fD fC hs H full K rest env w') (hH:∀w',Fr (· =g) w w'->H w':=by intros;trivial):xs prog fD fC hs H full K (⟨none,.store t p y,ty,pos,af,none⟩::rest) env w:=by
 subst hq;have fW:=(j0.1 hi).1;obtain⟨_,hO⟩:=hO;rcases hO with⟨a,_⟩|⟨Q,cap,cur,a,I,J,f,D,E,C⟩
 ·cases a
 injection a with a s v
 injection a with a
 injection a with a
 subst a;subst s;subst v;have hle:i*z+z<=l.length*z:=by rw[←qV];exact qk z fW
 have R:l.length*z<=c*z:=qk z f;refine iq J M O ht h1 (by simp only[decide_eq_true_eq];omega) (λw' F G=>h w' ?_ G) hH;unfold Ow;rw[mo];refine⟨by rw[gl m,mo],.inr ⟨g,c,_,rfl,I,F,f,D,?_,?_⟩⟩
 ·simp only[Vz];exact E
 ·rw[LV,List.take_set,C];exact CG m L hi N
theorem gD.grow {n':Nat} (h:gD w B e z (.slice (some ⟨g,0,none⟩) n c) n vs) (h1:n<=n') (d:n'<=c):∃r,gD w B e z (.slice (some ⟨g,0,none⟩) n' c) n' (vs++r):=by
 obtain⟨t,u⟩:=h;rcases u with⟨a,_⟩|⟨C,cap,cur,a,x,y,D,v,f,s⟩
 ·cases a
 injection a with a _ m
 injection a with a
 injection a with a
 subst a;subst m;have hle:n*z<=n'*z:=qk z h1;have F:n'*z<=c*z:=qk z d;have E:cur.toList.length=c*z:=by rw[pb];exact f
 refine⟨(cur.toList.take (n'*z)).drop (n*z),?_,.inr ⟨g,c,cur,rfl,x,y,d,v,f,?_⟩⟩
 ·rw[hQ,t,lH,kt];omega
 ·rw[←s];have:(cur.toList.take (n'*z)).take (n*z)=cur.toList.take (n*z):=by rw[Hm];congr 1;omega
  rw[←this,lv]
theorem S0 {s O:TypeId} {o m d E D:Nat} {cs:List Value} (ag:es s=some z) (hO:gD w B e z (.slice (some ⟨g,0,none⟩) n c) n vs) (M:gh env x=some (.slice (some ⟨g,o,none⟩) d E)) (N:gh env y=some (.slice (some ⟨b,m,none⟩) a D))
  (t:cs.length=min a d*z) (ad:∀j u,cs[j]? =some u->w.cell? ⟨b,m+j,none⟩=some u) (ai:o+cs.length<=n*z) (h1:∀u∈cs,u.oneCell'=true)
  (h:∀w',gD w' B e z (.slice (some ⟨g,0,none⟩) n c) n (vs.take o++cs++vs.drop (o+cs.length))->Fr (· =g) w w'->xs prog fD fC hs H full K rest (put env dst (goInt (min a d))) w') (hH:∀w',Fr (· =g) w w'->H w':=by intros;trivial):
  xs prog fD fC hs H full K (⟨dst,.call {callee:= .builtin .copy,args:=⟨[x,y]⟩,argTypes:=⟨[s,O]⟩},ty,pos,af,none⟩::rest) env w:=by
 obtain⟨el,i,hu,Y,ae⟩:=mL ag;obtain⟨S,T⟩:=hO;rcases T with⟨f,_⟩|⟨ah,cap,cur,f,X,L,F,U,G,R⟩
 ·cases f
 injection f with f _ Q
 injection f with f
 injection f with f
 subst f;subst Q;have aj:n*z<=c*z:=qk z F;have W:cur.toList.length=cur.size:=pb;have Z:=run_firstCells_some (P:=prog) w z (min a d) ⟨b,m,none⟩ a D cs t (λj u hu=>by rw[nf];exact ad j u hu);have C:=run_storeCells_at (P:=prog) g o e cs 0 cur w L (by rw[kS,G];omega) h1;rw[kS]at C;generalize J:(cur.toList.take o++cs++cur.toList.drop (o+cs.length)).toArray=nw at C;have I:Fr (· =g) w (w.setRow g nw):=⟨rfl,rfl,rfl,by simp[World.setRow],λk hk t=>by simp only[World.setRow,tw];rw[if_neg (λe=>t e.symm)]⟩
 have V:fU (w.setRow g nw) g e nw:=by
  unfold fU;simp[World.setRow,tw,L]
 have ab:(Builtin.copy_ #[s,O] ty #[.slice (some ⟨g,o,none⟩) d E,.slice (some ⟨b,m,none⟩) a D]).run prog w= .ok (goInt (min a d)) (w.setRow g nw):=by
  have aa:Nat.min a d=min a d:=rfl;simp[Builtin.copy_,run_underlying hu,Builtin.lenOf,sizeOf,typeInfo,Y,ae,aa,Z,C]
  congr 1
  omega
 refine xw (v:=goInt (min a d)) (w':=w.setRow g nw) (by simp[fX,Op.operands,Call.operands,M,N]) fx ?_ (h _ ⟨?_,.inr ⟨g,c,nw,rfl,X,V,F,U,?_,?_⟩⟩ I) (hH _ I)
 ·simp[execOp,resolve,invoke,builtin,fM M,fM N,ab]
 ·rw[hQ,hQ,kt,lH,S];omega
 ·rw[←J,nz,hQ,hQ,kt,lH,W,G];omega
 ·rw[←J,←R,Hm,show min o (n*z)=o from by omega,j7,j7];show(cur.toList.take o++(cs++cur.toList.drop (o+cs.length))).take (n*z)=_
  rw[Q4,kt,pG (i:=n*z) (by rw[kt];omega),Q4,pG (i:=n*z-min o cur.toList.length) (l:=cs) fy,List.drop_take]
  congr 3
  omega
theorem ab2 {g:TypeId} {z:Value} {kn:IntKind} {size bytes k cap off:Nat} {s:Operand} {olds:List Value} {E:Int} (G:xv t e z size bytes) (S:prog.underlying g=some (.int kn)) (f:z.cells.size=size) (R:0<size) (C:gh env s=some (.slice (some ⟨b,off,none⟩) n cap)) (a:olds.length=n*size) (N:∀j u,olds[j]? =some u->w.cell? ⟨b,off+j,none⟩=some u) (D:gh env x=some (.int .i64 E)) (hk:E=k)
  (h0:0<k) (B:cap<n+k) (m:n+k<=maxLen) (J:(n+k)*bytes<=140737488355328)
  (h:∀F w' zs,gD w' w.heap.size e size F (n+k) (olds++zs)->zs.length=k*size->Ext w w'->xs prog fD fC hs H full K rest ((d,F)::env) w') (hH:∀w',Ext w w'->H w':=by intros;trivial):
  xs prog fD fC hs H full K (⟨some d,.call {callee:= .builtin .append,args:=⟨[s,x]⟩,argTypes:=⟨[t,g]⟩},ty,pos,af,none⟩::rest) env w:=by
 subst hk;obtain⟨hu,i,hi,T,Q,I⟩:=G;subst Q;subst I;have U:n+k<=9223372036854775807:=m;have hold:=run_firstCells_some (P:=prog) w.drew i.size n ⟨b,off,none⟩ n cap olds a (λj u hu=>by rw[nf];exact N j u hu);have V:k*i.bytes<=(n+k)*i.bytes:=qk _ fy;have O:=Lib.run_append_grow_zeros (P:=prog) w t g ty e i z .i64 kn hu S hi T (some ⟨b,off,none⟩) n cap olds hold k h0 R B fy fy (growslice_fits B J);have hlen:(olds++(Builtin.zeroCells z.cells k).toList).length=(n+k)*i.size:=by rw[hQ,a,pb,size_zeroCells,f,tG]
 have M:=grownCap_ge w (n+k) cap e;have L:grownCap w (n+k) cap e<=maxLen:=grownCap_le_maxLen w (n+k) cap e m;have y:Ext w (w.drew.alloc (.cells (olds.toArray++Builtin.zeroCells z.cells k++Builtin.zeroCells z.cells (grownCap w (n+k) cap e-(n+k))) e)):=(Fr.drew hG w).t (Fr.alloc _ _ _);refine xw (by simp[fX,Op.operands,Call.operands,C,D]) fx (v:= .slice (some ⟨w.heap.size,0,none⟩) (n+k) (grownCap w (n+k) cap e)) (w':=_) ?_ (h _ _ (Builtin.zeroCells z.cells k).toList ⟨hlen,.inr ⟨w.heap.size,_,_,rfl,gJ _,heap_alloc_new w.drew _,M,L,?_,?_⟩⟩ (by rw[pb,size_zeroCells,f]) y) (hH _ y)
 ·simp[execOp,resolve,invoke,builtin,fM C,fM D,O]
 ·simp only[F4,nz,size_zeroCells,f,a,←tG]
  congr 1
  omega
 ·have e:∀(b c:Array Value),(olds.toArray++b++c).toList=(olds++b.toList)++c.toList:=λb c=>by simp
  rw[e,←hlen];exact vk
theorem WG {a:TypeId} {cs nw:Array Value} (d:fU w g a cs) (s:gh env x=some (.pointer (some ⟨g,q,none⟩))) (v:gh env y=some (.agg vs.toArray)) (ht:get ks t=some vs.length) (hi:q+vs.length<=cs.size) (h1:∀u∈vs,u.oneCell'=true) (f:nw=(cs.toList.take q++vs++cs.toList.drop (q+vs.length)).toArray)
  (h:∀w',fU w' g a nw->Fr (· =g) w w'->xs prog fD fC hs H full K rest env w') (hH:∀w',Fr (· =g) w w'->H w':=by intros;trivial):xs prog fD fC hs H full K (⟨none,.store t x y,ty,pos,af,none⟩::rest) env w:=by
 obtain⟨_,it,B,C⟩:=kD ht;refine gR fx (by simp[fX,Op.operands,s,v]) ?_;have n:=run_storeCells_at (P:=prog) g q a vs 0 cs w d fy h1;rw[kS,←f]at n;have m:Fr (· =g) w (w.setRow g nw):=⟨rfl,rfl,rfl,by simp[World.setRow],λk hk f=>by simp only[World.setRow,tw];rw[if_neg (λe=>f e.symm)]⟩
 have D:fU (w.setRow g nw) g a nw:=by
  unfold fU at d⊢;simp[World.setRow,tw,d]
 show out prog ((execOp (ev env) ⟨none,.store t x y,ty,pos,af,none⟩).run prog w) _
 have e:(execOp (ev env) ⟨none,.store t x y,ty,pos,af,none⟩).run prog w= .ok .skip (w.setRow g nw):=by
  simp[execOp,fM s,fM v,Instr.storeAt,Instr.sureAddr,storeVar,Value.cells,sizeOf,typeInfo,B,C,n]
 rw[e];exact⟨hH _ m,h _ D m⟩
end
section
attribute [local irreducible] xs T
def qJ (x:gG):List Value:=[.int .i64 x.n.mode,.int .i64 x.n.uid,.int .i64 x.n.gid,.int .i64 x.n.time,x.va,x.vc]
theorem Hx (n:Int):uJ n=true↔0<=n/\n<=2147483647:=by simp only[uJ,iO,decide_eq_true_eq]
theorem rX (a:xn):jV a=true↔1<=(a.name.length:Int)/\(a.name.length:Int)<=20/\(a.value.length:Int)<=200:=by
 simp only[jV,iO,decide_eq_true_eq];omega
theorem nQ (w:World) (n:Int):fL prog 153 #[.int .i64 n] w λr w'=>r= .bool (uJ n)/\w=w':=by
 refine gr func153 fx fF ?_
 repeat' (first|refine fT ?_|refine kW rfl rfl (λhc=>?_) (λhc=>?_)|refine kX rfl rfl (λhc=>?_) (λhc=>?_)|refine kR rfl rfl (λhc=>?_) (λhc=>?_)|refine kU rfl rfl (λhc=>?_) (λhc=>?_)|refine lf rfl rfl (λhc=>?_) (λhc=>?_)|refine kY rfl rfl (λhc=>?_) (λhc=>?_)|fail)
 all_goals first|exact fB rfl rfl ⟨pd (Hx n) fy,rfl⟩|exact fB rfl rfl ⟨oX (Hx n) fy,rfl⟩
theorem um (w:World) (a:xn):fL prog 154 #[.agg (jK a).toArray] w λr w'=>r= .bool (jV a)/\Ext w w':=by
 refine gr func154 fx fF ?_;refine fA ?_;refine hD fx (λd m g n=>?_);have f:fU d w.heap.size 68 #[.string (su a.name),.string (su a.value)]:=m;have k0:d.cell? ⟨w.heap.size,0,none⟩=some (.string (su a.name)):=f.cell 0;have k1:d.cell? ⟨w.heap.size,1,none⟩=some (.string (su a.value)):=f.cell 1
 repeat' (first|refine iu rfl rfl ?_|refine iH rfl rfl ?_|refine fT ?_|refine kW rfl rfl (λhc=>?_) (λhc=>?_)|refine kX rfl rfl (λhc=>?_) (λhc=>?_)|refine kR rfl rfl (λhc=>?_) (λhc=>?_)|refine kU rfl rfl (λhc=>?_) (λhc=>?_)|refine lf rfl rfl (λhc=>?_) (λhc=>?_)|refine kY rfl rfl (λhc=>?_) (λhc=>?_)|fail)
 all_goals first|exact fB rfl rfl ⟨pd (rX a) fy,g⟩|exact fB rfl rfl ⟨oX (rX a) fy,g⟩
theorem Dd (n:Nd):gT n=(decide (0<=n.mode)&&decide (n.mode<=4095)&&uJ n.uid&&uJ n.gid&&decide (0<=n.time)&&(decide (n.attrs.length<=8)&&(jo jV j8 none n.attrs&&og n.acl))):=by
 rw[gT,rM];simp[LZ]
theorem uc (w:World) (x:gG) (R:ix w x):fL prog 91 #[.agg (qJ x).toArray] w λr w'=>r= .bool (gT x.n)/\Ext w w':=by
 refine gr func91 fx fF ?_;rw[Dd];refine fA ?_;refine hD fx (λf W v ag=>?_);have D:fU f w.heap.size 34 #[.int .i64 x.n.mode,.int .i64 x.n.uid,.int .i64 x.n.gid,.int .i64 x.n.time,x.va,x.vc]:=W;obtain⟨A,c,V,X,ae,L⟩:=R.a.op jN;have k0:f.cell? ⟨w.heap.size,0,none⟩=some (.int .i64 x.n.mode):=D.cell 0;have k1:f.cell? ⟨w.heap.size,1,none⟩=some (.int .i64 x.n.uid):=D.cell 1;have k2:f.cell? ⟨w.heap.size,2,none⟩=some (.int .i64 x.n.gid):=D.cell 2;have k3:f.cell? ⟨w.heap.size,3,none⟩=some (.int .i64 x.n.time):=D.cell 3;have k4:f.cell? ⟨w.heap.size,4,none⟩=some (.slice A x.n.attrs.length c):=by rw[←V];exact D.cell 4
 refine fA ?_
 by_cases h0:¬0<=x.n.mode
 ·refine iX ?_;refine fA ?_;exact fB fx fx ⟨by simp[h0],v⟩
 have h0:0<=x.n.mode:=fy
 by_cases h1:¬x.n.mode<=4095
 ·refine iX ?_;refine fA ?_;exact fB fx fx ⟨by simp[h1],v⟩
 have h1:x.n.mode<=4095:=fy;cases hu:uJ x.n.uid with
 |false=>
  refine iX ?_;refine fA ?_;refine fG fx fx (nQ f x.n.uid) (λr s g=>?_);obtain⟨rfl,rfl⟩:=g;rw[hu];refine fA ?_;exact fB fx fx ⟨by simp,v⟩
 |true=>
 cases I:uJ x.n.gid with
 |false=>
  refine iX ?_;refine fA ?_;refine fG fx fx (nQ f x.n.uid) (λr s g=>?_);obtain⟨rfl,rfl⟩:=g;rw[hu];refine fA ?_;refine fG fx fx (nQ f x.n.gid) (λr s g=>?_);obtain⟨rfl,rfl⟩:=g;rw[I];refine fA ?_;exact fB fx fx ⟨by simp,v⟩
 |true=>
 by_cases B:¬0<=x.n.time
 ·refine iX ?_;refine fA ?_;refine fG fx fx (nQ f x.n.uid) (λr s g=>?_);obtain⟨rfl,rfl⟩:=g;rw[hu];refine fA ?_;refine fG fx fx (nQ f x.n.gid) (λr s g=>?_);obtain⟨rfl,rfl⟩:=g;rw[I];refine fA ?_;exact fB fx fx ⟨by simp[B],v⟩
 have B:0<=x.n.time:=fy;rw[decide_eq_true h0,decide_eq_true h1,decide_eq_true B,iU,iU,iU,iU,iU]
 by_cases G:¬x.n.attrs.length<=8
 ·refine iX ?_;refine fA ?_;refine fG fx fx (nQ f x.n.uid) (λr s g=>?_);obtain⟨rfl,rfl⟩:=g;rw[hu];refine fA ?_;refine fG fx fx (nQ f x.n.gid) (λr s g=>?_);obtain⟨rfl,rfl⟩:=g;rw[I];refine fA ?_;exact fB fx fx ⟨by simp[G],v⟩
 have G:x.n.attrs.length<=8:=fy;rw[decide_eq_true G,iU];obtain⟨l,Z⟩:∃l,l=x.n.attrs:=⟨_,rfl⟩;rw[←Z]at G L X k4⊢;refine h9 (α:=Nat) 0 fx (λi=>[(1,.pointer (some ⟨w.heap.size,0,none⟩)),(3,.int .i64 (i:Int))]) (λi w'=>Ext f w'/\i<=l.length/\jo jV j8 (hT l i) (l.drop i)=jo jV j8 none l) (λi=>l.length-i) ?_ ?_
 ·rintro i s ⟨E,hi,m⟩;have m4:s.cell? ⟨w.heap.size,4,none⟩=some (.slice A l.length c):=E.cell k4;have ah:s.drew.cell? ⟨w.heap.size,4,none⟩=some (.slice A l.length c):=m4;have m5:s.cell? ⟨w.heap.size,5,none⟩=some x.vc:=(D.ext E).cell 5
  by_cases fW:i<l.length
  ·obtain⟨b,o,y,rfl,_,ab,af,O⟩:=L.at_ fW;rw[p8 ab]at m;have ad:∀j u,(jK y)[j]? =some u->s.drew.cell? ⟨b,o+i*2+j,none⟩=some u:=λj u hu=>E.cell (v.cell (O j u hu))
   refine zF ?_;refine hL (cs:=jK y) fx fx ad ?_;refine fG fx fx (um s.drew y) (λr F B=>?_);obtain⟨rfl,M⟩:=B;have C:Ext f F:=E.d.t M;cases Q:jV y with
   |false=>
    rw[Q,hW,hW]at m;refine fA ?_;exact fB fx fx ⟨by rw[←m];rfl,v.t C⟩
   | true=>
    rw[Q,iU]at m;cases i with
    |zero=>
     have m:jo jV j8 (hT l (0+1)) (l.drop (0+1))=jo jV j8 none l:=by simpa[hT]using m
     refine fA ?_;exact gX fx ⟨_,(by show l.length-(0+1)<l.length-0;omega),rfl,0+1,sub ⟨rfl,rfl⟩,⟨C,fy,m⟩,rfl⟩
    | succ k=>
     obtain⟨z,S⟩:∃z,l[k]? =some z:=⟨_,kp fy⟩;have aa:hT l (k+1)=some z:=S;rw[aa]at m;dsimp only at m;obtain⟨b',o',ak,e',_,K,_,Y⟩:=L.at_ (i:=k) fy;injection e' with e'
     injection e' with T U
     subst T;subst U;rw[S]at K;injection K with K
     subst K;have aj:F.cell? ⟨w.heap.size,4,none⟩=some (.slice (some ⟨b,o,none⟩) l.length c):=C.cell k4;have n1:F.cell? ⟨b,o+k*2+0,none⟩=some (.string (su z.name)):=C.cell (v.cell (Y 0 _ rfl));have ai:F.cell? ⟨b,o+(k+1)*2+0,none⟩=some (.string (su y.name)):=C.cell (v.cell (O 0 _ rfl));cases J:j8 z y with
     |false=>
      rw[J,hW]at m;have N:Op.bytesLess z.name y.name=false:=J
      repeat' (first|refine gF k (o+k*2) rfl rfl rfl fy rfl fy ?_|refine gF (k+1) (o+(k+1)*2) rfl rfl rfl rfl rfl fW ?_|refine gq (op:= .geq) (r:=true) rfl rfl (by rw[hZ,N];rfl) ?_|refine fT ?_|fail)
      exact fB fx fx ⟨by rw[←m];rfl,v.t C⟩
     |true=>
      rw[J,iU]at m;have N:Op.bytesLess z.name y.name=true:=J
      repeat' (first|refine gF k (o+k*2) rfl rfl rfl fy rfl fy ?_|refine gF (k+1) (o+(k+1)*2) rfl rfl rfl rfl rfl fW ?_|refine gq (op:= .geq) (r:=false) rfl rfl (by rw[hZ,N];rfl) ?_|refine fT ?_|fail)
      exact gX fx ⟨_,(by show l.length-(k+1+1)<l.length-(k+1);omega),rfl,k+1+1,sub ⟨rfl,rfl⟩,⟨C,fy,m⟩,rfl⟩
  ·obtain rfl:i=l.length:=fy;rw[jJ]at m;rw[←m];refine fA ?_;refine fI fx fx (G7 s x.vc x.n.acl (R.c.ext (v.t E))) (λr F B=>?_);obtain⟨rfl,M⟩:=B;refine fA ?_;exact fB fx fx ⟨by simp[jo],v.t (E.t M)⟩
 ·intro H;refine fA ?_;refine fG fx fx (nQ f x.n.uid) (λr s g=>?_);obtain⟨rfl,rfl⟩:=g;rw[hu];refine fA ?_;refine fG fx fx (nQ f x.n.gid) (λr s g=>?_);obtain⟨rfl,rfl⟩:=g;rw[I];refine fA ?_;refine hv ?_;exact ic (H 0 f ⟨Fr.refl _ _,iy _,rfl⟩) (sub ⟨rfl,rfl⟩)
end
section
section
theorem adi {t u:TypeId} (f:gh env x=some (.float .f64 a)) (g:gh env y=some (.float .f64 b))
  (h:xs prog fD fC hs gL full K rest ((d,.complex .f64 a b)::env) w):xs prog fD fC hs gL full K (⟨some d,.call {callee:= .builtin .complex,args:=⟨[x,y]⟩,argTypes:=⟨[t,u]⟩},ty,pos,af,none⟩::rest) env w:=by
 refine xw (v:= .complex .f64 a b) (w':=w) (by simp[fX,Op.operands,Call.operands,f,g]) fx ?_ h True.intro;simp[execOp,resolve,invoke,builtin,fM f,fM g,run_complex]
theorem Pr {t:TypeId} (f:gh env x=some (.complex .f64 a b))
  (h:xs prog fD fC hs gL full K rest ((d,.float .f64 a)::env) w):xs prog fD fC hs gL full K (⟨some d,.call {callee:= .builtin .real,args:=⟨[x]⟩,argTypes:=⟨[t]⟩},ty,pos,af,none⟩::rest) env w:=by
 refine xw (v:= .float .f64 a) (w':=w) (by simp[fX,Op.operands,Call.operands,f]) fx ?_ h True.intro;simp[execOp,resolve,invoke,builtin,fM f,run_real]
theorem U0 {t:TypeId} (f:gh env x=some (.complex .f64 a b))
  (h:xs prog fD fC hs gL full K rest ((d,.float .f64 b)::env) w):xs prog fD fC hs gL full K (⟨some d,.call {callee:= .builtin .imag,args:=⟨[x]⟩,argTypes:=⟨[t]⟩},ty,pos,af,none⟩::rest) env w:=by
 refine xw (v:= .float .f64 b) (w':=w) (by simp[fX,Op.operands,Call.operands,f]) fx ?_ h True.intro;simp[execOp,resolve,invoke,builtin,fM f,run_imag]
theorem X4 {k:IntKind} {f:Int} (n:Nat) (a:gh env x=some (.int k f)) (g:f=n)
  (h:xs prog fD fC hs gL full K rest ((d,.float .f64 (fw n))::env) w):xs prog fD fC hs gL full K (⟨some d,.convert 2 227 x,ty,pos,af,none⟩::rest) env w:=by
 subst g;refine xw (v:= .float .f64 (fw n)) (w':=w) (by simp[fX,Op.operands,a]) fF ?_ h True.intro;simp[execOp,fM a,run_convert_int_float (P:=prog) w 2 227 k .f64 (n:Int) (by rw[underlying2];rfl) underlying227,floatOfInt,fw]
theorem Y3 (a:gh env x=some (.float .f64 (fw n))) (g:n<=1099511627776)
  (h:xs prog fD fC hs gL full K rest ((d,.int .i64 (n:Int))::env) w):xs prog fD fC hs gL full K (⟨some d,.convert 227 2 x,ty,pos,af,none⟩::rest) env w:=by
 refine xw (v:= .int .i64 (n:Int)) (w':=w) (by simp[fX,Op.operands,a]) fF ?_ h True.intro
 have f:floatToIntVal .f64 (fw n) .i64=some (n:Int):=by
  unfold floatToIntVal;rw[Pz fy];dsimp only;rw[if_pos (by simp[IntKind.min,IntKind.max,IntKind.signed,IntKind.bits];omega)]
 simp[execOp,fM a,run_convert_float_int (P:=prog) w 227 2 .f64 .i64 (fw n) n (by rw[underlying227];rfl) underlying2 f]
theorem L8 {n:TypeId} (g:gh env x=some (.float .f64 (fw a))) (m:gh env y=some (.float .f64 (fw b))) (s:a<=1099511627776) (u:b<=1099511627776) {r:Bool} (f:decide (b<a)=r)
  (h:xs prog fD fC hs H full K rest ((d,.bool r)::env) w):xs prog fD fC hs H full K (⟨some d,.binOp .gtr t x y n,ty,pos,af,none⟩::rest) env w:=by
 refine jA g m (by rfl) (λw'=>?_) h;have hc:(binOp .gtr t (.float .f64 (fw a)) (.float .f64 (fw b)))=pure (.bool (FloatKind.f64.format.order (fw a) (fw b)==some .gt)):=by simp[binOp,Op.floatCmp]
 rw[hc,zl fy fy,←f];rcases zy a b with h|h|h
 ·rw[BQ.2 h,decide_eq_false fy];rfl
 ·rw[BY.2 h,decide_eq_false fy];rfl
 ·rw[Ch.2 h,decide_eq_true h];rfl
theorem IV {p:Addr} {v:Value} (a:gh env x=some (.pointer (some p))) (hc:w.cell? p=some v)
  (h:xs prog fD fC hs H full K rest ((d,v)::env) w) (hm:nK hs (some d)=false:=by rfl):xs prog fD fC hs H full K (⟨some d,.load 157 x,ty,pos,af,none⟩::rest) env w:=by
 refine gR fx (by simp[fX,Op.operands,a]) ?_;have g:iT fD fC hs ⟨some d,.load 157 x,ty,pos,af,none⟩= .r:=by simp[iT,cls,hm]
 rw[g];refine⟨v,?_,h⟩
 have f:(isAgg 157).run prog w= .ok false w:=by
  unfold isAgg;simp only[sD,run_underlying underlying157,sM];simp
 simp[execOp,fM a,Instr.loadAt,Instr.sureAddr,loadVar,f,load,Sem.run,hc]
end
theorem uB (p:hJ):(j5 p).toArray.all (·.oneCell')=true:=by simp[j5,Value.oneCell']
attribute [local irreducible] xs T
theorem Rm:fw 1099511627776=4787326403894837248:=by decide+kernel
theorem z8 (w:World) (v:Int):fL prog 164 #[.int .i64 v] w λr w'=>r= .int .i64 (min (max v 0) 1099511627776)/\w=w':=by
 refine gr func164 fx fF ?_;refine MI ?_;exact y2
theorem CI (w:World) (n:Nat) (a:n<=1099511627776):fL prog 165 #[.float .f64 (fw n)] w λr w'=>r= .int .i64 (n:Int)/\w=w':=by
 refine gr func165 fx fF ?_;have em:∀env:Env,gh env (.const (.float .f64 4787326403894837248))=some (.float .f64 (fw 1099511627776)):=λenv=>by rw[Rm];rfl
 have d:∀env:Env,gh env (.const (.float .f64 0))=some (.float .f64 (fw 0)):=λenv=>by rw[Eg];rfl
 by_cases h0:n=0
 ·subst h0
  repeat' (first|refine L8 (r:=false) rfl (em _) fy fy fV ?_|refine L8 (r:=false) rfl (d _) fy fy fV ?_|refine fT ?_|fail)
  exact y2
 ·repeat' (first|refine L8 (r:=false) rfl (em _) a fy (decide_eq_false fy) ?_|refine L8 (r:=true) rfl (d _) a fy (decide_eq_true fy) ?_|refine Y3 rfl a ?_|refine fT ?_|fail)
  exact y2
theorem xP (w:World) (a l:Nat) (f:a<=1099511627776) (g:l<=1099511627776):fL prog 100 #[.int .i64 (a:Int),.int .i64 (l:Int)] w λr w'=>r= .complex .f64 (fw a) (fw l)/\w=w':=by
 refine gK func100 fx fF ?_;refine fA ?_;refine fG fx fx (z8 w a) (λr d h1=>?_);obtain⟨rfl,rfl⟩:=h1;rw[show min (max (a:Int) 0) 1099511627776=(a:Int)from by omega]
 repeat' (first|refine X4 a rfl rfl ?_|refine fT ?_|fail)
 refine fG fx fx (z8 w l) (λr d h1=>?_);exact y28
theorem kM (w:World) (a l:Nat) (d:a<=1099511627776):fL prog 102 #[.complex .f64 (fw a) (fw l)] w λr w'=>r= .int .i64 (a:Int)/\w=w':=by
 refine gr func102 fx fF ?_
 repeat' (first|refine Pr rfl ?_|refine fT ?_|fail)
 refine fG fx fx (CI w a d) (λr f h1=>?_);exact y9
theorem mR (w:World) (a l:Nat) (d:l<=1099511627776):fL prog 101 #[.complex .f64 (fw a) (fw l)] w λr w'=>r= .int .i64 (l:Int)/\w=w':=by
 refine gr func101 fx fF ?_
 repeat' (first|refine U0 rfl ?_|refine fT ?_|fail)
 refine fG fx fx (CI w l d) (λr f h1=>?_);exact y9
theorem mE (w:World) (a l:Nat) (d:a<=1099511627776) (f:l<=1099511627776):fL prog 163 #[.complex .f64 (fw a) (fw l)] w λr w'=>r= .int .i64 ((a:Int)+l)/\w=w':=by
 refine gr func163 fx fF ?_;refine fA ?_;refine fG fx fx (kM w a l d) (λr g h1=>?_);obtain⟨rfl,rfl⟩:=h1;refine fA ?_;refine fG fx fx (mR w a l f) (λr g h1=>?_);exact y9
def qy (p:Nat×Nat):List Value:=[.complex .f64 (fw p.1) (fw p.2)]
theorem nO (p:Nat×Nat):(qy p).length=1:=rfl
def vW (size:Int):Int->List (Nat×Nat)->Bool
 |last,[]=>decide (last<=size)
 |last,p::r=>decide (p.2≠0)&&decide (last<p.1)&&vW size ((p.1:Int)+p.2) r
def J8 (l:List (Nat×Nat)):Prop:=∀p∈l,p.1<=1099511627776/\p.2<=1099511627776
theorem EZ (w:World) (v:Value) (l:List (Nat×Nat)) (size:Int) (y:Rw qy w v l) (t:J8 l):fL prog 156 #[v,.int .i64 size] w λr w'=>r= .bool (decide (0<=size)&&decide (size<=1099511627776)&&vW size (-1) l)/\w=w':=by
 refine gK func156 fx fF ?_;obtain⟨A,c,rfl,B,C,m⟩:=y.op nO
 by_cases h0:¬0<=size
 ·refine fA ?_;exact fB fx fx ⟨by simp[h0],rfl⟩
 have h0:0<=size:=fy
 by_cases h1:¬size<=1099511627776
 ·refine fA ?_;exact fB fx fx ⟨by simp[h1],rfl⟩
 have h1:size<=1099511627776:=fy;rw[decide_eq_true h0,decide_eq_true h1,iU,iU];refine fA ?_;refine gA (α:=Nat×Int) (λx=>[(1,.int .i64 size),(5,.int .i64 x.2),(14,.slice A l.length c),(15,.int .i64 (l.length:Int)),(16,.int .i64 (x.1:Int))]) (λx w'=>w=w'/\x.1<=l.length/\vW size x.2 (l.drop x.1)=vW size (-1) l) (λx=>l.length-x.1) (0,-1) (sub ⟨rfl,rfl,rfl,rfl,rfl⟩) ⟨rfl,iy _,rfl⟩ ?_;rintro⟨i,last⟩ f ⟨rfl,hi,a⟩;dsimp only at hi a⊢
 by_cases fW:i<l.length
 ·obtain⟨b,o,p,rfl,_,u,s,n⟩:=m.at_ fW;have d:=t p (jS u);have k0:=n 0 _ rfl;rw[ph,kS]at k0;rw[s,vW]at a;refine Qm ?_;refine fG fx fx (mR w p.1 p.2 d.2) (λr f h1=>?_);obtain⟨rfl,rfl⟩:=h1
  by_cases g0:p.2=0
  ·rw[decide_eq_false (by simpa using g0),hW,hW]at a;exact y35
  rw[decide_eq_true (show p.2≠0 from g0),iU]at a;refine fA ?_;refine fG fx fx (kM w p.1 p.2 d.1) (λr f h1=>?_);obtain⟨rfl,rfl⟩:=h1
  by_cases g1:last<p.1
  ·rw[decide_eq_true g1,iU]at a;refine fA ?_;refine fG fx fx (mE w p.1 p.2 d.1 d.2) (λr f h1=>?_);obtain⟨rfl,rfl⟩:=h1;refine fA ?_;exact gn ⟨(i+1,(p.1:Int)+p.2),sub ⟨rfl,rfl,rfl,rfl,rfl⟩,⟨rfl,by dsimp only;omega,a⟩,(by show l.length-(i+1)<l.length-i;omega)⟩
  ·rw[decide_eq_false g1,hW]at a;exact y35
 ·obtain rfl:i=l.length:=fy;rw[jJ,vW]at a
  by_cases g:last<=size
  ·rw[decide_eq_true g]at a;exact y35
  ·rw[decide_eq_false g]at a;exact y35
theorem nR:∀{l:List hJ} {p:hJ},p∈l->p.data.length<=fE l
 |[],p,h=>by simp at h
 |q::r,p,h=>by
  rw[fE];rcases hX.1 h with rfl|h
  ·omega
  ·have:=nR h;omega
theorem iG:∀(a b:List hJ),fE (a++b)=fE a+fE b
 |[],b=>by simp[fE]
 |p::a,b=>by rw[qp,fE,fE,iG a b];omega
theorem mZ {l:List hJ} {p:hJ} (h:l[i]? =some p):fE (l.take (i+1))=fE (l.take i)+p.data.length:=by
 rw[kO,h,xN,iG];simp[fE]
theorem so (l:List hJ) (i:Nat):fE (l.take i)<=fE l:=by
 have:=iG (l.take i) (l.drop i);rw[lv]at this;omega
theorem p5 (w:World) (x:gG) (O:ix w x) (I:fE x.n.data<=1000000):fL prog 88 #[.agg (gz x).toArray] w λr w'=>r= .int .i64 (fE x.n.data:Int)/\Ext w w':=by
 refine gr func88 fx fF ?_;refine fA ?_;refine hD fx (λg C s T=>?_);have B:fU g w.heap.size 37 (gz x).toArray:=C;obtain⟨A,c,y,J,Q,m⟩:=O.d.op ha;have k8:g.cell? ⟨w.heap.size,8,none⟩=some (.slice A x.n.data.length c):=by rw[←y];exact B.cell 8
 obtain⟨l,L⟩:∃l,l=x.n.data:=⟨_,rfl⟩;rw[←L]at m J k8 I⊢;refine fA ?_;refine gA (α:=Nat) (λi=>[(3,.int .i64 (fE (l.take i):Int)),(7,.slice A l.length c),(8,.int .i64 (l.length:Int)),(9,.int .i64 (i:Int))]) (λi w'=>Ext g w'/\i<=l.length) (λi=>l.length-i) 0 (sub ⟨rfl,rfl,rfl,rfl⟩) ⟨Fr.refl _ _,iy _⟩ ?_;rintro i a ⟨f,hi⟩
 by_cases fW:i<l.length
 ·obtain⟨b,o,p,rfl,_,M,R,K⟩:=m.at_ fW;have N:∀j u,(j5 p)[j]? =some u->a.cell? ⟨b,o+i*2+j,none⟩=some u:=λj u hu=>f.cell (s.cell (K j u hu))
  have hle:=so l (i+1);have V:=mZ M;refine zF ?_;refine hL (cs:=j5 p) fx fx N ?_;refine gy (z:= .agg #[.int .i64 0,.string ⟨#[]⟩]) fF (λW D F U=>?_);refine hd (cs:=(j5 p).toArray) D fx fx fx fx (uB p) (λv E H=>?_);have G:Ext a v:=Ext.te F H λj S e=>by have e':j=a.heap.size:=e;omega
  have q1:v.cell? ⟨a.heap.size,1,none⟩=some (.string (su p.data)):=E.cell 1;refine lP ?_;exact gn ⟨i+1,sub ⟨jX fy,rfl,rfl,rfl⟩,⟨f.t G,fy⟩,(by show l.length-(i+1)<l.length-i;omega)⟩
 ·obtain rfl:i=l.length:=fy;refine fA ?_;exact fB fx fx ⟨by rw[km],s.t f⟩
def jE (l:List hJ):List (Nat×Nat):=l.map λp=>(p.pos.toNat,p.data.length)
theorem mJ:xv 154 157 (.complex .f64 0 0) 1 16:=M7 underlying154 fF
structure ExI (l:List hJ) (w1:World) (x:Nat×Value) (w:World):Prop where
 i:x.1<=l.length
 own:Ow qy 1 w w1.heap.size 157 x.2 (jE (l.take x.1))
 ext:Ext w1 w
theorem vA (w:World) (x:gG) (ag:ix w x) (J:x.n.data.all jW=true) (W:fE x.n.data<=1000000) (ab:x.n.data.length<=1000):fL prog 99 #[.agg (gz x).toArray] w λr w'=>Ow qy 1 w' w.heap.size 157 r (jE x.n.data)/\Ext w w':=by
 refine gr func99 fx fF ?_;refine fA ?_;refine hD fx (λs Q C am=>?_);have O:fU s w.heap.size 37 (gz x).toArray:=Q;obtain⟨A,c,M,X,aj,F⟩:=ag.d.op ha;have k8:s.cell? ⟨w.heap.size,8,none⟩=some (.slice A x.n.data.length c):=by rw[←M];exact O.cell 8
 obtain⟨l,aa⟩:∃l,l=x.n.data:=⟨_,rfl⟩;rw[←aa]at F X k8 W J ab⊢;refine fA ?_;refine gA (α:=Nat×Value) (λy=>[(3,y.2),(7,.slice A l.length c),(8,.int .i64 (l.length:Int)),(9,.int .i64 (y.1:Int))]) (ExI l s) (λy=>l.length-y.1) (0,.slice none 0 0) (sub ⟨rfl,rfl,rfl,rfl⟩) ⟨iy _,Ow.nil _ _ _,Fr.refl _ _⟩ ?_;rintro⟨i,v⟩ m ⟨hi,g,f⟩;dsimp only at hi g f⊢
 by_cases fW:i<l.length
 ·obtain⟨b,o,p,rfl,_,K,ak,Y⟩:=F.at_ fW;have af:∀j u,(j5 p)[j]? =some u->m.cell? ⟨b,o+i*2+j,none⟩=some u:=λj u hu=>f.cell (C.cell (Y j u hu))
  have hm:=jS K;have I:=lj.1 J p hm;simp only[jW,iO,decide_eq_true_eq]at I;have hlen:=nR hm;obtain⟨a,H⟩:=lO I.1.2;refine zF ?_;refine hL (cs:=j5 p) fx fx af ?_;refine gy (z:= .agg #[.int .i64 0,.string ⟨#[]⟩]) fF (λaq R T an=>?_);refine hd (cs:=(j5 p).toArray) R fx fx fx fx (uB p) (λB G U=>?_);have D:Ext m B:=Ext.te T U λj Z e=>by have e':j=m.heap.size:=e;omega
  have q0:B.cell? ⟨m.heap.size,0,none⟩=some (.int .i64 (a:Int)):=by rw[←H];exact G.cell 0
  have q1:B.cell? ⟨m.heap.size,1,none⟩=some (.string (su p.data)):=G.cell 1;refine lP ?_;refine fG fx fx (xP B a p.data.length fy fy) (λr ah N=>?_);obtain⟨rfl,rfl⟩:=N;refine fA ?_;refine Ia (vs:=qy (a,p.data.length)) mJ fx fx fV fV (λu hu=>by rw[kl.1 hu];rfl) (λah S E ao=>?_);have al:(jE (l.take i)).length=i:=by simp[jE];omega
  refine jI (news:=qy (a,p.data.length)) mJ fx fV fx (gD.ext g (D.t E)) fx (gS S fV fx) fx (λu hu=>by rw[kl.1 hu];rfl) (by unfold maxLen;omega) fy (by have:=f.size;have:=D.size;have:=E.size;omega) (λL ai ad V ap=>?_)
  have ae:Ow qy 1 ai s.heap.size 157 L (jE (l.take (i+1))):=by
   have e:jE (l.take (i+1))=jE (l.take i)++[(a,p.data.length)]:=by
    unfold jE;rw[kO,K,xN,pE,VI,H];rfl
   rw[e];exact Ow.ext1 (l':=[(a,p.data.length)]) (by simpa using ad)
  refine fA ?_;exact gn ⟨(i+1,L),sub ⟨rfl,rfl,rfl,rfl⟩,⟨by dsimp only;omega,ae,Ext.te (f.t (D.t E)) V λj Z e=>by have:=(g.gH e).1;omega⟩,(by show l.length-(i+1)<l.length-i;omega)⟩
 ·obtain rfl:i=l.length:=fy;rw[km]at g;refine fA ?_;exact fB fx fx ⟨g.mono C.size,C.t f⟩
end
end Go.Proofs.YtecaahegomdbbaaGreatDoor.gp
