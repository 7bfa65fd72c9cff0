/- Parts of the proof. -/
import Derived.Lib.ItoaNum
import Derived.Lib.LaidTab
import Derived.Shelf.SlSortCmp.Whole1
import Derived.Shelf.SlSortCmp.WholeK
import Derived.Test.YtecaahegomdbbaaGreatDoorRmB0a
set_option linter.all false
set_option maxRecDepth 99999
set_option maxHeartbeats 0
namespace Go.Proofs.YtecaahegomdbbaaGreatDoor.gr
open Go.Proofs.Tryz
open Go.RowKit
variable {e:En} {hi k lo:Int} {l:ip En} {F:ip Int} {ns:ip Nd} {n:Nd} {p q s:fL} {t u:fZ}
theorem qd:∀(l:ip En) (s:ip Int),∃x,(iJ s l).2=s++x
 |[],s=>⟨[],by rw[iJ,mR]⟩
 | e::r,s=>by
  rw[iJ];split
  .exact qd r s
  .obtain⟨x,d⟩:=qd r (s++[e.node])
   grind
theorem uu:∀(l:ip En) (s:ip Int),s.Nodup->(iJ s l).2.Nodup
 |[],s,h=>h
 |e::r,s,h=>by
  rw[iJ];split
  .exact uu r s h
  .rename_i m;refine uu r (s++[e.node]) (List.nodup_append.2 ⟨h,by simp,λa f b g d=>?_⟩);rw[jS.1 g]at d;exact m (d▸f)
theorem pI (k:Int):∀(l:ip En) (s:ip Int),k∈(iJ s l).2↔k∈s\/∃e∈l,e.node=k
 |[],s=>by simp[iJ]
 | e::r,s=>by
  rw[iJ];split
  .rename_i hm;dsimp only;rw[pI k r s]
   grind
  .dsimp only;rw[pI k r (s++[e.node]),iS,jS]
   grind
def ov (F:ip Int) (e:En):En:=⟨e.path,(F.idxOf e.node:Int)⟩
theorem rY:∀(l:ip En) (s:ip Int),(iJ s l).1=l.map (ov (iJ s l).2)
 |[],s=>rfl
 | e::r,s=>by
  rw[iJ];split
  .rename_i hm;obtain⟨x,d⟩:=qd r s;dsimp only;rw[jj,<-rY r s]
   grind [ov]
  .rename_i hm;obtain⟨x,d⟩:=qd r (s++[e.node]);dsimp only;rw[jj,<-rY r (s++[e.node])]
   grind [ov]
theorem zO:∀(l:ip En) (s:ip Int),jD (iJ s l).2.length s.length (iJ s l).1=true/\kE s.length (iJ s l).1=(iJ s l).2.length
 |[],s=>⟨rfl,rfl⟩
 | e::r,s=>by
  rw[iJ];split
  .rename_i hm;obtain⟨h1,d⟩:=zO r s;obtain⟨x,f⟩:=qd r s
   grind [List.idxOf_lt_length_iff,List.length,iJ,List.length_append,jD,kE]
  .rename_i hm;obtain⟨h1,d⟩:=zO r (s++[e.node]);obtain⟨x,f⟩:=qd r (s++[e.node])
   grind [List.length,iJ,List.length_append,List.length_cons,List.length_nil,jD,kE]
structure tA (t:fZ):Prop where
 inr:∀e∈t.es,0<=e.node/\e.node<t.ns.length
 len:t.es.length<=100
 path:∀e∈t.es,gX e.path=true
 nd:(t.es.map (·.path)).Nodup
 root:∃e∈t.es,e.path=[]/\fV t.ns e.node=1
 par:∀e∈t.es,e.path≠[]->∃d∈t.es,d.path=n8 e.path/\fV t.ns d.node=1
 node:∀e∈t.es,fG (t.ns.getD e.node.toNat default)=true
 dir:∀e∈t.es,fV t.ns e.node=1->∀e'∈t.es,e'.node=e.node->e'=e
def Mw (h:∀e∈t.es,0<=e.node/\e.node<t.ns.length):t.es.all (yj t.ns.length)=true:=by
 grind [List.all_eq_true,yj,decide_eq_true]
theorem mX (h:(l.map (·.path)).Nodup) {a b:En} (d:a∈l) (f:b∈l) (g:a.path=b.path):a=b:=by
 induction l<;>grind
theorem iH:∀{l:ip En},(l.map (·.path)).Nodup->∀{e:En},e∈l->fK l e.path=some e.node
 |[],_,e,he=>by cases he
 | x::r,h,e,he=>by
  rw[fK];split
  .grind
  .rename_i f;rw[jj,QC]at h;rcases iu.1 he with d|he
   .grind
   .exact iH h.2 he
theorem rK (h:(l.map (·.path)).Nodup):l.Nodup:=(zH.1 h).imp fM
theorem Dd (h:l.Pairwise BP):(l.map (·.path)).Nodup:=by
 grind [BP,ix,sK]
theorem VQ {a b:En} (d:gX a.path=true) (f:gX b.path=true) (g:a.path≠b.path) (h:yD a b):BP a b:=by
 grind [yD,ix,BP,wE,fX,Cc]
theorem rQ:∀{l:ip En},(∀e∈l,gX e.path=true)->(l.map (·.path)).Nodup->l.Pairwise yD->l.Pairwise BP
 |[],_,_,_=>List.Pairwise.nil
 |x::r,hm,d,hs=>by
  rw[jA]at hs|-;rw[jj,QC]at d;refine⟨by grind [VQ],rQ fM d.2 hs.2⟩
theorem wg:∀{l:ip En} {p:fL},(∀e∈l,gX e.path=true)->(∀e∈l,ix p e.path=true)->l.Pairwise BP->iA (some p) l=true
 |[],_,_,_,_=>rfl
 |x::r,p,h1,d,h3=>by
  rw[jA]at h3;rw[iA,h1 x iB,d x iB,wg fM h3.1 h3.2];rfl
def I6 {x:En} {r:ip En} (h:(x::r).Pairwise BP) (he:e∈x::r) (d:e.path=[]):x=e:=by
 grind [List.pairwise_cons,BP,IM]
def Ql {α:Type} {l:ip α} {e:α} (f:l.Nodup) (he:e∈l) (h:∀x∈l,x=e):l=[e]:=by
 cases l with
 |nil=>cases he
 |cons x r=>
  have d:=h x iB;subst d;cases r<;>simp_all
theorem VB (h:k∈F):F[F.idxOf k]? =some k:=by
 grind
theorem H0 (h:k∈F):(F.map λk=>ns.getD k.toNat default).getD (F.idxOf k) default=ns.getD k.toNat default:=by
 grind
theorem sH (h:k∈F):fV (F.map λk=>ns.getD k.toNat default) (F.idxOf k:Int)=fV ns k:=by
 grind [fV,Int.toNat_natCast,H0]
def ta (h:tA t):hQ t=some (jy t.ns (jM t.es)):=by
 have f:=jk t.es;have hs:=l8 t.es;unfold hQ;rw[Mw h.inr,iV];obtain⟨s,T⟩:∃s,s=jM t.es:=⟨_,rfl⟩;rw[<-T]at f hs|-;have m:∀e∈s,gX e.path=true:=λe he=>h.path e (f.mem_iff.1 he)
 have E:(s.map (·.path)).Nodup:=by grind [tA.nd]
 have I:=rQ m E hs;obtain⟨F,g⟩:∃F,F=(iJ [] s).2:=⟨_,rfl⟩;have B:(iJ [] s).1=s.map (ov F):=by rw[g];exact rY s []
 have v:∀k,k∈F↔∃e∈s,e.node=k:=by grind [pI]
 have W:F.Nodup:=by rw[g];exact uu s [] List.nodup_nil
 have R:=zO s [];rw[<-g,B]at R;have K:jy t.ns s=⟨s.map (ov F),F.map λk=>t.ns.getD k.toNat default⟩:=by unfold jy;rw[B,<-g]
 rw[K];have N:∀e∈s,e.node∈F:=fM;obtain⟨ro,S,H,ad⟩:=h.root;have G:=f.mem_iff.2 S;cases s with
 |nil=>cases G
 | cons x r=>
  have U:x=ro:=I6 I G H;subst U;have D:((x::r).map (ov F)).map (·.path)=(x::r).map (·.path):=by rw[rN];rfl
  have n:((x::r).map (ov F)).Pairwise BP:=uY D.symm I;have ab:(((x::r).map (ov F)).map (·.path)).Nodup:=by rw[D];exact E
  have hm:gM ⟨(x::r).map (ov F),F.map λk=>t.ns.getD k.toNat default⟩=true:=by
   unfold gM;simp only[iU,decide_eq_true_eq];refine⟨⟨⟨by grind [List.length_map,List.length_cons,List.Perm.length_eq,tA.len],?_⟩,?_⟩,?_⟩
   .refine(jo _ _ none 0 (iF _)).2 ⟨?_,?_,?_,?_,?_⟩
    .rw[jj,iA];rw[show(ov F x).path=x.path from rfl,m x iB,decide_eq_true H];rw[jj,jA]at n;rw[show iA (some x.path) (r.map (ov F))=true from wg (λe he=>?_) (λe he=>n.1 e he) n.2]
     .rfl
     .obtain⟨y,u,rfl⟩:=lp.1 he;exact m y (by simp[u])
    .grind
    .grind
    .intro i _ hi;rw[jv]at hi;obtain⟨e,he,hk⟩:=(v F[i]).1 (uT hi);rw[kW,qX,j9 hi];show fG (t.ns.getD F[i].toNat default)=true
     rw[<-hk];exact h.node e (f.mem_iff.1 he)
    .intro i hi hk;refine⟨λaa=>fy,λ_=>?_⟩;rw[jv]at hi;obtain⟨e,he,L⟩:=(v F[i]).1 (uT hi);have C:F.idxOf e.node=i:=by rw[L];exact fM
     have O:fV t.ns e.node=1:=by rw[<-hk,<-C,sH (N e he)]
     unfold ka;rw[List.countP_map,VC]
     have:(x::r).filter ((λe=>decide (e.node=(i:Int)))∘ov F)=[e]:=by
      refine Ql (by grind [rK]) (DW.2 ⟨he,?_⟩) λy u=>?_
      .simp only[Xg,decide_eq_true_eq];show(F.idxOf e.node:Int)=i
       rw[C]
      .obtain⟨V,J⟩:=DW.1 u;simp only[Xg,decide_eq_true_eq]at J
       have ae:F.idxOf y.node=F.idxOf e.node:=by
        have:(F.idxOf y.node:Int)=i:=J;omega
       exact h.dir e (f.mem_iff.1 he) O y (f.mem_iff.1 V) fM
     rw[this];rfl
   .show fV _ (F.idxOf x.node:Int)=1
    grind [sH]
   .rw[ld];intro e' w;rw[jj,RC,wK]at w;obtain⟨e,he,rfl⟩:=lp.1 w;have M:e∈x::r:=by simp[he]
    have Q:e.path≠[]:=fM;obtain⟨d,X,Z,Y⟩:=h.par e (f.mem_iff.1 M) Q
    grind [qH,fK,ov,n8,iH,List.mem_map_of_mem,fV,sH]
  rw[if_pos hm]
def w4 (h:hQ t=some u):t.es.all (yj t.ns.length)=true/\gM (jy t.ns (jM t.es))=true/\u=jy t.ns (jM t.es):=by
 grind [hQ,Option.some.inj]
def ni (h:gM t=true):tA t:=by
 have d:=p4 h;have m:=wU h;have g:=Dd d;obtain⟨es,ns⟩:=t;dsimp only at d m g;unfold gM at h;simp only[iU,decide_eq_true_eq]at h;obtain⟨⟨⟨⟨h1,n⟩,h3⟩,u⟩,v⟩:=h;obtain⟨g1,g2,g3,g4,g5⟩:=(jo ns es none 0 (iF _)).1 h3;have f:=qc g2;cases es with
 |nil=>simp at h1
 | cons x r=>
  simp only[iA,iU,decide_eq_true_eq]at g1;have D:x.path=[]:=g1.1.2;refine⟨f,n,m,g,fM,λe he C=>?_,λe he=>?_,λe he hk e' w B=>?_⟩
  .grind [absurd,List.all_eq_true,qH,fK,n8,gT]
  .grind
  .have hi:=f e he;have hc:=(g5 e.node.toNat fy (by rw[Xj hi.1];exact hk)).2 (iF _);unfold ka at hc;rw[Xj hi.1,VC]at hc;obtain⟨z,E⟩:=CZ.1 hc;have m1:e∈(x::r).filter λy=>decide (y.node=e.node):=fM
   have m2:e'∈(x::r).filter λy=>decide (y.node=e.node):=fM
   grind
def Od (h:hQ t=some u):tA t:=by
 obtain⟨h1,v,rfl⟩:=w4 h;have m:=jk t.es;obtain⟨s,K⟩:∃s,s=jM t.es:=⟨_,rfl⟩;rw[<-K]at m v;have f:=ni v;obtain⟨F,w⟩:∃F,F=(iJ [] s).2:=⟨_,rfl⟩;have H:(iJ [] s).1=s.map (ov F):=by rw[w];exact rY s []
 have M:∀k,k∈F↔∃e∈s,e.node=k:=by grind [pI]
 have C:jy t.ns s=⟨s.map (ov F),F.map λk=>t.ns.getD k.toNat default⟩:=by unfold jy;rw[H,<-w]
 rw[C]at f;have x:∀e∈t.es,e.node∈F:=fM;have g:∀e∈t.es,ov F e∈s.map (ov F):=fM;have I:∀e∈t.es,fV (F.map λk=>t.ns.getD k.toNat default) (ov F e).node=fV t.ns e.node:=λe he=>sH (x e he)
 refine⟨λe he=>?_,?_,λe he=>f.path (ov F e) (g e he),?_,?_,λe he J=>?_,λe he=>?_,λe he hk e' n N=>?_⟩
 .grind [List.all_eq_true,yj]
 .have:=f.len
  grind [List.length_map,List.Perm.length_eq]
 .have:=f.nd;dsimp only at this;rw[rN]at this;exact(m.map (·.path)).nodup_iff.1 this
 .obtain⟨e',n,h3,B⟩:=f.root;obtain⟨e,he,rfl⟩:=lp.1 n;have het:=m.mem_iff.1 he;exact⟨e,het,h3,by grind⟩
 .obtain⟨L,E,h3,B⟩:=f.par _ (g e he) J;obtain⟨d,D,rfl⟩:=lp.1 E;have G:=m.mem_iff.1 D;exact⟨d,G,h3,by grind⟩
 .have:=f.node _ (g e he);dsimp only at this;rw[show(ov F e).node.toNat=F.idxOf e.node from rfl,H0 (x e he)]at this;exact this
 .have:=f.dir _ (g e he) ((I e he).trans hk) _ (g e' n) (by grind [ov]);have y:=congrArg En.path this;have y:e'.path=e.path:=y
  have O:(t.es.map (·.path)).Nodup:=by
   have:=f.nd;dsimp only at this;rw[rN]at this;exact(m.map (·.path)).nodup_iff.1 this
  grind [mX]
theorem w8:∀(l:ip En) (n u:Nat),jD n u l=true->iJ ((List.range u).map Int.ofNat) l=(l,(List.range (kE u l)).map Int.ofNat)
 |[],n,u,_=>rfl
 | e::r,n,u,h=>by
  simp only[jD,iU,decide_eq_true_eq]at h;obtain⟨⟨⟨h0,h1⟩,f⟩,h3⟩:=h;obtain⟨k,hk⟩:=lZ h0;obtain⟨p,z⟩:=e;dsimp only at hk h1 f h3;subst hk
  have g:∀{m:Nat} {k:Nat},k<m->((List.range m).map Int.ofNat).idxOf (k:Int)=k:=λ{m k} fY=>by
   have v:((List.range m).map Int.ofNat).Nodup:=zH.2 (Dx.imp fM);have:=List.Nodup.idxOf_getElem v k (by simpa using fY);simpa using this
  rw[iJ,kE];dsimp only
  by_cases fY:(k:Int)<u
  .rw[if_pos fY]at h3|-;rw[if_pos fM,g (show k<u by omega),w8 r n u h3]
  .rw[if_neg fY]at h3|-;have t:k=u:=fy;subst t;rw[if_neg fM];have d:(List.range k).map Int.ofNat++[(k:Int)]=(List.range (k+1)).map Int.ofNat:=by rw[tG,pw];rfl
   rw[d,w8 r n (k+1) h3,jv,CA]
def D2 (h:gM t=true):hQ t=some t:=by
 rw[ta (ni h)];have hs:jM t.es=t.es:=by grind [sq,jM,p4,l8,jk]
 obtain⟨es,ns⟩:=t;dsimp only at hs|-;rw[hs];unfold gM at h;simp only[iU,decide_eq_true_eq]at h;obtain⟨_,g2,g3,_,_⟩:=(jo ns es none 0 (iF _)).1 h.1.1.2;have:=w8 es ns.length 0 g2;unfold jy;rw[show([]:ip Int)=(List.range 0).map Int.ofNat from rfl,this,g3]
 congr 2
 rw[rN];apply xM<;>grind
def Ri (f:Int->Int) (e:En):En:=⟨e.path,f e.node⟩
def gU (p:hT):Int:=p.pos+(p.data.length:Int)
def nf (lo hi:Int) (p:hT):Option hT:=
 if max lo p.pos<min hi (gU p)then some ⟨max lo p.pos,(p.data.drop (max lo p.pos-p.pos).toNat).take (min hi (gU p)-max lo p.pos).toNat⟩else none
def gZ (l:ip hT) (lo hi:Int):ip hT:=l.filterMap (nf lo hi)
def l5:hT->ip hT->ip hT
 |c,[]=>[c]
 |c,p::r=>if gU c=p.pos then l5 ⟨c.pos,c.data++p.data⟩ r else c::l5 p r
def jG:ip hT->ip hT
 |[]=>[]
 |p::r=>l5 p r
def qZ (l:ip hT) (pos:Int) (s:fL):ip hT:=jG (gZ l 0 pos++[⟨pos,s⟩]++gZ l (pos+(s.length:Int)) 1099511627777)
def gy (n:Nd) (pos:Int) (s:fL):Nd×Int:=
 if fG n=false\/n.kind≠2\/pos<0\/1099511627776<pos then(n,1)
 else if 1099511627776-pos<(s.length:Int)then(n,2)
 else if s=[]then(n,0)
 else if 4000<fF (qZ n.data pos s)\/16<(qZ n.data pos s).length then(n,13)
 else({n with data:=qZ n.data pos s,size:=max n.size (pos+(s.length:Int))},0)
def kx (n:Nd) (size:Int):Nd×Int:=
 if fG n=false\/n.kind≠2\/size<0\/1099511627776<size then(n,1)
 else({n with data:=gZ n.data 0 size,size:=size},0)
def jB (g:Int) (l:ip hT):Prop:=l.Pairwise λp q=>gU p+g<=q.pos
theorem ext_iff (size:Int):∀(l:ip hT) (last:Int),(∀p∈l,p.data≠[])->(xY size last l=true↔jB 1 l/\(∀p∈l,last<p.pos/\gU p<=size)/\last<=size)
 |[],last,_=>by simp[xY,jB]
 |p::r,last,h=>by
  have d:=h p iB;have f:0<p.data.length:=fM;have g:=ext_iff size r (gU p) fM
  grind [xY,gU,jB,List.pairwise_cons,List.length]
theorem kH (n:Nd):jV n=true↔0<=n.size/\n.size<=1099511627776/\n.data.length<=16/\fF n.data<=4000/\jB 1 n.data/\∀p∈n.data,p.data≠[]/\0<=p.pos/\gU p<=n.size:=by
 grind [jV,List.all_eq_true,j3,ext_iff,gU]
theorem oI {p q:hT} (h:nf lo hi p=some q):q.data≠[]/\q.pos=max lo p.pos/\gU q=min hi (gU p):=by
 grind [nf,max,min,gU,List.length_take,List.length_drop,List.length_nil]
def nx {l:ip hT} {q:hT} (h:q∈gZ l lo hi):q.data≠[]/\lo<=q.pos/\gU q<=hi/\∃p∈l,p.pos<=q.pos/\gU q<=gU p:=by
 obtain⟨p,f,hc⟩:=W4.1 h;obtain⟨h1,d,h3⟩:=oI hc
 grind
def zC {l:ip hT} {g:Int} (h:jB g l):jB g (gZ l lo hi):=by
 unfold jB gZ;rw[List.pairwise_filterMap];refine h.imp λ{a b} t m d b' f=>?_
 have h1:=(oI d).2.2;have n:=(oI f).2.1;omega
theorem qa (l:ip hT) (lo hi:Int):(gZ l lo hi).length<=l.length:=List.length_filterMap_le _ _
theorem lL:∀(l:ip hT) (lo hi:Int),fF (gZ l lo hi)<=fF l
 |[],_,_=>gJ _
 |p::r,lo,hi=>by
  have d:=lL r lo hi
  grind [gZ,nf,fF,List.length,oI,List.length_take,List.length_drop]
theorem uc:∀(r:ip hT) (c:hT),jB 0 (c::r)->(∀p∈c::r,p.data≠[])->jB 1 (l5 c r)/\∀q∈l5 c r,q.data≠[]/\(∃p∈c::r,q.pos=p.pos)/\∃p∈c::r,gU q=gU p
 |[],c,_,h=>by grind [l5,jB,List.mem_singleton]
 | p::r,c,hs,h=>by
  unfold jB at hs;rw[jA,jA]at hs;obtain⟨h1,f,h3⟩:=hs;rw[l5];split
  .rename_i he
   have g:gU ⟨c.pos,c.data++p.data⟩=gU p:=by
    unfold gU at he|-;dsimp only;rw[ib];omega
   have d:jB 0 (⟨c.pos,c.data++p.data⟩::r):=by
    unfold jB;rw[jA];exact fM
   obtain⟨g1,g2⟩:=uc r _ d lX
   grind
  .rename_i he;obtain⟨g1,g2⟩:=uc r p (by grind [jB,List.pairwise_cons]) fM
   grind [List.length,List.length_pos_iff,jB,List.pairwise_cons,gU,List.mem_cons_of_mem]
def Is {l:ip hT} (hs:jB 0 l) (h:∀p∈l,p.data≠[]):jB 1 (jG l)/\∀q∈jG l,q.data≠[]/\(∃p∈l,q.pos=p.pos)/\∃p∈l,gU q=gU p:=by
 cases l with
 |nil=>exact⟨List.Pairwise.nil,λq hq=>by cases hq⟩
 |cons p r=>exact uc r p hs h
def HP {l:ip hT} (h:jB 1 l):jB 0 l:=h.imp fM
theorem FA {pos:Int} (h:jV n=true) (h0:0<=pos) (hs:s≠[]) (v:(s.length:Int)<=1099511627776-pos):jB 1 (qZ n.data pos s)/\∀q∈qZ n.data pos s,q.data≠[]/\0<=q.pos/\gU q<=max n.size (pos+(s.length:Int)):=by
 obtain⟨f1,f2,f3,f4,f5,f6⟩:=(kH n).1 h
 have hm:∀p∈gZ n.data 0 pos++[⟨pos,s⟩]++gZ n.data (pos+(s.length:Int)) 1099511627777,p.data≠[]/\0<=p.pos/\gU p<=max n.size (pos+(s.length:Int)):=by
  intro p d;rcases iS.1 d with d|d
  .rcases iS.1 d with d|d
   .obtain⟨h1,g,h3,x,f,m,t⟩:=nx d
    grind
   .rw[jS.1 d];exact⟨hs,h0,by show pos+(s.length:Int)<=_;omega⟩
  .obtain⟨h1,g,h3,x,f,m,t⟩:=nx d
   grind
 have u:jB 0 (gZ n.data 0 pos++[⟨pos,s⟩]++gZ n.data (pos+(s.length:Int)) 1099511627777):=by
  unfold jB;rw[ke,ke];refine⟨⟨zC (HP f5),by simp,λp d q hq=>?_⟩,zC (HP f5),λp d q hq=>?_⟩
  .rw[jS.1 hq];have:=(nx d).2.2.1
   grind
  .have w:=(nx hq).2.1;rcases iS.1 d with d|d
   .have:=(nx d).2.2.1;omega
   .rw[jS.1 d];show pos+(s.length:Int)+0<=q.pos
    omega
 obtain⟨g1,g2⟩:=Is u λp d=>(hm p d).1
 refine⟨g1,λq hq=>?_⟩;obtain⟨k1,⟨x,f,k2⟩,⟨y,B,k3⟩⟩:=g2 q hq
 grind
theorem iX (h:fG n=true) (hk:n.kind=2):jV n=true:=by
 grind [fG]
theorem HS {m:Nd} (h:fG n=true) (hk:n.kind=2) (hm:m={n with data:=m.data,size:=m.size}) (d:jV m=true):fG m=true:=by
 have f:hd m=hd n:=by rw[hm];rfl
 grind [jz,jL,fG]
theorem lR (h:fG n=true) (pos:Int) (s:fL):fG (gy n pos s).1=true:=by
 grind [gy,iX,kH,FA,HS]
theorem yC (h:fG n=true) (size:Int):fG (kx n size).1=true:=by
 unfold kx;split
 .exact h
 rename_i h1;have hk:n.kind=2:=fy;have d:=iX h hk;obtain⟨f1,f2,f3,f4,f5,f6⟩:=(kH n).1 d;refine HS h hk fx ((kH _).2 ⟨?_,?_,?_,?_,zC f5,λq hq=>?_⟩)
 .dsimp only;omega
 .dsimp only;omega
 .grind [Nat.le_trans,qa]
 .grind [Nat.le_trans,lL]
 .obtain⟨k1,k2,k3,_⟩:=nx hq
  grind
theorem nC (n:Nd) (pos:Int) (s:fL):(gy n pos s).1.kind=n.kind:=by
 grind [gy]
theorem Ck (n:Nd) (size:Int):(kx n size).1.kind=n.kind:=by
 grind [kx]
def rV (a b:fL):fL:=if a=[]then b else a++47::b
def nO (a b:fL):Option fL:=if gX a&&jU b then(if gX (rV a b)then some (rV a b)else none)else none
def qb {a b:fL} (h:nO a b=some s):gX s=true/\fX s=fX a++[b]/\n8 s=a/\s≠[]/\mK s=b:=by
 unfold nO at h;split at h
 .rename_i d;rw[iU]at d;obtain⟨m,n⟩:=d;split at h
  .rename_i hm;injection h with h
   rw[h]at hm;have t:=F0 n
   have key:s≠[]/\fX s=fX a++[b]:=by
    unfold rV at h
    by_cases h0:a=[]
    .grind [yS,iy,yH,kM]
    .rw[if_neg h0]at h;have f:s≠[]:=by rw[<-h];simp
     refine⟨f,?_⟩;rw[iy hm f,iy m h0];have g:s=jm (hC a++[b]):=by rw[p6 _ _ (kU a),yZ,h]
     rw[g,zl _ iB]
     grind [wq,List.mem_singleton]
   grind [n8,List.dropLast_concat,kI,mK]
  .cases h
 .cases h
theorem Ds (c:UInt8):∀l:ip fL,c∈jm l->c=47\/∃x∈l,c∈x
 |[],h=>by cases h
 |[x],h=> .inr ⟨x,by simp,h⟩
 | x::y::r,h=>by
  rw[jm]at h;rcases iS.1 h with h|h
  .grind
  .rcases iu.1 h with h|h
   .exact .inl h
   .rcases Ds c (y::r) h with h|⟨z,d,h⟩<;>grind
def Pd (h:jU s=true):∀c∈s,c≠0:=by grind [jU,List.all_eq_true]
def Ua (h:gX s=true):∀c∈s,c≠0:=λc hc=>by
 rw[<-kI h]at hc;rcases Ds c _ hc with rfl|⟨x,d,hc⟩
 .decide
 .exact Pd (oc d) c hc
def dg (n:Nat):UInt8:=UInt8.ofNat (48+n)
def HB:Nat->Nat->fL->fL
 |0,n,s=>dg n::s
 |k+1,n,s=>if 9<n then HB k (n/10) (dg (n% 10)::s)else dg n::s
def yg (n:Nat):fL:=HB 20 n []
theorem Gx:∀(k n:Nat) (s:fL),(HB k n s).length<=k+1+s.length
 |0,n,s=>by simp[HB];omega
 | k+1,n,s=>by
  rw[HB];split
  .have:=Gx k (n/10) (dg (n% 10)::s)
   grind
  grind
theorem vt (n:Nat):(yg n).length<=21:=Gx 20 n []
def hY:ip fL:=[[97],[98],[99],[97,45],[97,98],[122],[113,46,114]]
def pv (n:Nat):fL:=[116,101,120,116,32]++yg n++[32,111,102,32,116,104,105,115,32,97,110,100,32,116,104,97,116,44,32,97,110,100,32,111,102,32,116,104,105,115,32,97,110,100,32,116,104,97,116]
structure uW where
 es:List En
 ns:List Nd
 hx:List fL
 files:List Nat
def mkNode (u:Nat):Nd:=⟨2,(u/5% 4096:Nat),(u% 3:Nat),(u% 4:Nat),(u% 1000000:Nat),
 if u% 11=0 then[⟨[117,115,101,114,46,107],118::yg (u% 100)⟩]else[],
 if u% 11=0 then[⟨1,7,(u% 8:Nat)⟩,⟨3,0,7⟩]else[],0,[],[],0,0⟩
def oH (u:Nat) (p:fL) (n:Nd):Nd:=
 let n1:=(gy n (u/4% 2*600:Nat) (pv (u% 1000))).1
 let d:=if u% 2=0 then(gy n1 (u% 90*10:Nat) p).1 else n1
 if u% 5=0 then(kx d (d.size+(u% 7*100:Nat))).1 else d
def uW.new (m:uW) (p:fL) (n:Nd):uW:={m with es:=m.es++[⟨p,(m.ns.length:Int)⟩],ns:=m.ns++[n]}
def hX (m:uW) (u:Nat):uW:=
 match nO (m.hx.getD (u% m.hx.length) []) (hY.getD (u/7% 7) [])with
 |none=>m
 |some p=>
  if(fK m.es p).isSome then m
  else if u/3% 9<2 then {m.new p {mkNode u with kind:=1}with hx:=m.hx++[p]}
  else if u/3% 9=2/\0<m.files.length then {m with es:=m.es++[⟨p,(m.files.getD (u/2% m.files.length) 0:Nat)⟩]}
  else if u/3% 9=3 then m.new p {mkNode u with kind:=3,target:=[46,46,47]++p}
  else if u/3% 9=4 then m.new p {mkNode u with kind:=4,major:=(u% 300:Nat),minor:=(u/2% 300:Nat)}
  else if u/3% 9=5 then m.new p {mkNode u with kind:=6}
  else {m.new p (oH u p (mkNode u))with files:=m.files++[m.ns.length]}
def mkRoot:Nd:=⟨1,493,0,0,9,[],[],0,[],[],0,0⟩
def mj:uW:=⟨[⟨[],0⟩],[mkRoot],[[]],[]⟩
def v7 (l:ip Nat):uW:=(l.take 25).foldl hX mj
def mkRaw (l:ip Nat):fZ:=⟨(v7 l).es,(v7 l).ns⟩
def xX (u:Nat):hd (mkNode u)=true:=by
 grind [Nat.mod_lt,vt,hd,mkNode,v8,om,lz,j4,kX,acLt,List.length_cons,List.length_nil]
theorem xT (u:Nat):fG (mkNode u)=true:=by
 have h:=xX u;unfold fG;rw[h];rfl
def OK (u:Nat) (p:fL):fG (oH u p (mkNode u))=true:=by
 grind [lR,xT,pv,oH,fG,gy,mkNode,yC]
def H3 (u:Nat) (p:fL) (n:Nd):(oH u p n).kind=n.kind:=by
 grind [oH,Ck,nC]
def Bc (hm:hd n=true) (h:iv n=true/\jz n=true/\jL n=true) (hk:n.kind=1\/n.kind=6):fG n=true:=by
 grind [fG]
structure vw (m:uW):Prop where
 inr:∀e∈m.es,0<=e.node/\e.node<m.ns.length
 path:∀e∈m.es,gX e.path=true
 nd:(m.es.map (·.path)).Nodup
 root:⟨[],0⟩∈m.es/\fV m.ns 0=1
 par:∀e∈m.es,e.path≠[]->∃d∈m.es,d.path=n8 e.path/\fV m.ns d.node=1
 hx:(∀d∈m.hx,∃e∈m.es,e.path=d/\fV m.ns e.node=1)/\m.hx≠[]
 node:∀n∈m.ns,fG n=true
 dir:∀e∈m.es,fV m.ns e.node=1->∀e'∈m.es,e'.node=e.node->e'=e
 files:∀f∈m.files,f<m.ns.length/\fV m.ns (f:Nat)=2
 used:∀i:Nat,i<m.ns.length->∃e∈m.es,e.node=i
 len:m.ns.length<=m.es.length
 dl:m.hx.length<=m.es.length/\m.files.length<=m.es.length
def Gy (h0:0<=k) (h:k<ns.length):fV (ns++[n]) k=fV ns k:=by
 grind [fV,List.getElem?_append_left]
def Sd:fV (ns++[n]) (ns.length:Int)=n.kind:=by
 grind [fV,Int.toNat_natCast,List.getElem?_append_right]
def Of (h:(fK l p).isSome=false):∀e∈l,e.path≠p:=by
 cases d:fK l p<;>grind [fK,mU]
def Br (h:(l.map (·.path)).Nodup) (d:∀x∈l,x.path≠e.path):((l++[e]).map (·.path)).Nodup:=by
 grind
theorem vw.new {m:uW} (h:vw m) {p:fL} {n:Nd} (H:gX p=true) (D:∀e∈m.es,e.path≠p) (F:∃d∈m.es,d.path=n8 p/\fV m.ns d.node=1) (G:fG n=true):vw (m.new p n)/\fV (m.new p n).ns (m.ns.length:Int)=n.kind:=by
 have hk:∀e∈m.es,fV (m.ns++[n]) e.node=fV m.ns e.node:=λe he=>Gy (h.inr e he).1 (h.inr e he).2
 have B:(m.ns++[n]).length=m.ns.length+1:=by simp
 refine⟨⟨λe he=>?_,λe he=>?_,Br h.nd D,⟨wB _ h.root.1,?_⟩,λe he C=>?_,⟨λd t=>?_,h.hx.2⟩,λx v=>?_,λe he y e' u E=>?_,λf w=>?_,λi hi=>?_,?_,?_⟩,Sd⟩
 .show 0<=e.node/\e.node<((m.ns++[n]).length:Int)
  rw[B];rcases iS.1 he with he|he
  .have:=h.inr e he;omega
  grind
 .rcases iS.1 he with he|he
  .exact h.path e he
  grind
 .exact(hk _ h.root.1).trans h.root.2
 .rcases iS.1 he with he|he
  .obtain⟨d,t,h1,g⟩:=h.par e he C;exact⟨d,wB _ t,h1,(hk d t).trans g⟩
  .obtain⟨d,t,h1,g⟩:=F;rw[jS.1 he];exact⟨d,wB _ t,h1,(hk d t).trans g⟩
 .obtain⟨e,he,h1,g⟩:=h.hx.1 d t;exact⟨e,wB _ he,h1,(hk e he).trans g⟩
 .rcases iS.1 v with v|v
  .exact h.node x v
  grind
 .have fY:∀x∈m.es,x.node≠(m.ns.length:Int):=λx v=>by have:=(h.inr x v).2;omega
  rcases iS.1 he with he|he
  .rcases iS.1 u with u|u
   .exact h.dir e he ((hk e he).symm.trans y) e' u E
   grind
  .rcases iS.1 u with u|u<;>grind
 .have:=h.files f w;exact⟨by show f<(m.ns++[n]).length;omega,(Gy fy fy).trans this.2⟩
 .have hi:i<(m.ns++[n]).length:=hi
  by_cases he:i=m.ns.length
  .exact⟨_,ze _ (jS.2 fx),by rw[he]⟩
  .obtain⟨e,h1,g⟩:=h.used i fy;exact⟨e,wB _ h1,g⟩
 .show(m.ns++[n]).length<=(m.es++[_]).length
  grind [len,List.length_append,List.length_singleton]
 .show m.hx.length<=(m.es++[_]).length/\m.files.length<=(m.es++[_]).length
  grind [dl,List.length_append,List.length_singleton]
def vw.link {m:uW} (h:vw m) {k:Nat} (x:gX p=true) (v:∀e∈m.es,e.path≠p) (y:∃d∈m.es,d.path=n8 p/\fV m.ns d.node=1) (hk:k<m.ns.length/\fV m.ns (k:Nat)=2):vw {m with es:=m.es++[⟨p,(k:Nat)⟩]}:=by
 refine⟨λe he=>?_,λe he=>?_,Br h.nd v,⟨wB _ h.root.1,h.root.2⟩,λe he u=>?_,⟨λd n=>?_,h.hx.2⟩,h.node,λe he t e' f w=>?_,h.files,λi hi=>?_,?_,?_⟩
 .rcases iS.1 he with he|he
  .exact h.inr e he
  grind
 .rcases iS.1 he with he|he
  .exact h.path e he
  grind
 .rcases iS.1 he with he|he
  .obtain⟨d,n,h1,g⟩:=h.par e he u
   grind
  grind
 .obtain⟨e,he,h1,g⟩:=h.hx.1 d n
  grind
 .rcases iS.1 he with he|he
  .rcases iS.1 f with f|f
   .exact h.dir e he t e' f w
   grind
  grind
 .obtain⟨e,h1,g⟩:=h.used i hi
  grind
 .grind [len,List.length_append,List.length_singleton]
 grind [dl,List.length_append,List.length_singleton]
def Ou {m:uW} (h:vw m) (u:Nat):vw (hX m u):=by
 unfold hX;split
 .exact h
 .rename_i p B;obtain⟨g,G,C,H,_⟩:=qb B
  have t:m.hx.getD (u% m.hx.length) []∈m.hx:=by
   have fY:u% m.hx.length<m.hx.length:=rE _ (rP.2 h.hx.2);rw[kW,j9 fY];exact uT fY
  have x:∃d∈m.es,d.path=n8 p/\fV m.ns d.node=1:=by rw[C];exact h.hx.1 _ t
  have y:=xX u;split
  .exact h
  rename_i v;have w:=Of (Bool.eq_false_iff.2 v);split
  .obtain⟨g1,g2⟩:=h.new (n:={mkNode u with kind:=1}) g w x (Bc y ⟨rfl,rfl,rfl⟩ (.inl rfl));refine⟨g1.inr,g1.path,g1.nd,g1.root,g1.par,⟨λd t=>?_,by simp⟩,g1.node,g1.dir,g1.files,g1.used,g1.len,?_⟩
   .rcases iS.1 t with t|t
    .exact g1.hx.1 d t
    .rw[jS.1 t];exact⟨_,ze _ (jS.2 fx),rfl,g2⟩
   .have:=h.dl;show(m.hx++[p]).length<=(m.es++[_]).length/\m.files.length<=(m.es++[_]).length
    grind
  split
  .rename_i hk;refine h.link g w x (h.files _ ?_)
   grind [List.length,Nat.mod_lt,List.getElem?_eq_getElem,List.getElem_mem]
  split
  .refine(h.new g w x ?_).1;have E:=kO g;have F:=Ua g;unfold fG;rw[show hd {mkNode u with kind:=3,target:=[46,46,47]++p}=true from y];simp only[iV];rw[if_neg fU,if_neg fU,if_pos trivial];simp only[iU,decide_eq_true_eq,ld,ib,iP,kL];refine⟨⟨⟨⟨rfl,rfl⟩,fy⟩,fy⟩,λc hc=>?_⟩
   grind
  split
  .refine(h.new g w x ?_).1;have h1:u% 300<300:=fy;have D:u/2% 300<300:=fy;unfold fG;rw[show hd {mkNode u with kind:=4,major:=(u% 300:Nat),minor:=(u/2% 300:Nat)}=true from y];simp only[iV];rw[if_neg fU,if_neg fU,if_neg fU,if_pos (.inl trivial)];simp only[iU,decide_eq_true_eq];exact⟨⟨⟨⟨⟨rfl,rfl⟩,fy⟩,fy⟩,fy⟩,fy⟩
  split
  .exact(h.new (n:={mkNode u with kind:=6}) g w x (Bc y ⟨rfl,rfl,rfl⟩ (.inr fx))).1
  obtain⟨g1,g2⟩:=h.new g w x (OK u p);refine⟨g1.inr,g1.path,g1.nd,g1.root,g1.par,g1.hx,g1.node,g1.dir,λf v=>?_,g1.used,g1.len,?_⟩
  .rcases iS.1 v with v|v
   .exact g1.files f v
   .rw[jS.1 v];exact⟨by show m.ns.length<(m.ns++[_]).length;simp,by rw[g2,H3];rfl⟩
  .have:=h.dl;show m.hx.length<=(m.es++[_]).length/\(m.files++[_]).length<=(m.es++[_]).length
   grind
def DN:vw mj:=by
 have h0:∀e∈mj.es,e=⟨[],0⟩:=λe he=>jS.1 he
 refine⟨λe he=>?_,λe he=>?_,by decide,⟨jS.2 fx,rfl⟩,λe he g=>?_,⟨λd m=>?_,by decide⟩,λn v=>?_,λe he _ e' t _=>?_,λf u=>(by cases u),λi hi=>?_,by decide,by decide⟩
 .rw[h0 e he];decide
 .rw[h0 e he];rfl
 .rw[h0 e he]at g;exact absurd rfl g
 .rw[show d=[]from jS.1 m];exact⟨_,jS.2 rfl,rfl,rfl⟩
 .rw[show n=mkRoot from jS.1 v];decide
 .rw[h0 e he,h0 e' t]
 .have hi:i<1:=hi;obtain rfl:i=0:=fy;exact⟨_,jS.2 fx,rfl⟩
theorem JC (m:uW) (u:Nat):(hX m u).es.length<=m.es.length+1:=by
 unfold hX;split
 .omega
 .repeat' split
  all_goals first|omega|(show(m.es++[_]).length<=_;simp)
theorem Kx:∀(l:ip Nat) (m:uW),vw m->vw (l.foldl hX m)/\(l.foldl hX m).es.length<=m.es.length+l.length
 |[],m,h=>⟨h,gJ _⟩
 |u::l,m,h=>by
  obtain⟨h1,d⟩:=Kx l (hX m u) (Ou h u)
  grind [JC,List.length_cons]
theorem zK (l:ip Nat):vw (v7 l)/\(v7 l).es.length<=26:=by
 obtain⟨h1,d⟩:=Kx (l.take 25) mj DN;refine⟨h1,ly d ?_⟩
 grind [List.length_take,List.length,mj]
def vw.aeu {m:uW} (h:vw m) (d:m.es.length<=100):tA ⟨m.es,m.ns⟩:=by
 refine⟨h.inr,d,h.path,h.nd,⟨_,h.root.1,rfl,h.root.2⟩,h.par,λe he=>?_,h.dir⟩;have hi:=h.inr e he;have fY:e.node.toNat<m.ns.length:=fy;show fG (m.ns.getD e.node.toNat default)=true
 rw[kW,j9 fY];exact h.node _ (uT fY)
def Nr (l:ip Nat):fZ:=jy (v7 l).ns (jM (v7 l).es)
def u4 (l:ip Nat):hQ (mkRaw l)=some (Nr l):=ta ((zK l).1.aeu (by grind [zK]))
def EM (l:ip Nat):gM (Nr l)=true:=Ay (u4 l)
theorem vA (h:hQ t=some u):∃F:ip Int,u.es.Perm (t.es.map (ov F))/\u.ns=F.map (λk=>t.ns.getD k.toNat default)/\∀e∈t.es,e.node∈F:=by
 obtain⟨h1,d,rfl⟩:=w4 h;have f:=jk t.es;refine⟨(iJ [] (jM t.es)).2,?_,rfl,by grind [pI]⟩;show(iJ [] (jM t.es)).1.Perm _
 grind [rY]
def NU (h:hQ t=some u) (he:e∈t.es):∃k:Nat,fK u.es e.path=some (k:Int)/\u.ns[k]? =some (t.ns.getD e.node.toNat default):=by
 grind [vA,ov,List.mem_map_of_mem,iH,Dd,p4,Ay,VB]
def Hm (h:hQ t=some u) (g:∀e∈t.es,e.path≠p):fK u.es p=none:=by
 obtain⟨F,h1,_,_⟩:=vA h;cases f:fK u.es p with
 |none=>rfl
 |some k=>
  obtain⟨e',d,m,_⟩:=gT f;obtain⟨e,he,rfl⟩:=lp.1 (h1.mem_iff.1 d);exact absurd m (g e he)
def zp (h:hQ t=some u):u.es.length=t.es.length:=by
 grind [vA,List.Perm.length_eq,List.length_map]
theorem Ha (r:fL):∀a:fL,hC (a++47::r)=hC a++hC r
 |[]=>by grind [hC]
 |c::a=>by
  have d:=Ha r a
  grind [hC,absurd,kU]
theorem Cm:∀(l z:ip fL),l≠[]->z≠[]->jm (l++z)=jm l++47::jm z
 |[],_,h,_=>absurd rfl h
 |[x],z,_,d=>A3 x d
 |x::y::r,z,_,d=>by
  rw[rf,rf,jm,<-rf,Cm (y::r) z iB d,jm];simp
theorem NK {top:fL} (hs:gX s=true) (ht:gX top=true):oq s top=true↔fX top<+:fX s:=by
 unfold oq;rw[hs,ht];simp only[iV,uf,decide_eq_true_eq];constructor
 .rintro((h|h)|h)
  .grind [kM]
  .grind
  .obtain⟨r,f⟩:=Qs.1 h
   by_cases h0:top=[]
   .grind [kM]
   .have m:s=top++47::r:=by rw[<-f];simp
    simp_all [iy,Ha]
 .rintro⟨z,g⟩
  by_cases h0:top=[]
  .grind
  by_cases h1:z=[]
  .grind [Cc]
  .right;rw[Qs];have d:fX top≠[]:=by rw[iy ht h0];exact kU _
   have:=kI hs;rw[<-g,Cm _ _ d h1,kI ht]at this;exact⟨jm z,by rw[<-this];simp⟩
theorem Gb (hu:gX (n8 s)=true) (_:gX s=true):fX (n8 s)=(fX s).dropLast:=by
 by_cases h0:(fX s).dropLast=[]
 .have:n8 s=[]:=by unfold n8;rw[h0];rfl
  grind [kM]
 .have f:∀x∈(fX s).dropLast,x∈fX s:=by grind [List.dropLast_sublist]
  have n:∀x∈(fX s).dropLast,(47:UInt8)∉x:=λx g=>F0 (oc (f x g))
  have m:n8 s≠[]:=by
   unfold n8;intro e;cases d:(fX s).dropLast with
   |nil=>exact h0 d
   |cons x r=>
    have g:=yS (oc (s:=s) (f x (by rw[d];simp)):jU x=true);rw[d]at e;cases r<;>simp_all [jm]
  grind [iy,n8,zl]
theorem F9 {α:Type} {a b:ip α} (h:a<+:b) (d:a≠b):a<+:b.dropLast:=by
 obtain⟨z,rfl⟩:=h
 grind
def Uj {ic:ip fL} (d:gX p=true) (hu:gX (n8 p)=true) (ht:∀q∈ic,gX q=true) (h0:p≠[]) (h:jK ic p=true):jK ic (n8 p)=true:=by
 grind [jK,List.any_eq_true,absurd,NK,Gb,fX,List.dropLast_prefix,F9]
def M4 {ic:ip fL} (h:gM t=true) (ht:∀q∈ic,gX q=true):tA ⟨t.es.filter (λe=>jK ic e.path),t.ns⟩:=by
 have f:=ni h;have hm:∀{e:En},e∈t.es.filter (λe=>jK ic e.path)↔e∈t.es/\jK ic e.path=true:=DW;refine⟨λe he=>f.inr e (hm.1 he).1,ly fM f.len,λe he=>f.path e (hm.1 he).1,?_,?_,λe he n=>?_,λe he=>f.node e (hm.1 he).1,λe he hk e' v w=>f.dir e (hm.1 he).1 hk e' (hm.1 v).1 w⟩
 .exact f.nd.sublist (Pm.map _)
 .obtain⟨e,he,h1,g⟩:=f.root;exact⟨e,hm.2 ⟨he,by rw[h1];rfl⟩,h1,g⟩
 .obtain⟨h1,g⟩:=hm.1 he;obtain⟨d,m,h3,u⟩:=f.par e h1 n;refine⟨d,hm.2 ⟨m,?_⟩,h3,u⟩;rw[h3];exact Uj (f.path e h1) (h3▸f.path d m) ht n g
theorem De {n:Nat}:∀(a b:ip En) (u:Nat),jD n u (a++b)=(jD n u a&&jD n (kE u a) b)
 |[],b,u=>by simp[jD,kE]
 |e::a,b,u=>by
  rw[rf,jD,jD,De a b,kE]
  grind
def DL (h:gM t=true):kE 0 t.es=t.ns.length:=by
 grind [gM,jo]
def Pq (h:iI p=some q):fX p≠[]/\n8 p=q:=by
 grind [iI,Option.some.inj]
def U2 (hm:gX p=true) (hu:gX (n8 p)=true) (h0:fX p≠[]):nO (n8 p) (mK p)=some p:=by
 obtain⟨l,x,d⟩:∃l x,fX p=l++[x]:=⟨_,_,(MH h0).symm⟩;have v:mK p=x:=by unfold mK;rw[d];simp
 have u:jU x=true:=by grind [oc]
 have f:(fX p).dropLast=l:=by rw[d,Dv]
 have t:rV (n8 p) x=p:=by
  have m:=kI hm;have n:=Gb hu hm;rw[f]at n;unfold rV
  by_cases g:l=[]
  .have:n8 p=[]:=by unfold n8;rw[f,g];rfl
   rw[if_pos this,<-m,d,g];rfl
  .grind [n8,kM,jm,p6]
 grind [nO,Bool.and_self]
def Vm {k:fL} (h:k∈lV t p):∃e∈t.es,iI e.path=some p/\mK e.path=k:=by
 grind [lV]
theorem PH {m:uW} (f:m.hx≠[]) (h:(∀e∈m.es,∀x∈fX e.path,x∈hY)/\∀d∈m.hx,∀x∈fX d,x∈hY) (u:Nat):(∀e∈(hX m u).es,∀x∈fX e.path,x∈hY)/\(∀d∈(hX m u).hx,∀x∈fX d,x∈hY)/\(hX m u).hx≠[]:=by
 unfold hX;split
 .grind
 .rename_i p g;obtain⟨_,v,_⟩:=qb g;have t:∀x∈fX p,x∈hY:=by grind [List.length,Nat.mod_lt,List.length_pos_iff,List.getElem?_eq_getElem,List.getElem_mem,List.mem_singleton,hY]
  have hs:∀k:Int,∀e∈m.es++[⟨p,k⟩],∀x∈fX e.path,x∈hY:=fM;split
  .grind
  split
  .refine⟨hs _,λd n=>?_,by simp⟩
   grind
  repeat' split
  all_goals exact⟨hs _,h.2,f⟩
def Nb (l:ip Nat):∀e∈(Nr l).es,∀x∈fX e.path,x∈hY:=by
 have key:∀(l:ip Nat) (m:uW),m.hx≠[]->((∀e∈m.es,∀x∈fX e.path,x∈hY)/\∀d∈m.hx,∀x∈fX d,x∈hY)->∀e∈(l.foldl hX m).es,∀x∈fX e.path,x∈hY:=by
  intro l
  induction l with
  |nil=>grind
  |cons u l t=>
   grind [PH]
 obtain⟨F,h1,_,_⟩:=vA (u4 l);intro e he x f;obtain⟨e',n,rfl⟩:=lp.1 (h1.mem_iff.1 he);refine key (l.take 25) mj fU ⟨λe he=>?_,λd g=>?_⟩ e' n x f
 .rw[show e=⟨[],0⟩from jS.1 he];intro x f;cases f
 .rw[show d=[]from jS.1 g];intro x f;cases f
def E5 (l:ip Nat):(Nr l).es.length<=26:=by
 rw[zp (u4 l)];exact(zK l).2
def jW (t:fZ):Nat->Option fL->Int->Int
 |0,_,bad=>bad
 |_+1,none,bad=>bad
 |f+1,some q,bad=>match fK t.es q with
  |some k=>if(t.ns.getD k.toNat default).kind=1 then jW t f (iI q) bad else 9
  |none=>jW t f (iI q) 7
def jf (t:fZ) (p:fL):Int:=if gX p then jW t (p.length+1) (iI p) 0 else 1
def hD (t:fZ) (p:fL):Int×Int:=
 if jf t p≠0 then(0,jf t p)else match fK t.es p with
  |none=>(0,7)
  |some k=>(k,0)
theorem U4 (h:fX q≠[]):(n8 q).length<q.length:=by
 grind [kM,List.length,List.length_pos_iff,FQ,List.length_take]
def F5 {r:fL} (h:iI q=some r):r.length<q.length:=by
 grind [iI,Option.some.inj,U4]
def Sq {α:Type} (v:i6) (l:ip α) (b:Nat):Prop:=0<l.length/\v.ownBlock=some b
def Rw.uZ {α:Type} {d:α->ip i6} {S:Nat->Prop} {w w':i5} {v:i6} {l:ip α} (h:Rw d w v l) (f:Fr S w w') (t:∀b,Sq v l b->¬S b):Rw d w' v l:=by
 obtain⟨A,c,rfl,h1,g,h3⟩:=h;refine⟨A,c,rfl,h1,g,λh0=>?_⟩;obtain⟨b,o,rfl,m,n⟩:=h3 h0;exact⟨b,o,rfl,BX m f.size,λj u hu=>f.cell (n j u hu) (t b ⟨h0,rfl⟩)⟩
def Rw.FF {α:Type} {f:α->ip i6} {w:i5} {v:i6} {l:ip α} (h:Rw f w v l) {b:Nat} (d:Sq v l b):b<w.heap.size:=by
 obtain⟨A,c,rfl,h1,g,h3⟩:=h;obtain⟨b',o,rfl,m,_⟩:=h3 d.1;have:b'=b:=jb d.2;omega
def Vx (x:gG) (b:Nat):Prop:=Sq x.va x.n.attrs b\/Sq x.vc x.n.acl b\/Sq x.vd x.n.data b
def Mx (ve vn:i6) (fO:ip gG) (t:fZ) (b:Nat):Prop:=Sq ve t.es b\/Sq vn fO b\/∃x∈fO,Vx x b
def mE.uZ {S:Nat->Prop} {w w':i5} {ve vn:i6} {fO:ip gG} {t:fZ} (h:mE w ve vn fO t) (u:Fr S w w') (v:∀b,Mx ve vn fO t b->¬S b):mE w' ve vn fO t:=
 ⟨h.e.uZ u λb f=>v b (.inl f),h.n.uZ u λb f=>v b (.inr (.inl f)),λx g=>⟨(h.i x g).a.uZ u λb f=>v b (.inr (.inr ⟨x,g,.inl f⟩)),(h.i x g).c.uZ u λb f=>v b (.inr (.inr ⟨x,g,.inr (.inl f)⟩)),(h.i x g).d.uZ u λb f=>v b (.inr (.inr ⟨x,g,.inr (.inr f)⟩))⟩,h.m⟩
def im.FF {w:i5} {x:gG} (h:im w x) {b:Nat} (f:Vx x b):b<w.heap.size:=by
 rcases f with f|f|f
 .exact h.a.FF f
 .exact h.c.FF f
 .exact h.d.FF f
def mE.FF {w:i5} {ve vn:i6} {fO:ip gG} {t:fZ} (h:mE w ve vn fO t) {b:Nat} (d:Mx ve vn fO t b):b<w.heap.size:=by
 rcases d with d|d|⟨x,f,d⟩
 .exact h.e.FF d
 .exact h.n.FF d
 .exact(h.i x f).FF d
def im.uZ {S:Nat->Prop} {w w':i5} {x:gG} (h:im w x) (g:Fr S w w') (m:∀b,Vx x b->¬S b):im w' x:=
 ⟨h.a.uZ g λb f=>m b (.inl f),h.c.uZ g λb f=>m b (.inr (.inl f)),h.d.uZ g λb f=>m b (.inr (.inr f))⟩
section
variable {hs:ip Nat} {H:i5->Prop} {full:Array li} {K:Env->i5->Prop} {ii:ip li} {Y:Env} {w:i5} {d:Tmp} {R:i9} {pos:String} {af:Array Edge}
def Um {P:Program} {w:i5} {A:Option Addr} {n c:Nat} {xs:ip Int} {src e dst:i9} (hu:P.underlying src=some (.slice e)) (he:P.underlying e=some (.int .u8)) (g:P.underlying dst=some .string) (u:XL w (.slice A n c) xs):
  (convert src dst (.slice A n c)).run P w= .ok (.string (strOfNums xs)) w:=by
 obtain⟨x,y,d,_,_,t⟩:=u;injection d with d f m
 subst d;subst m;rcases yc xs.length with h0|h0
 .have v:xs=[]:=BZ h0;subst v;cases A with
  |none=>rw[f,run_convert_bytes_nil w src e hu he _ _ dst g];rfl
  |some a=>
   rw[f,run_convert_bytes_string w src dst e _ _ _ hu he g];simp[Conv.bytesToString,loadCells,loadCellsFrom];rfl
 .obtain⟨b,o,rfl,_,hc⟩:=t h0;refine run_convert_bytes_arg w src e hu he b o n c xs f.symm (λi hi=>?_) dst g;exact hc i _ (by rw[qX,j9 fy,kW,j9 fy];rfl)
def afl {x:i7} {A:Option Addr} {n c:Nat} {zs:ip Int} (f:gh Y x=some (.slice A n c)) (t:XL w (.slice A n c) zs)
  (h:xs prog fD fC hs H full K ii ((d,.string (strOfNums zs))::Y) w) (hm:n4 hs (some d)=false:=by rfl):xs prog fD fC hs H full K (⟨some d,.convert 86 9 x,R,pos,af,none⟩::ii) Y w:=by
 refine gW fx (by simp[gd,Op.operands,f]) ?_
 have m:ja fD fC hs ⟨some d,.convert 86 9 x,R,pos,af,none⟩= .r:=by
  have h1:fD 86=false:=by kernel_rfl
  have g:fC 9=true:=by kernel_rfl
  simp[ja,cls,h1,g,hm]
 rw[m];exact⟨.string (strOfNums zs),by simp[execOp,fR f,Um underlying86 underlying5 underlying9 t],h⟩
end
end Go.Proofs.YtecaahegomdbbaaGreatDoor.gr
namespace Go.Proofs.YtecaahegomdbbaaGreatDoor
open Go.Proofs.Tryz
open Go.Shelf
def OM:Go.Shelf.Ren:=⟨λ|6=>160|15=>228|14=>227|28=>282|29=>283|20=>274|21=>275|22=>276|23=>277|24=>278|25=>279|26=>280|27=>281|46=>314|47=>315|48=>316|49=>317|50=>318|57=>355|n=>n,λ|22=>154|24=>157|25=>228|3=>3|39=>50|0=>0|53=>120|55=>126|4=>4|46=>341|45=>340|50=>64|5=>5|9=>9|66=>367|70=>371|76=>401|77=>92|n=>n,λ|n=>n⟩
def abR:Go.Proofs.SlLaysF.n6 prog OM:={
 mixed:=by kernel_rfl
 f6:=⟨f160.name,by decide,func160.trans (congrArg some fE)⟩
 f14:=⟨f227.name,by decide,func227.trans (congrArg some fE)⟩
 f15:=func228.trans (congrArg some fE)
 f20:=⟨f274.name,by decide,func274.trans (congrArg some fE)⟩
 f21:=⟨f275.name,by decide,func275.trans (congrArg some fE)⟩
 f22:=⟨f276.name,by decide,func276.trans (congrArg some fE)⟩
 f23:=⟨f277.name,by decide,func277.trans (congrArg some fE)⟩
 f24:=⟨f278.name,by decide,func278.trans (congrArg some fE)⟩
 f25:=⟨f279.name,by decide,func279.trans (congrArg some fE)⟩
 f26:=⟨f280.name,by decide,func280.trans (congrArg some fE)⟩
 f27:=⟨f281.name,by decide,func281.trans (congrArg some fE)⟩
 f28:=func282.trans (congrArg some fE)
 f29:=func283.trans (congrArg some fE)
 f46:=⟨f314.name,by decide,func314.trans (congrArg some fE)⟩
 f47:=func315.trans (congrArg some fE)
 f48:=func316.trans (congrArg some fE)
 f49:=⟨f317.name,by decide,func317.trans (congrArg some fE)⟩
 f50:=⟨f318.name,by decide,func318.trans (congrArg some fE)⟩
 f57:=⟨f355.name,by decide,func355.trans (congrArg some fE)⟩
 t0:=underlying0
 a0:=Tryz.isAgg0
 z0:=Tryz.sizeOf0
 v0:=Tryz.zeroValue0
 t3:=underlying3
 a3:=Tryz.isAgg3
 z3:=Tryz.sizeOf3
 v3:=Tryz.zeroValue3
 t4:=underlying4
 a4:=Tryz.isAgg4
 z4:=Tryz.sizeOf4
 v4:=Tryz.zeroValue4
 t5:=underlying5
 a5:=Tryz.isAgg5
 z5:=Tryz.sizeOf5
 v5:=Tryz.zeroValue5
 t9:=underlying9
 a9:=Tryz.isAgg9
 z9:=Tryz.sizeOf9
 v9:=Tryz.zeroValue9
 t22:=underlying154
 a22:=Tryz.isAgg154
 z22:=Tryz.sizeOf154
 v22:=Tryz.zeroValue154
 a24:=Tryz.isAgg157
 z24:=Tryz.sizeOf157
 t25:=underlying228
 a25:=Tryz.isAgg228
 z25:=Tryz.sizeOf228
 v25:=Tryz.zeroValue228
 t39:=underlying50
 a39:=Tryz.isAgg50
 z39:=Tryz.sizeOf50
 v39:=Tryz.zeroValue50
 t45:=underlying340
 a45:=Tryz.isAgg340
 z45:=Tryz.sizeOf340
 v45:=Tryz.zeroValue340
 t46:=underlying341
 a46:=Tryz.isAgg341
 z46:=Tryz.sizeOf341
 v46:=Tryz.zeroValue341
 t50:=underlying64
 a50:=Tryz.isAgg64
 z50:=Tryz.sizeOf64
 v50:=Tryz.zeroValue64
 t53:=underlying120
 a53:=Tryz.isAgg120
 z53:=Tryz.sizeOf120
 v53:=Tryz.zeroValue120
 t55:=underlying126
 a55:=Tryz.isAgg126
 z55:=Tryz.sizeOf126
 v55:=Tryz.zeroValue126
 t66:=underlying367
 a66:=Tryz.isAgg367
 z66:=Tryz.sizeOf367
 v66:=Tryz.zeroValue367
 t70:=underlying371
 a70:=Tryz.isAgg371
 z70:=Tryz.sizeOf371
 v70:=Tryz.zeroValue371
 t76:=underlying401
 a76:=Tryz.isAgg401
 z76:=Tryz.sizeOf401
 v76:=Tryz.zeroValue401
 t77:=underlying92
 a77:=Tryz.isAgg92
 z77:=Tryz.sizeOf92
 v77:=Tryz.zeroValue92}
end Go.Proofs.YtecaahegomdbbaaGreatDoor
namespace Go.Proofs.YtecaahegomdbbaaGreatDoor
open Go.Proofs.Tryz
namespace gr.Wr
variable {x:Int} {l:ip hT}
def qI:ip hT->Int->Option UInt8
 |[],_=>none
 |p::r,x=>if p.pos<=x/\x<gU p then p.data[(x-p.pos).toNat]? else qI r x
theorem mV {p:hT} (h:p.pos<=x/\x<gU p):∃b,p.data[(x-p.pos).toNat]? =some b:=by
 unfold gU at h;exact⟨_,j9 fy⟩
theorem MF:∀(a b:ip hT) (x:Int),qI (a++b) x=(qI a x).or (qI b x)
 |[],b,x=>rfl
 |p::a,b,x=>by
  rw[rf,qI,qI,MF a b x]
  grind [mV]
theorem pU:qI l x=none↔∀p∈l,¬(p.pos<=x/\x<gU p):=by
 induction l<;>grind [qI,mV,reduceCtorEq,List.mem_cons_self,List.mem_cons_of_mem]
theorem IC:∀(l:ip hT) (lo hi x:Int),qI (gZ l lo hi) x=if lo<=x/\x<hi then qI l x else none
 |[],lo,hi,x=>by simp[gZ,qI]
 |p::r,lo,hi,x=>by
  have d:=IC r lo hi x
  grind [gZ,qI,max,min,gU,nf,List.length_take,List.length_drop]
theorem Bd:∀(r:ip hT) (c:hT) (x:Int),qI (l5 c r) x=qI (c::r) x
 |[],c,x=>rfl
 | p::r,c,x=>by
  rw[l5];split
  .rename_i h;rw[Bd r,qI,qI,qI]
   grind [gU,List.length_append,Int.natCast_add,List.length,List.getElem?_append_left,List.getElem?_append_right]
  .rw[qI,qI,Bd r p x]
theorem Kk (l:ip hT) (x:Int):qI (jG l) x=qI l x:=by
 cases l<;>grind [jG,Bd]
def Ja {pos:Int} {s:fL} (h:∀p∈l,0<=p.pos/\gU p<=1099511627776) (x:Int):qI (qZ l pos s) x=if pos<=x/\x<pos+(s.length:Int)then s[(x-pos).toNat]? else qI l x:=by
 grind [qZ,Kk,MF,IC,qI,gU,List.length,mV,pU]
def Yz (hs:jB 1 l) {q:hT} (hq:q∈l) (d:q.pos<=x/\x<gU q):qI l x=q.data[(x-q.pos).toNat]? :=by
 induction l<;>grind [jB,List.pairwise_cons,qI]
abbrev mH:=Nat×Nat
def ug (l:ip mH) (x:Nat):Prop:=∃p∈l,p.1<=x/\x<p.1+p.2
def Ir (l:ip mH):Prop:=l.Pairwise λp q=>p.1+p.2<q.1
def BM (l:ip mH):Prop:=l.Pairwise λp q=>p.1<=q.1
def JQ (l:ip mH):Prop:=∀p∈l,0<p.2
def x8:mH->ip mH->ip mH
 |c,[]=>[c]
 |c,z::r=>if c.1+c.2<z.1 then c::x8 z r else x8 (c.1,max (c.1+c.2) (z.1+z.2)-c.1) r
def Iv:ip mH->ip mH
 |[]=>[]
 |z::r=>x8 z r
theorem wS:∀(r:ip mH) (c:mH),BM (c::r)->JQ (c::r)->Ir (x8 c r)/\JQ (x8 c r)/\(∀x,ug (x8 c r) x↔ug (c::r) x)/\∀q∈x8 c r,c.1<=q.1
 |[],c,_,h=>by grind [x8,Ir,List.mem_singleton]
 | z::r,c,d,h=>by
  unfold BM at d;rw[jA,jA]at d;obtain⟨h1,g,h3⟩:=d;have m:=h1 z j0;have f:=h c j0;have t:=h z iB;rw[x8];split
  .rename_i fY;obtain⟨g1,g2,g3,g4⟩:=wS r z (by grind [BM,List.pairwise_cons]) (λq hq=>h q fM);refine⟨?_,?_,λx=>?_,?_⟩
   .grind [Ir,List.pairwise_cons]
   .intro q hq;rcases iu.1 hq with rfl|hq
    .exact f
    .exact g2 q hq
   .simp_all [ug,iu,j0,qC]
   grind
  .rename_i n
   obtain⟨g1,g2,g3,g4⟩:=wS r (c.1,max (c.1+c.2) (z.1+z.2)-c.1) (by
    grind [BM,List.pairwise_cons,List.mem_cons_of_mem]) (λq hq=>by
    rcases iu.1 hq with rfl|hq
    .dsimp only;omega
    .exact h q (by simp[hq]))
   grind [ug,List.mem_cons_self,List.mem_cons_of_mem]
def OY {l:ip mH} (f:BM l) (h:JQ l):Ir (Iv l)/\JQ (Iv l)/\∀x,ug (Iv l) x↔ug l x:=by
 cases l with
 |nil=>exact⟨List.Pairwise.nil,(λq hq=>by cases hq),λx=>Iff.rfl⟩
 |cons z r=>obtain⟨h1,d,h3,_⟩:=wS r z f h;exact⟨h1,d,h3⟩
theorem zm:∀(a b:ip mH),Ir a->Ir b->JQ a->JQ b->(∀x,ug a x↔ug b x)->a=b
 |[],[],_,_,_,_,_=>rfl
 |[],q::b,_,_,_,u,hc=>by
  obtain⟨p,C,_⟩:=(hc q.1).2 ⟨q,j0,gJ _,by have:=u q j0;omega⟩;cases C
 |p::a,[],_,_,t,_,hc=>by
  obtain⟨q,hq,_⟩:=(hc p.1).1 ⟨p,j0,gJ _,by have:=t p j0;omega⟩;cases hq
 | p::a,q::b,g,m,t,u,hc=>by
  unfold Ir at g m;rw[jA]at g m;have E:=t p j0;have F:=u q j0
  have low:∀(p:mH) (a:ip mH),(∀r∈a,p.1+p.2<r.1)->∀x,ug (p::a) x->p.1<=x:=λp a h x ⟨r,d,n⟩=>by
   grind
  have y:p.1=q.1:=by
   have h1:=low q b m.1 p.1 ((hc p.1).1 ⟨p,j0,gJ _,fy⟩);have D:=low p a g.1 q.1 ((hc q.1).2 ⟨q,j0,gJ _,fy⟩);omega
  have out:∀(p:mH) (a:ip mH),(∀r∈a,p.1+p.2<r.1)->¬ug (p::a) (p.1+p.2):=λp a h ⟨r,d,n⟩=>by
   grind
  have B:p.2=q.2:=by
   rcases zw p.2 q.2 with h|h|h
   .exact absurd ((hc (p.1+p.2)).2 ⟨q,j0,fy,by omega⟩) (out p a g.1)
   .exact h
   .exact absurd ((hc (q.1+q.2)).1 ⟨p,j0,fy,by omega⟩) (out q b m.1)
  have e:p=q:=Prod.ext y B;subst e
  congr 1
  refine zm a b g.2 m.2 (λr d=>t r fM) (λr d=>u r fM) λx=>?_
  constructor
  .rintro⟨r,d,n⟩;have h1:=g.1 r d;obtain⟨w,f,v⟩:=(hc x).1 ⟨r,fM,n⟩;rcases iu.1 f with rfl|f
   .omega
   .exact⟨w,f,v⟩
  .rintro⟨r,d,n⟩;have h1:=m.1 r d;obtain⟨w,f,v⟩:=(hc x).2 ⟨r,fM,n⟩;rcases iu.1 f with rfl|f
   .omega
   .exact⟨w,f,v⟩
end gr.Wr
end Go.Proofs.YtecaahegomdbbaaGreatDoor
namespace Go.Proofs.YtecaahegomdbbaaGreatDoor
open Go.Proofs.Tryz
open Go.Shelf
def MT:Go.Shelf.Ren:=⟨λ|6=>237|15=>228|14=>287|28=>282|29=>283|20=>322|21=>323|22=>324|23=>325|24=>326|25=>327|26=>328|27=>329|46=>359|47=>315|48=>316|49=>360|50=>361|57=>390|n=>n,λ|22=>31|24=>68|25=>297|3=>3|39=>50|0=>0|53=>120|55=>126|4=>4|46=>341|45=>340|50=>64|5=>5|9=>9|66=>367|70=>371|76=>401|77=>92|n=>n,λ|n=>n⟩
def V7:Go.Proofs.SlLaysF0.n6 prog MT:={
 mixed:=by kernel_rfl
 f6:=⟨f237.name,by decide,func237.trans (congrArg some fE)⟩
 f14:=⟨f287.name,by decide,func287.trans (congrArg some fE)⟩
 f15:=func228.trans (congrArg some fE)
 f20:=⟨f322.name,by decide,func322.trans (congrArg some fE)⟩
 f21:=⟨f323.name,by decide,func323.trans (congrArg some fE)⟩
 f22:=⟨f324.name,by decide,func324.trans (congrArg some fE)⟩
 f23:=⟨f325.name,by decide,func325.trans (congrArg some fE)⟩
 f24:=⟨f326.name,by decide,func326.trans (congrArg some fE)⟩
 f25:=⟨f327.name,by decide,func327.trans (congrArg some fE)⟩
 f26:=⟨f328.name,by decide,func328.trans (congrArg some fE)⟩
 f27:=⟨f329.name,by decide,func329.trans (congrArg some fE)⟩
 f28:=func282.trans (congrArg some fE)
 f29:=func283.trans (congrArg some fE)
 f46:=⟨f359.name,by decide,func359.trans (congrArg some fE)⟩
 f47:=func315.trans (congrArg some fE)
 f48:=func316.trans (congrArg some fE)
 f49:=⟨f360.name,by decide,func360.trans (congrArg some fE)⟩
 f50:=⟨f361.name,by decide,func361.trans (congrArg some fE)⟩
 f57:=⟨f390.name,by decide,func390.trans (congrArg some fE)⟩
 t0:=underlying0
 a0:=Tryz.isAgg0
 z0:=Tryz.sizeOf0
 v0:=Tryz.zeroValue0
 t3:=underlying3
 a3:=Tryz.isAgg3
 z3:=Tryz.sizeOf3
 v3:=Tryz.zeroValue3
 t4:=underlying4
 a4:=Tryz.isAgg4
 z4:=Tryz.sizeOf4
 v4:=Tryz.zeroValue4
 t5:=underlying5
 a5:=Tryz.isAgg5
 z5:=Tryz.sizeOf5
 v5:=Tryz.zeroValue5
 t9:=underlying9
 a9:=Tryz.isAgg9
 z9:=Tryz.sizeOf9
 v9:=Tryz.zeroValue9
 t22:=underlying31
 a22:=Tryz.isAgg31
 z22:=Tryz.sizeOf31
 v22:=Tryz.zeroValue31
 t25:=underlying297
 a25:=Tryz.isAgg297
 z25:=Tryz.sizeOf297
 v25:=Tryz.zeroValue297
 t39:=underlying50
 a39:=Tryz.isAgg50
 z39:=Tryz.sizeOf50
 v39:=Tryz.zeroValue50
 t45:=underlying340
 a45:=Tryz.isAgg340
 z45:=Tryz.sizeOf340
 v45:=Tryz.zeroValue340
 t46:=underlying341
 a46:=Tryz.isAgg341
 z46:=Tryz.sizeOf341
 v46:=Tryz.zeroValue341
 t50:=underlying64
 a50:=Tryz.isAgg64
 z50:=Tryz.sizeOf64
 v50:=Tryz.zeroValue64
 t53:=underlying120
 a53:=Tryz.isAgg120
 z53:=Tryz.sizeOf120
 v53:=Tryz.zeroValue120
 t55:=underlying126
 a55:=Tryz.isAgg126
 z55:=Tryz.sizeOf126
 v55:=Tryz.zeroValue126
 t66:=underlying367
 a66:=Tryz.isAgg367
 z66:=Tryz.sizeOf367
 v66:=Tryz.zeroValue367
 t70:=underlying371
 a70:=Tryz.isAgg371
 z70:=Tryz.sizeOf371
 v70:=Tryz.zeroValue371
 t76:=underlying401
 a76:=Tryz.isAgg401
 z76:=Tryz.sizeOf401
 v76:=Tryz.zeroValue401
 t77:=underlying92
 a77:=Tryz.isAgg92
 z77:=Tryz.sizeOf92
 v77:=Tryz.zeroValue92}
end Go.Proofs.YtecaahegomdbbaaGreatDoor
namespace Go.Proofs.YtecaahegomdbbaaGreatDoor
open Go.Proofs.Tryz
open Go.Shelf
def NP:Go.Shelf.Ren:=⟨λ|6=>240|15=>228|14=>289|28=>282|29=>283|20=>330|21=>331|22=>332|23=>333|24=>334|25=>335|26=>336|27=>337|46=>362|47=>315|48=>316|49=>363|50=>364|57=>391|n=>n,λ|22=>32|24=>70|25=>289|3=>3|39=>50|0=>0|53=>120|55=>126|4=>4|46=>341|45=>340|50=>64|5=>5|9=>9|66=>367|70=>371|76=>401|77=>92|n=>n,λ|n=>n⟩
def aaT:Go.Proofs.SlLaysF0.n6 prog NP:={
 mixed:=by kernel_rfl
 f6:=⟨f240.name,by decide,func240.trans (congrArg some fE)⟩
 f14:=⟨f289.name,by decide,func289.trans (congrArg some fE)⟩
 f15:=func228.trans (congrArg some fE)
 f20:=⟨f330.name,by decide,func330.trans (congrArg some fE)⟩
 f21:=⟨f331.name,by decide,func331.trans (congrArg some fE)⟩
 f22:=⟨f332.name,by decide,func332.trans (congrArg some fE)⟩
 f23:=⟨f333.name,by decide,func333.trans (congrArg some fE)⟩
 f24:=⟨f334.name,by decide,func334.trans (congrArg some fE)⟩
 f25:=⟨f335.name,by decide,func335.trans (congrArg some fE)⟩
 f26:=⟨f336.name,by decide,func336.trans (congrArg some fE)⟩
 f27:=⟨f337.name,by decide,func337.trans (congrArg some fE)⟩
 f28:=func282.trans (congrArg some fE)
 f29:=func283.trans (congrArg some fE)
 f46:=⟨f362.name,by decide,func362.trans (congrArg some fE)⟩
 f47:=func315.trans (congrArg some fE)
 f48:=func316.trans (congrArg some fE)
 f49:=⟨f363.name,by decide,func363.trans (congrArg some fE)⟩
 f50:=⟨f364.name,by decide,func364.trans (congrArg some fE)⟩
 f57:=⟨f391.name,by decide,func391.trans (congrArg some fE)⟩
 t0:=underlying0
 a0:=Tryz.isAgg0
 z0:=Tryz.sizeOf0
 v0:=Tryz.zeroValue0
 t3:=underlying3
 a3:=Tryz.isAgg3
 z3:=Tryz.sizeOf3
 v3:=Tryz.zeroValue3
 t4:=underlying4
 a4:=Tryz.isAgg4
 z4:=Tryz.sizeOf4
 v4:=Tryz.zeroValue4
 t5:=underlying5
 a5:=Tryz.isAgg5
 z5:=Tryz.sizeOf5
 v5:=Tryz.zeroValue5
 t9:=underlying9
 a9:=Tryz.isAgg9
 z9:=Tryz.sizeOf9
 v9:=Tryz.zeroValue9
 t22:=underlying32
 a22:=Tryz.isAgg32
 z22:=Tryz.sizeOf32
 v22:=Tryz.zeroValue32
 t25:=underlying289
 a25:=Tryz.isAgg289
 z25:=Tryz.sizeOf289
 v25:=Tryz.zeroValue289
 t39:=underlying50
 a39:=Tryz.isAgg50
 z39:=Tryz.sizeOf50
 v39:=Tryz.zeroValue50
 t45:=underlying340
 a45:=Tryz.isAgg340
 z45:=Tryz.sizeOf340
 v45:=Tryz.zeroValue340
 t46:=underlying341
 a46:=Tryz.isAgg341
 z46:=Tryz.sizeOf341
 v46:=Tryz.zeroValue341
 t50:=underlying64
 a50:=Tryz.isAgg64
 z50:=Tryz.sizeOf64
 v50:=Tryz.zeroValue64
 t53:=underlying120
 a53:=Tryz.isAgg120
 z53:=Tryz.sizeOf120
 v53:=Tryz.zeroValue120
 t55:=underlying126
 a55:=Tryz.isAgg126
 z55:=Tryz.sizeOf126
 v55:=Tryz.zeroValue126
 t66:=underlying367
 a66:=Tryz.isAgg367
 z66:=Tryz.sizeOf367
 v66:=Tryz.zeroValue367
 t70:=underlying371
 a70:=Tryz.isAgg371
 z70:=Tryz.sizeOf371
 v70:=Tryz.zeroValue371
 t76:=underlying401
 a76:=Tryz.isAgg401
 z76:=Tryz.sizeOf401
 v76:=Tryz.zeroValue401
 t77:=underlying92
 a77:=Tryz.isAgg92
 z77:=Tryz.sizeOf92
 v77:=Tryz.zeroValue92}
end Go.Proofs.YtecaahegomdbbaaGreatDoor
namespace Go.Proofs.YtecaahegomdbbaaGreatDoor.gr
open Go.Proofs.Tryz
open Go.RowKit
variable {g:Nat} {t:i9} {w:i5}
def FI (w:i5) (g:Nat) (l:ip (fL×Int)):Prop:=∃es clock,w.heap[g]? =some (.map es clock)/\es.toList.map (λe=>(e.key,e.val))=l.map λp=>(Value.U p.1,Value.I p.2)
def Jt (k:fL):ip (fL×Int)->Option Int
 |[]=>none
 |p::r=>if p.1=k then some p.2 else Jt k r
theorem FI.lt {l:ip (fL×Int)} (h:FI w g l):g<w.heap.size:=by
 obtain⟨es,clock,h1,_⟩:=h
 grind
def FI.fr {S:Nat->Prop} {w':i5} {l:ip (fL×Int)} (h:FI w g l) (m:Fr S w w') (f:¬S g):FI w' g l:=by
 have fY:=h.lt;obtain⟨es,clock,h1,d⟩:=h;exact⟨es,clock,(m.block g fY f).trans h1,d⟩
def FI.ext {w':i5} {l:ip (fL×Int)} (h:FI w g l) (d:Ext w w'):FI w' g l:=h.fr d λf=>f
def XJ (a b:fL):(su a==su b)=decide (a=b):=by
 grind [MapKept.bytes_beq,decide_eq_true,decide_eq_false,XZ]
theorem rJ (k:fL):∀(es:ip MapEntry) (l:ip (fL×Int)) (i:Nat),es.map (λe=>(e.key,e.val))=l.map (λp=>(Value.U p.1,Value.I p.2))->
  ∃r,Instr.findNow .string (.U k) es i=some r/\r.map (·.2)=(Jt k l).map (Value.int .i64)
 |[],[],_,_=>⟨none,rfl,rfl⟩
 |[],_::_,_,h=>by simp at h
 |_::_,[],_,h=>by simp at h
 | e::es,p::l,i,h=>by
  simp only[jj,rv,P0]at h;obtain⟨⟨h1,d⟩,h3⟩:=h;have hs:Instr.sameNow .string (.U k) e.key=some (decide (k=p.1)):=by rw[h1,<-XJ];rfl
  by_cases hk:p.1=k
  .simp_all [Instr.findNow,decide_eq_true,Jt]
  .obtain⟨r,f,g⟩:=rJ k es l (i+1) h3
   grind [Jt,Instr.findNow,decide_eq_false]
section
variable {hs:ip Nat} {H:i5->Prop} {full:Array li} {K:Env->i5->Prop} {ii:ip li} {Y:Env} {w:i5} {d:Tmp} {R:i9} {pos:String} {af:Array Edge}
def adP (h:∀w',FI w' w.heap.size []->Ext w w'->w'.heap.size=w.heap.size+1->xs prog fD fC hs gS full K ii ((d,.map (some w.heap.size))::Y) w'):
  xs prog fD fC hs gS full K (⟨some d,.makeMap t none,R,pos,af,none⟩::ii) Y w:=by
 refine xw (by simp[gd,Op.operands]) fx (v:= .map (some w.heap.size)) (w':=w.alloc (.map #[] 0)) ?_ (h _ ⟨#[],0,by
  show(w.heap.push _)[w.heap.size]? =_
  simp,rfl⟩ (Fr.alloc _ _ _) iB) True.intro
 simp[execOp,run_makeMap]
def UK {w:i5} {l:ip (fL×Int)} (u:FI w g l) (t d f:i9) (hu:prog.underlying t=some (.map d f)) (hk:prog.underlying d=some .string) (C:(zeroValue f).run prog w= .ok (.I 0) w) (k:fL):
  (Instr.lookup t (.map (some g)) (.U k) false).run prog w= .ok (.I ((Jt k l).getD 0)) w:=by
 obtain⟨es,clock,h1,n⟩:=u;obtain⟨r,h3,m⟩:=rJ k es.toList l 0 n;have hc:(Instr.checkKey es.isEmpty 10000 d (.U k)).run prog w= .ok () w:=by grind [MapKept.run_checkKey,su,MapKept.IsKey]
 have y:(getObj g).run prog w= .ok (.map es clock) w:=by simp[getObj,Sem.run,h1]
 have x:(Instr.findKey d (.U k) es.toList).run prog w= .ok r w:=by
  simp[Instr.findKey,run_underlying hk,h3]
 simp only[Instr.lookup,tg,run_underlying hu,tp,y,hc,P7,x];cases r with
 |none=>
  have:Jt k l=none:=by simpa using m.symm
  simp_all
 |some q=>
  obtain⟨j,v⟩:=q;simp only[tT]at m;cases B:Jt k l<;>simp_all
def adz {m f:i9} {x y:i7} {l:ip (fL×Int)} {k:fL} (hu:prog.underlying t=some (.map m f)) (hk:prog.underlying m=some .string) (C:∀w',(zeroValue f).run prog w'= .ok (.I 0) w') (n:FI w g l) (u:gh Y x=some (.map (some g))) (B:gh Y y=some (.U k))
  (h:xs prog fD fC hs gS full K ii ((d,.I ((Jt k l).getD 0))::Y) w):xs prog fD fC hs gS full K (⟨some d,.lookup t x y false,R,pos,af,none⟩::ii) Y w:=by
 refine xw (v:= .I ((Jt k l).getD 0)) (w':=w) (by grind [gd,Op.operands]) fx ?_ h True.intro;simp[execOp,fR u,fR B,UK n t m f hu hk (C w) k]
def ac9 {d u:i9} {x y z:i7} {l:ip (fL×Int)} {k:fL} {v:Int} (hu:prog.underlying t=some (.map d u)) (hk:prog.underlying d=some .string) (n:FI w g l) (C:Jt k l=none) (F:gh Y x=some (.map (some g))) (G:gh Y y=some (.U k)) (H:gh Y z=some (.I v))
  (h:∀w',FI w' g (l++[(k,v)])->Fr (· =g) w w'->xs prog fD fC hs gS full K ii Y w'):xs prog fD fC hs gS full K (⟨none,.mapUpdate t x y z,R,pos,af,none⟩::ii) Y w:=by
 have fY:=n.lt;obtain⟨es,clock,h1,f⟩:=n;obtain⟨r,h3,m⟩:=rJ k es.toList l 0 f
 have D:r=none:=by
  rw[C]at m;cases r with
  |none=>rfl
  |some _=>cases m
 subst D;have hc:(Instr.checkKey false 10000 d (.U k)).run prog w= .ok () w:=by grind [MapKept.run_checkKey,su,MapKept.IsKey]
 have E:(Instr.mapUpdate t (.map (some g)) (.U k) (.I v)).run prog w= .ok () {w with heap:=w.heap.setIfInBounds g (.map (es.push {key:= .U k,val:= .I v,born:=clock}) (clock+1))}:=by
  simp[Instr.mapUpdate,run_underlying hu,VN h1,hc,WB hk h3,VU _ h1,Result.andThen]
 refine gW fx (by grind [gd,Op.operands]) ?_;have B:ja fD fC hs ⟨none,.mapUpdate t x y z,R,pos,af,none⟩= .w:=rfl;rw[B];show out prog ((execOp (ev Y) ⟨none,.mapUpdate t x y z,R,pos,af,none⟩).run prog w) _
 have e:(execOp (ev Y) ⟨none,.mapUpdate t x y z,R,pos,af,none⟩).run prog w= .ok .skip {w with heap:=w.heap.setIfInBounds g (.map (es.push {key:= .U k,val:= .I v,born:=clock}) (clock+1))}:=by
  simp[execOp,fR F,fR G,fR H,E]
 rw[e];refine⟨True.intro,h _ ⟨es.push {key:= .U k,val:= .I v,born:=clock},clock+1,?_,?_⟩ ⟨rfl,rfl,rfl,?_,?_⟩⟩
 .grind
 .simp[f]
 .grind
 grind
end
end Go.Proofs.YtecaahegomdbbaaGreatDoor.gr
namespace Go.Proofs.YtecaahegomdbbaaGreatDoor
open Go.Proofs.Tryz
namespace gr.Sz
theorem iK:∀(a b:ip hT),fF (a++b)=fF a+fF b
 |[],b=>by rw[tz];simp[fF]
 |p::a,b=>by rw[rf,fF,fF,iK a b];omega
theorem rl:∀(r:ip hT) (c:hT),fF (l5 c r)=c.data.length+fF r
 |[],c=>rfl
 |p::r,c=>by
  rw[l5];split
  .rw[rl r];simp only[fF,ib];omega
  .rw[fF,rl r];simp only[fF]
def Eh (l:ip hT):fF (jG l)=fF l:=by
 cases l with
 |nil=>rfl
 |cons p r=>rw[jG,rl];rfl
def NY (l:ip hT) (pos:Int) (s:fL):fF (qZ l pos s)<=2*fF l+s.length:=by
 unfold qZ;rw[Eh,iK,iK];have h1:=lL l 0 pos;have d:=lL l (pos+(s.length:Int)) 1099511627777;simp only[fF];omega
def wj (n:Nd) (pos:Int) (s:fL):fF (gy n pos s).1.data<=2*fF n.data+s.length:=by
 unfold gy;have:=NY n.data pos s
 repeat' split
 all_goals first|exact this|(dsimp only;omega)
def KA (n:Nd) (size:Int):fF (kx n size).1.data<=fF n.data:=by
 unfold kx;split
 .exact gJ _
 .exact lL _ _ _
def EA (u:Nat) {p:fL} (g:p.length<=100):fF (oH u p (mkNode u)).data<=300:=by
 have f:=vt (u% 1000)
 have ht:(pv (u% 1000)).length<=65:=by
  unfold pv;rw[ib,ib];simp only[iP,kL];omega
 have h1:=wj (mkNode u) (u/4% 2*600:Nat) (pv (u% 1000));have h0:fF (mkNode u).data=0:=rfl;have d:=wj (gy (mkNode u) (u/4% 2*600:Nat) (pv (u% 1000))).1 (u% 90*10:Nat) p;unfold oH;dsimp only
 have h3:fF (if u% 2=0 then(gy (gy (mkNode u) (u/4% 2*600:Nat) (pv (u% 1000))).1 (u% 90*10:Nat) p).1 else(gy (mkNode u) (u/4% 2*600:Nat) (pv (u% 1000))).1).data<=300:=by
  split<;>omega
 split
 .exact ly (KA _ _) h3
 .exact h3
def Eo {m:uW} (h:∀n∈m.ns,fF n.data<=300) (u:Nat):∀n∈(hX m u).ns,fF n.data<=300:=by
 unfold hX;split
 .exact h
 .rename_i p f;have g:=kO (qb f).1
  have key:∀x:Nd,fF x.data<=300->∀n∈m.ns++[x],fF n.data<=300:=λx t n d=>by
   rcases iS.1 d with d|d
   .exact h n d
   .rw[jS.1 d];exact t
  repeat' split
  all_goals first|exact h|exact key _ (iF _)|exact key _ (EA u g)
theorem uS:∀(l:ip Nat) (m:uW),(∀n∈m.ns,fF n.data<=300)->∀n∈(l.foldl hX m).ns,fF n.data<=300
 |[],_,h=>h
 |u::l,m,h=>by rw[wa];exact uS l _ (Eo h u)
theorem uj {k:Nat}:∀(l:ip Nd),(∀n∈l,fF n.data<=k)->gf l<=k*l.length
 |[],_=>iF _
 |n::l,h=>by
  have h1:=uj l λx d=>h x (qC _ d)
  have f:=h n j0;rw[gf,iP,Nat.mul_succ];omega
theorem D6:∀(l:ip En) (u:Nat),kE u l<=u+l.length
 |[],u=>gJ _
 |e::r,u=>by
  rw[kE,iP];split
  .have:=D6 r u;omega
  .have:=D6 r (u+1);omega
def T1 {t:fZ} (h:gM t=true):t.ns.length<=t.es.length:=by
 have h1:=DL h;have d:=D6 t.es 0;omega
def MX (l:ip Nat):∀n∈(Nr l).ns,fF n.data<=300:=by
 intro n d
 have f:∀x∈(v7 l).ns,fF x.data<=300:=uS _ _ λx g=>by
  rw[jS.1 g];exact iF _
 unfold Nr jy at d;obtain⟨k,_,rfl⟩:=lp.1 d;rw[kW];cases hk:(v7 l).ns[k.toNat]? with
 |none=>exact iF _
 |some x=>exact f x (jT hk)
def Cb (l:ip Nat):gf (Nr l).ns<=7800:=by
 have h1:=uj _ (MX l);have d:=T1 (EM l);have h3:=E5 l;omega
end gr.Sz
end Go.Proofs.YtecaahegomdbbaaGreatDoor
namespace Go.Proofs.YtecaahegomdbbaaGreatDoor.gr
open Go.Proofs.Tryz
open Go.RowKit
variable {A:Array Nat} {full:Array li} {Y:Env} {l:ip Nat} {N i:Nat} {o:li} {w:i5}
def EN (w:i5):Prop:=Lib.TabIs prog w "internal/strconv.uint64pow10" .u64 Lib.pow10Tab
def EN.ext {w':i5} (h:EN w) (f:Ext w w'):EN w':=by
 unfold EN Lib.TabIs at h|-;rw[<-h];unfold World.var? at h|-;cases m:prog.globalNamed "internal/strconv.uint64pow10"with
 |none=>rfl
 | some g=>
  rw[m]at h
  have fY:g<w.heap.size:=by
   rcases p9 g w.heap.size with d|d
   .exact d
   .simp only[Cy,FB d]at h;cases h
  simp only[Cy,f.block g fY (λd=>d)]
def lr (full:Array li) (l:ip Nat) (i:Nat):Bool:=match full[i]? with
 |none=>false
 |some o=>o.after.all λe=>!Region.binds .any e||!(l.contains e.on)
theorem sG (d:full[i]? =some o):lr full l i=true↔∀e∈o.after,Region.binds .any e=true->e.on∉l:=by
 grind [lr,Array.all_eq_true_iff_forall_mem,Region.binds]
section
variable {P:Program} {fD fC:i9->Bool} {hs:ip Nat} {H:i5->Prop}
def VK (P:Program) (fD fC:i9->Bool) (hs:ip Nat) (H:i5->Prop) (full:Array li) (K:Act->i5->Prop):Nat->ip Nat->Act->i5->Prop
 |0,l,a,w=>l=[]/\K a w
 |f+1,l,a,w=>(l=[]->K a w)/\∀i o,i∈l->full[i]? =some o->lr full l i=true->s1 P fD fC hs H full o (VK P fD fC hs H full K f (l.erase i)) a w
def WE (full:Array li) (l:ip Nat):Prop:=∀i o,full[i]? =some o->i∉l->∀e∈o.after,Region.binds .any e=true->e.on∉l
def Dk (full:Array li) (A:Array Nat):Bool:=
 Region.noSelect full&&(List.range full.size).all λi=>
  match full[i]? with
  |none=>false
  |some o=>
   (o.after.all λe=>!Region.binds .any e||decide (e.on<i))&&
   (List.range i).all λj=>!(A.getD i 0).testBit j||o.after.any λe=>Region.binds .any e&&(e.on==j||(decide (j<e.on)&&(A.getD e.on 0).testBit j))
structure Cv (full:Array Oper) (A:Array Nat):Prop where
 V3:Region.noSelect full=true
 down:∀i o,full[i]? =some o->∀e∈o.after,Region.binds .any e=true->e.on<i
 WR:∀i o,full[i]? =some o->∀j,j<i->(A.getD i 0).testBit j=true->∃e∈o.after,Region.binds .any e=true/\(e.on=j\/(j<e.on/\(A.getD e.on 0).testBit j=true))
def Kd (h:Dk full A=true):Cv full A:=by
 unfold Dk at h;rw[iU]at h
 have g:∀i o,full[i]? =some o->(o.after.all λe=>!Region.binds .any e||decide (e.on<i))=true/\
   ∀j,j<i->(!(A.getD i 0).testBit j||o.after.any λe=>Region.binds .any e&&(e.on==j||(decide (j<e.on)&&(A.getD e.on 0).testBit j)))=true:=fM
 refine⟨h.1,λi o d e he m=>?_,λi o d j n f=>?_⟩<;>grind [Array.all_eq_true_iff_forall_mem,Bool.not_true,Array.any_eq_true']
theorem Ma {full:Array li} {A:Array Nat} (hq:Cv full A) {l:ip Nat} (hc:WE full l) {j:Nat}:∀(m k:Nat),k<m->k<full.size->k∉l->(A.getD k 0).testBit j=true->j<k->j∉l
 |0,k,hk,_,_,_,_=>fy
 |m+1,k,hk,x,pA,g,t=>by
  obtain⟨o,d⟩:∃o,full[k]? =some o:=lX;obtain⟨e,he,f,u⟩:=hq.WR k o d j t g;have hle:=hc k o d pA e he f;have w:=hq.down k o d e he f;rcases u with v|⟨fY,n⟩
  .grind
  .exact Ma hq hc m e.on fy fy hle n fY
theorem S7 (hq:Cv full A) (hc:WE full l) {j:Nat} (d:full[j]? =some o) (v:lr full l j=true) (t:i<j) (m:(A.getD j 0).testBit i=true):i∉l:=by
 obtain⟨e,he,f,u⟩:=hq.WR j o d i t m;have hle:=(sG d).1 v e he f;have w:=hq.down j o d e he f;have x:j<full.size:=(KE.1 d).1;rcases u with g|⟨fY,n⟩
 .rw[<-g];exact hle
 .exact Ma hq hc (e.on+1) e.on fy fy hle n fY
def WE.erase {full:Array li} {l:ip Nat} (hc:WE full l) (t:l.Nodup) {j:Nat} {o:li} (u:full[j]? =some o) (v:lr full l j=true):WE full (l.erase j):=λi m g hi e he d hm=>by
 have f:=Wq hm
 by_cases n:i=j
 .grind [sG]
 .exact hc i m g fM e he d f
def Cp {j:Nat} (d:lr full l j=true):lr full (l.erase i) j=true:=by
 grind [lr,sG,List.mem_of_mem_erase]
def vG (fD fC:i9->Bool) (hs:ip Nat) (full:Array li) (A:Array Nat) (l:ip Nat) (i:Nat):Bool:=
 l.contains i&&lr full l i&&l.all λj=>j==i||free fD fC hs full i j||(decide (i<j)&&(A.getD j 0).testBit i)
structure X1 (fD fC:TypeId->Bool) (hs:List Nat) (full:Array Oper) (A:Array Nat) (l:List Nat) (i:Nat):Prop where
 mem:i∈l
 rdy:lr full l i=true
 all:∀j∈l,j≠i->free fD fC hs full i j=true\/(i<j/\(A.getD j 0).testBit i=true)
def Jm (h:vG fD fC hs full A l i=true):X1 fD fC hs full A l i:=by
 unfold vG at h;simp only[iU,List.contains_iff_mem,ld,uf,beq_iff_eq,decide_eq_true_eq]at h;refine⟨h.1.1,h.1.2,λj d f=>?_⟩
 grind
theorem HU {full:Array li} {A:Array Nat} (hq:Cv full A) {K:Act->i5->Prop}:∀(f:Nat) (l:ip Nat) (i:Nat) (o:li) (a:Act) (w:i5),H w->l.length=f+1->l.Nodup->WE full l->X1 fD fC hs full A l i->full[i]? =some o->
  s1 P fD fC hs H full o (VK P fD fC hs H full K f (l.erase i)) a w->VK P fD fC hs H full K (f+1) l a w
 | f,l,i,o,a,w,hw,hlen,x,hc,d,n,h=>by
  refine⟨fM,λj t E m y=>?_⟩
  by_cases C:j=i
  .grind
  have g:free fD fC hs full i j=true:=by
   rcases d.all j E C with B|⟨h1,v⟩
   .exact B
   .exact absurd d.mem (by grind [S7])
  have F:j∈l.erase i:=fM;have hle:(l.erase i).length=f:=by rw[VX d.mem,hlen];rfl
  cases f with
  |zero=>
   grind
  | succ f=>
   unfold free at g;rw[n,m]at g;simp only[iU]at g
   have v:s1 P fD fC hs H full o (s1 P fD fC hs H full t (VK P fD fC hs H full K f ((l.erase i).erase j))) a w:=
    yO hw (λu w' _ k=>k.2 j t F m (Cp y)) h
   have h3:=L4 hw g.1 g.2 (λcs b=>Au hq.V3 i o cs b n) (λcs b=>Au hq.V3 j t cs b m) v;rw[List.erase_comm]at h3;have D:i∈l.erase j:=fM;refine yO hw (λu w' I k=>?_) h3
   exact HU hq f (l.erase j) i o u w' I fM (x.erase j) (hc.erase x m y)
    ⟨D,Cp d.rdy,λJ L G=>d.all J fM G⟩ n k
def u0 (hq:Cv full A) {K:Act->i5->Prop} {Q:Exit->Act->i5->Prop} (v:∀a w,K a w->Q .normal a w):
  ∀(f:Nat) (listed:Array Bool) (l:ip Nat) (a:Act) (w:i5),H w->listed.size=full.size->l.length=f->l.Nodup->(∀i,i∈l↔i<full.size/\listed.getD i false=false)->
   VK P fD fC hs H full K f l a w->wpAny P .any full Q f listed a w:=by
 intro f;have rdy:∀(listed:Array Bool) (l:ip Nat),listed.size=full.size->(∀i,i∈l↔i<full.size/\listed.getD i false=false)->∀i,i∈Region.ready .any full listed->i∈l/\∃o,full[i]? =some o/\lr full l i=true:=by grind [mem_ready,Array.size,Array.getElem?_eq_some_iff,sG,Array.getD_eq_getD_getElem?,Array.getElem?_eq_getElem]
 have stuck:∀(listed:Array Bool) (l:ip Nat),listed.size=full.size->(∀i,i∈l↔i<full.size/\listed.getD i false=false)->Region.ready .any full listed=[]->∀i,i∉l:=λlisted l n d m i=>by
  induction i using Nat.strongRecOn with
  | _ i y=>
   intro hi;have h1:=(d i).1 hi;obtain⟨o,g⟩:∃o,full[i]? =some o:=lX
   have:i∈Region.ready .any full listed:=by
    rw[mem_ready];refine⟨?_,o,g,λe he C=>?_⟩
    .grind
    .have F:=hq.down i o g e he C
     grind
   grind
 have empty:∀(l:ip Nat),(∀i,i∉l)->l=[]:=λl h=>by
  cases l with
  |nil=>rfl
  |cons i r=>exact absurd iB (h i)
 induction f with
 | zero=>
  intro listed l a w hw n hlen t d h;obtain⟨rfl,hk⟩:=h;refine⟨?_,v _ _ hk⟩;cases m:Region.ready .any full listed with
  |nil=>rfl
  |cons i r=>
   have:=(rdy listed [] n d i (by rw[m];simp)).1;cases this
 | succ f y=>
  intro listed l a w hw n hlen t d h;refine⟨λm=>v _ _ (h.1 (empty l fM)),λi hi=>?_⟩;obtain⟨D,o,g,m⟩:=rdy listed l n d i hi;have fY:i<full.size:=fM;refine oK (fD:=fD) (fC:=fC) (hs:=hs) hw (λB w' E k=>?_) g (h.2 i o D g m);refine y _ (l.erase i) B w' E (by simpa using n) fM (t.erase i) (λj=>?_) k;rw[t.mem_erase_iff]
  by_cases x:j=i
  .subst x;constructor
   .grind
   .rintro⟨_,u⟩;rw[pq,SH fy]at u;cases u
  .rw[getD_set_ne false (uG x),d j]
   grind
def xg (P:Program) (fD fC:i9->Bool) (hs:ip Nat) (H:i5->Prop) (full:Array li) (N:Nat) (K:Env->i5->Prop) (l:ip Nat) (Y:Env) (w:i5):Prop:=
 l.Nodup->WE full l->H w->∀a,Fits N Y a->VK P fD fC hs H full (λf w'=>∃d,Fits N d f/\K d w') l.length l a w
structure qP (full:Array Oper) (N:Nat) (A:Array Nat):Prop where
 a:Cv full A
 d:∀(i:Nat) (o:Oper),full[i]? =some o->∀t,o.dst=some t->t<N
theorem EE {K:Env->i5->Prop} (h:K Y w):xg P fD fC hs H full N K [] Y w:=λ_ _ _ _ d=>⟨rfl,Y,d,h⟩
theorem Mc (m:qP full N A) {K:Env->i5->Prop} (n:l.Nodup) (hc:WE full l) (hw:H w) (t:full[i]? =some o) (x:lr full l i=true)
  (h:xs P fD fC hs H full (xg P fD fC hs H full N K (l.erase i)) [o] Y w) (a:Act) (u:Fits N Y a):
  s1 P fD fC hs H full o (VK P fD fC hs H full (λg w'=>∃f,Fits N f g/\K f w') (l.erase i).length (l.erase i)) a w:=by
 have:=OD (F:=λ_=>0) (fs:=[0]) (is:=[i]) (l:=[o]) m.a.V3 m.d (K:=xg P fD fC hs H full N K (l.erase i)) (K':=VK P fD fC hs H full (λg w'=>∃f,Fits N f g/\K f w') (l.erase i).length (l.erase i))
  (λf g w' v y k=>k (n.erase i) (hc.erase n t x) y g v) (.cons t rfl .nil) Y a w hw u h
 simp_all [ss]
theorem Ey (m:qP full N A) {K:Env->i5->Prop} (n:vG fD fC hs full A l i=true) (u:full[i]? =some o)
  (h:xs P fD fC hs H full (xg P fD fC hs H full N K (l.erase i)) [o] Y w):xg P fD fC hs H full N K l Y w:=λt hc hw a v=>by
 have d:=Jm n;have hlen:(l.erase i).length=l.length-1:=VX d.mem;have x:0<l.length:=WZ d.mem;have:=HU (P:=P) (fD:=fD) (fC:=fC) (hs:=hs) (H:=H) (K:=λg w'=>∃f,Fits N f g/\K f w') m.a (l.length-1) l i o a w hw fy t hc d u (by grind [Mc,X1.rdy])
 grind
def zd (g:qP full N A) {K:Env->i5->Prop} (x:0<l.length)
  (h:∀i o,i∈l.filter (lr full l)->full[i]? =some o->xs P fD fC hs H full (xg P fD fC hs H full N K (l.erase i)) [o] Y w):xg P fD fC hs H full N K l Y w:=λt hc hw a m=>by
 obtain⟨f,n⟩:∃f,l.length=f+1:=lX;rw[n];refine⟨fM,λi o v d u=>?_⟩;have:=Mc g t hc hw d u (h i o fM d) a m
 grind
def qL (fD fC:i9->Bool) (hs:ip Nat) (full:Array li) (A:Array Nat):ip Nat->ip Nat->ip Nat->Bool
 |l,[],l'=>l==l'
 |l,i::is,l'=>vG fD fC hs full A l i&&qL fD fC hs full A (l.erase i) is l'
theorem uq {full:Array li} {N:Nat} {A:Array Nat} (f:qP full N A) {K:Env->i5->Prop} {l':ip Nat}:∀{is l:ip Nat} {io:ip li} {Y:Env} {w:i5},qL fD fC hs full A l is l'=true->is.map (full[·]?)=io.map some->
  xs P fD fC hs H full (xg P fD fC hs H full N K l') io Y w->xg P fD fC hs H full N K l Y w
 |[],l,[],Y,w,h1,_,h=>by
  have:l=l':=by simpa[qL]using h1
  subst this;exact h
 |[],_,_::_,_,_,_,d,_=>by simp at d
 |_::_,_,[],_,_,_,d,_=>by simp at d
 |i::is,l,o::io,Y,w,h1,d,h=>by
  rw[qL,iU]at h1;rw[jj,jj,rv]at d;refine Ey f h1.1 d.1 ?_;obtain⟨g,t,ht,n⟩:=h;refine⟨g,t,λe=>⟨(ht e).1,?_⟩,λe=>uq f h1.2 d.2 (n e)⟩;have m:=(ht e).2;revert m;generalize ja fD fC hs o=c;intro m;cases c with
  |p=>obtain⟨v,q1,q2⟩:=m;exact⟨v,q1,uq f h1.2 d.2 q2⟩
  |r=>obtain⟨v,q1,q2⟩:=m;exact⟨v,q1,uq f h1.2 d.2 q2⟩
  |h=>obtain⟨v,q1,q2⟩:=m;exact⟨v,q1,uq f h1.2 d.2 q2⟩
  |w=>exact uI (λv w' k=>⟨k.1,uq f h1.2 d.2 k.2⟩) m
end
section
variable {hs:ip Nat} {H:i5->Prop} {K:Env->i5->Prop} {Y:Env} {w:i5} {l:ip li} {N:Nat}
def pR (d:pH N l.toArray=true) (hq:Dk l.toArray A=true):qP l.toArray N A:=⟨Kd hq,(mT d).2⟩
def Ya {fn:Func} {d:i6->i5->Prop} {k:ip It} {id:Nat} (n:Nat) (hs:ip Nat) (H:i5->Prop) (B:l.length=n) (x:pH fn.ntmps l.toArray=true) (hq:Dk l.toArray (Region.before l.toArray)=true) (hw:H w.drew)
  (h:qP l.toArray fn.ntmps (Region.before l.toArray)->xg prog fD fC hs H l.toArray fn.ntmps (T prog fn d k) (List.range n) Y w.drew):
  T prog fn d (.code (.region id l.toArray true)::k) Y w:=λa v=>by
 have t:=pR x hq;have m:=h t Dx (λi o C hi=>fM) hw a v;rw[CA]at m;refine wp_region_any mixed ?_;have u:l.toArray.size=n:=by simpa using B
 rw[u];refine u0 (P:=prog) (fD:=fD) (fC:=fC) (hs:=hs) (H:=H) t.a (K:=λf w'=>∃g,Fits fn.ntmps g f/\T prog fn d k g w') (λf w' ⟨g,y,ht⟩=>ht f y) n _ (List.range n) a _ hw (by simp[u]) iB Dx (λi=>?_) m
 simp_all
def opsOf (l:ip li):ip Nat->ip li
 |[]=>[]
 |i::is=>match l[i]? with
  |some o=>o::opsOf l is
  |none=>[]
theorem CI:∀{is:ip Nat},is.all (· <l.length)=true->is.map (l.toArray[·]?)=(opsOf l is).map some
 |[],_=>rfl
 |i::is,h=>by
  rw[ra,iU,decide_eq_true_eq]at h;simp only[jj,opsOf,po,j9 h.1];rw[<-CI h.2];simp
def UY {d:ip Nat} (is l':ip Nat) {io:ip li} (g:qP l.toArray N A) (h1:qL fD fC hs l.toArray A d is l'=true) (f:is.all (· <l.length)=true) (h3:opsOf l is=io)
  (h:xs prog fD fC hs H l.toArray (xg prog fD fC hs H l.toArray N K l') io Y w):xg prog fD fC hs H l.toArray N K d Y w:=
 uq g h1 (CI f) (by rw[h3];exact h)
def Z7 {f:ip Nat} (a b:Nat) (la lb:ip Nat) {g m:li} (v:qP l.toArray N A) (B:f.filter (lr l.toArray f)=[a,b]) (x:l[a]? =some g) (y:l[b]? =some m) (n:f.erase a=la) (t:f.erase b=lb)
  (h1:xs prog fD fC hs H l.toArray (xg prog fD fC hs H l.toArray N K la) [g] Y w) (u:xs prog fD fC hs H l.toArray (xg prog fD fC hs H l.toArray N K lb) [m] Y w):xg prog fD fC hs H l.toArray N K f Y w:=by
 subst n;subst t;refine zd v fM λi o hi d=>?_
 rw[B]at hi;rw[po]at d;rcases iu.1 hi with rfl|hi
 .rw[x]at d;injection d with d;subst d;exact h1
 .rw[jS]at hi;subst hi;rw[y]at d;injection d with d;subst d;exact u
end
end Go.Proofs.YtecaahegomdbbaaGreatDoor.gr
namespace Go.Proofs.YtecaahegomdbbaaGreatDoor.gr.Rn
open Go.Proofs.Tryz
open Go.RowKit
variable {cs:Array i6} {k:kw} {vs:ip i6} {g o:Nat} {x:i7} {e:i9} {v:i6} {w w':i5}
noncomputable section
inductive SV where
 |n (k:IntKind) (a:Nat)
 |m (k:IntKind) (a:Nat)
 |b (x:Bool)
 |s (l:List Nat)
 |p0
 |p (id o:Nat)
 |l0
 |l (id z j n:Nat)
 |lx (id z j n c:Nat)
 |le (id z j a:Nat)
 |u
 |fl (n:Nat)
 |cx (a b:Nat)
 |mp (id:Nat)
 |i0
 |x (k:IntKind) (id:Nat)
 |sl (l:List Nat)
inductive TV where
 |v (x:SV)
 |g (l:List SV)
inductive AV where
 |v (x:SV)
 |g (l:List SV)
 |t (l:List TV)
 |f (fn:Nat) (l:List SV)
inductive Tr (α:Type)where
 |nil
 |leaf (v:α)
 |node (l r:Tr α)
structure Ob where
 e:TypeId
 d:Nat
 n:Nat
 m:Tr SV
structure Mem where
 n:Nat
 h:Tr Ob
 mp:List (Nat×List (Nat×Nat))
abbrev mP:=ip (Nat×AV)
structure En where
 vs:mP
 ts:mP
 hs:List (Nat×Nat×List SV)
 ms:List Mem
inductive Ex where
 |pz
 |ext (n:Nat)
 |P8 (n:Nat)
 |ret
 |val (v:AV)
inductive Rs where
 |no
 |mk (x:Ex) (e:En) (m:Mem)
def fN (n:Nat) (k:Nat->Rs):Rs:=Nat.rec (motive:=λ_=>Rs) (k 0) (λm _=>k m) (Nat.add n 1)
def ji (b:Bool) (r:Rs):Rs:=Bool.rec (motive:=λ_=>Rs) .no r b
def zB (b:Bool) (x y:Rs):Rs:=Bool.rec (motive:=λ_=>Rs) y x b
section
variable {α:Type}
def fP (l:ip α) (k:ip α->Rs):Rs:=List.rec (motive:=λ_=>(ip α->Rs)->Rs) (λk=>k []) (λx _ d k=>d λr=>k (x::r)) l k
def yf (d k:Nat) (t:Tr α) (c:α->Rs):Rs:=Nat.rec (motive:=λ_=>Nat->Tr α->Rs) (λk t=>Nat.rec (motive:=λ_=>Rs) (Tr.rec (motive:=λ_=>Rs) .no c (λ_ _ _ _=> .no) t) (λ_ _=> .no) k) (λ_ f k t=>Tr.rec (motive:=λ_=>Rs) .no (λ_=> .no) (λl r _ _=>Nat.rec (motive:=λ_=>Rs) (f (Nat.shiftRight k 1) l) (λ_ _=>f (Nat.shiftRight k 1) r) (Nat.land k 1)) t) d k t
def zq (d k:Nat) (x:α) (t:Tr α) (c:Tr α->Rs):Rs:=Nat.rec (motive:=λ_=>Nat->Tr α->(Tr α->Rs)->Rs) (λk t c=>Nat.rec (motive:=λ_=>Rs) (Tr.rec (motive:=λ_=>Rs) .no (λ_=>c (.leaf x)) (λ_ _ _ _=> .no) t) (λ_ _=> .no) k) (λ_ f k t c=>Tr.rec (motive:=λ_=>Rs) .no (λ_=> .no) (λl r _ _=>Nat.rec (motive:=λ_=>Rs) (f (Nat.shiftRight k 1) l λl=>c (.node l r)) (λ_ _=>f (Nat.shiftRight k 1) r λr=>c (.node l r)) (Nat.land k 1)) t) d k t c
def x7 (d k:Nat) (x:α) (t:Tr α) (c:Tr α->Rs):Rs:=Nat.rec (motive:=λ_=>Nat->Tr α->(Tr α->Rs)->Rs) (λk _ c=>Nat.rec (motive:=λ_=>Rs) (c (.leaf x)) (λ_ _=> .no) k) (λ_ f k t c=>Tr.rec (motive:=λ_=>Rs) (Nat.rec (motive:=λ_=>Rs) (f (Nat.shiftRight k 1) .nil λl=>c (.node l .nil)) (λ_ _=>f (Nat.shiftRight k 1) .nil λr=>c (.node .nil r)) (Nat.land k 1)) (λ_=> .no) (λl r _ _=>Nat.rec (motive:=λ_=>Rs) (f (Nat.shiftRight k 1) l λl=>c (.node l r)) (λ_ _=>f (Nat.shiftRight k 1) r λr=>c (.node l r)) (Nat.land k 1)) t) d k t c
end
def dI:Nat:=17
def NM (d:Mem) (id:Nat) (c:Ob->Rs):Rs:=yf dI id d.h c
def Zt (d:Nat) (m:Tr SV) (o n:Nat) (c:ip SV->Rs):Rs:=Nat.rec (motive:=λ_=>Nat->(ip SV->Rs)->Rs) (λ_ c=>c []) (λ_ f o c=>yf d o m λx=>fN (Nat.add o 1) λo=>f o λl=>c (x::l)) n o c
def Jk (g:Mem) (id o n:Nat) (c:ip SV->Rs):Rs:=NM g id λf=>Zt f.d f.m o n c
def wrT (d o:Nat) (l:ip SV) (m:Tr SV) (c:Tr SV->Rs):Rs:=List.rec (motive:=λ_=>Nat->Tr SV->(Tr SV->Rs)->Rs) (λ_ m c=>c m) (λx _ f o m c=>zq d o x m λm=>fN (Nat.add o 1) λo=>f o m c) l o m c
def SN (g:Mem) (id o:Nat) (l:ip SV) (c:Mem->Rs):Rs:=NM g id λf=>wrT f.d o l f.m λm=>zq dI id ⟨f.e,f.d,f.n,m⟩ g.h λh=>c ⟨g.n,h,g.mp⟩
def Cx (d o:Nat) (l:ip SV) (m:Tr SV) (c:Tr SV->Rs):Rs:=List.rec (motive:=λ_=>Nat->Tr SV->(Tr SV->Rs)->Rs) (λ_ m c=>c m) (λx _ f o m c=>x7 d o x m λm=>fN (Nat.add o 1) λo=>f o m c) l o m c
def U5 (d:Mem) (f:Ob) (c:Nat->Mem->Rs):Rs:=ji (Nat.ble (Nat.add d.n 1) 131072) (x7 dI d.n f d.h λh=>fN (Nat.add d.n 1) λn=>c d.n ⟨n,h,d.mp⟩)
def rb (f:Mem) (e:i9) (l:ip SV) (c:Nat->Mem->Rs):Rs:=fN l.length λq=>fN (Nat.add (Nat.log2 q) 1) λd=>Cx d 0 l .nil λm=>U5 f ⟨e,d,q,m⟩ c
def SB (d:Mem) (id:Nat) (c:Mem->Rs):Rs:=zq dI id ⟨0,0,0,.nil⟩ d.h λh=>c ⟨d.n,h,d.mp⟩
def K6 (t:Nat) (l:mP) (k:AV->Rs):Rs:=List.rec (motive:=λ_=>Rs) .no (λx _ d=>Bool.rec (motive:=λ_=>Rs) d (k x.2) (Nat.beq x.1 t)) l
def JM (t:Nat) (v:AV) (l:mP) (c:mP->Rs):Rs:=List.rec (motive:=λ_=>(mP->Rs)->Rs) (λc=>c [(t,v)]) (λx r d c=>Bool.rec (motive:=λ_=>Rs) (d λr=>c (x::r)) (c ((t,v)::r)) (Nat.beq x.1 t)) l c
def kept (m t:Nat):Bool:=Nat.beq (Nat.land (Nat.shiftRight m t) 1) 1
def S0 (x:AV) (f:SV->Rs) (g:ip SV->Rs):Rs:=AV.rec (motive:=λ_=>Rs) f g (λ_=> .no) (λ_ _=> .no) x
def uR (x:AV) (f:kw->Nat->Rs):Rs:=AV.rec (motive:=λ_=>Rs) (λx=>SV.rec (motive:=λ_=>Rs) f (λ_ _=> .no) (λ_=> .no) (λ_=> .no) .no (λ_ _=> .no) .no (λ_ _ _ _=> .no) (λ_ _ _ _ _=> .no) (λ_ _ _ _=> .no) .no (λ_=> .no) (λ_ _=> .no) (λ_=> .no) .no (λ_ _=> .no) (λ_=> .no) x) (λ_=> .no) (λ_=> .no) (λ_ _=> .no) x
def WU (x:AV) (a b:Rs):Rs:=AV.rec (motive:=λ_=>Rs) (λx=>SV.rec (motive:=λ_=>Rs) (λ_ _=> .no) (λ_ _=> .no) (λq=>zB q a b) (λ_=> .no) .no (λ_ _=> .no) .no (λ_ _ _ _=> .no) (λ_ _ _ _ _=> .no) (λ_ _ _ _=> .no) .no (λ_=> .no) (λ_ _=> .no) (λ_=> .no) .no (λ_ _=> .no) (λ_=> .no) x) (λ_=> .no) (λ_=> .no) (λ_ _=> .no) x
def Kv (x:AV) (f:ip Nat->Rs):Rs:=AV.rec (motive:=λ_=>Rs) (λx=>SV.rec (motive:=λ_=>Rs) (λ_ _=> .no) (λ_ _=> .no) (λ_=> .no) f .no (λ_ _=> .no) .no (λ_ _ _ _=> .no) (λ_ _ _ _ _=> .no) (λ_ _ _ _=> .no) .no (λ_=> .no) (λ_ _=> .no) (λ_=> .no) .no (λ_ _=> .no) (λ_=> .no) x) (λ_=> .no) (λ_=> .no) (λ_ _=> .no) x
def MU (x:AV) (f:Nat->Nat->Rs):Rs:=AV.rec (motive:=λ_=>Rs) (λx=>SV.rec (motive:=λ_=>Rs) (λ_ _=> .no) (λ_ _=> .no) (λ_=> .no) (λ_=> .no) .no f .no (λ_ _ _ _=> .no) (λ_ _ _ _ _=> .no) (λ_ _ _ _=> .no) .no (λ_=> .no) (λ_ _=> .no) (λ_=> .no) .no (λ_ _=> .no) (λ_=> .no) x) (λ_=> .no) (λ_=> .no) (λ_ _=> .no) x
def Zs (x:AV) (f:Nat->Rs):Rs:=AV.rec (motive:=λ_=>Rs) (λx=>SV.rec (motive:=λ_=>Rs) (λ_ _=> .no) (λ_ _=> .no) (λ_=> .no) (λ_=> .no) .no (λ_ _=> .no) .no (λ_ _ _ _=> .no) (λ_ _ _ _ _=> .no) (λ_ _ _ _=> .no) .no f (λ_ _=> .no) (λ_=> .no) .no (λ_ _=> .no) (λ_=> .no) x) (λ_=> .no) (λ_=> .no) (λ_ _=> .no) x
def onX (x:AV) (f:Nat->Nat->Rs):Rs:=AV.rec (motive:=λ_=>Rs) (λx=>SV.rec (motive:=λ_=>Rs) (λ_ _=> .no) (λ_ _=> .no) (λ_=> .no) (λ_=> .no) .no (λ_ _=> .no) .no (λ_ _ _ _=> .no) (λ_ _ _ _ _=> .no) (λ_ _ _ _=> .no) .no (λ_=> .no) f (λ_=> .no) .no (λ_ _=> .no) (λ_=> .no) x) (λ_=> .no) (λ_=> .no) (λ_ _=> .no) x
def LQ (x:AV) (f0:Rs) (fl:Nat->Nat->Nat->Nat->Rs) (g:Nat->Nat->Nat->Nat->Nat->Rs) (d:Rs) (fs:ip Nat->Rs) (f:Nat->Nat->Rs):Rs:=AV.rec (motive:=λ_=>Rs) (λx=>SV.rec (motive:=λ_=>Rs) (λ_ _=> .no) (λ_ _=> .no) (λ_=> .no) fs .no f f0 fl g (λ_ _ _ _=>d) .no (λ_=> .no) (λ_ _=> .no) (λ_=> .no) .no (λ_ _=> .no) (λ_=> .no) x) (λ_=> .no) (λ_=> .no) (λ_ _=> .no) x
def VE (x:AV) (f:ip SV->Rs):Rs:=AV.rec (motive:=λ_=>Rs) (λ_=> .no) f (λ_=> .no) (λ_ _=> .no) x
def onT (x:AV) (f:ip TV->Rs):Rs:=AV.rec (motive:=λ_=>Rs) (λ_=> .no) (λ_=> .no) f (λ_ _=> .no) x
def onF (x:AV) (f:Nat->ip SV->Rs):Rs:=AV.rec (motive:=λ_=>Rs) (λ_=> .no) (λ_=> .no) (λ_=> .no) f x
abbrev Cl:=Nat->ip AV->Mem->Rs
abbrev Kt:=AV->Mem->Rs
abbrev Gt:=En->(AV->Rs)->Rs
abbrev Hd:=Cl->En->Mem->Kt->Rs
structure Wg where
 f:Gt
structure Wgs where
 f:En->(List AV->Rs)->Rs
structure Wps where
 f:En->List SV->(List SV->Rs)->Rs
structure Wh where
 f:Hd
abbrev Kr:=En->Mem->Rs
structure Wo where
 f:Cl->En->Mem->Kr->Rs
structure Wc where
 f:Cl->Nat->En->Mem->Rs
def noG:Wg:=⟨λ_ _=> .no⟩
def gS:Wh:=⟨λ_ _ _ _=> .no⟩
def jx (k:kw):Nat:=IntKind.rec (motive:=λ_=>Nat) 127 32767 2147483647 9223372036854775807 255 65535 4294967295 18446744073709551615 k
def fwB (n:Nat):Nat:=match n with
 |0=>0
 |n+1=>Nat.add (Nat.mul (Nat.add (Nat.log2 (n+1)) 1022) 4503599627370496) (Nat.mul (n+1) (Nat.pow 2 (Nat.sub 52 (Nat.log2 (n+1)))))
def X2 (b:Nat):Nat:=match Nat.beq b 0 with
 |true=>0
 |false=>Nat.div (Nat.add (Nat.mod b 4503599627370496) 4503599627370496) (Nat.pow 2 (Nat.sub 1075 (Nat.div b 4503599627370496)))
def cS:i6->Option SV
 | .bool b=>some (.b b)
 | .int k (.ofNat n)=>match Nat.ble n (jx k)with
  |true=>some (.n k n)
  |false=>none
 | .int k (.negSucc n)=>match k.signed&&Nat.ble n (jx k)with
  |true=>some (.m k n)
  |false=>none
 | .string s=>match Nat.ble s.data.toList.length maxLen with
  |true=>some (.s (s.data.toList.map UInt8.toNat))
  |false=>none
 | .pointer none=>some .p0
 | .float .f64 b=>match Nat.ble (X2 b) 1099511627776&&Nat.beq (fwB (X2 b)) b with
  |true=>some (.fl (X2 b))
  |false=>none
 | .slice none 0 0=>some .l0
 | .complex .f64 0 0=>some (.cx 0 0)
 | .nilIface=>some .i0
 |_=>none
def cL (l:ip i6):Option (ip SV):=List.rec (motive:=λ_=>Option (ip SV)) (some []) (λx _ d=>match cS x,d with
 |some a,some r=>some (a::r)
 |_,_=>none) l
def cA:i6->Option AV
 | .agg cs=>match cL cs.toList with
  |some l=>some (.g l)
  |none=>none
 |v=>match cS v with
  |some x=>some (.v x)
  |none=>none
section
variable {γ:Type}
def cN (n:Nat) (k:Nat->γ):γ:=Nat.rec (motive:=λ_=>γ) (k 0) (λm _=>k m) (Nat.add n 1)
def cU (l:ip Nat) (k:ip Nat->γ):γ:=List.rec (motive:=λ_=>(ip Nat->γ)->γ) (λk=>k []) (λx _ d k=>cN x λx=>d λr=>k (x::r)) l k
def cV (x:SV) (k:SV->γ):γ:=match x with
 | .s l=>cU l λl=>k (.s l)
 | .n i a=>cN a λa=>k (.n i a)
 | .m i a=>cN a λa=>k (.m i a)
 |x=>k x
def T9 (l:ip SV) (k:ip SV->γ):γ:=List.rec (motive:=λ_=>(ip SV->γ)->γ) (λk=>k []) (λx _ d k=>cV x λx=>d λr=>k (x::r)) l k
end
def Z0 (x:AV):Wg:=match x with
 | .v x=>cV x λx=>⟨λ_ k=>k (.v x)⟩
 | .g l=>T9 l λl=>⟨λ_ k=>k (.g l)⟩
 |_=>noG
def QX (m t:Nat):Wg:=match kept m t with
 |true=>⟨λe k=>K6 t e.vs k⟩
 |false=>⟨λe k=>K6 t e.ts k⟩
def iG (m:Nat) (x:i7):Wg:=match x with
 | .tmp t=>QX m t
 | .const v=>match cA v with
  |some a=>Z0 a
  |none=>noG
 | .func f=>⟨λ_ k=>k (.f f [])⟩
 | .global _=>noG
def Sl (m:Nat) (l:ip i7):Wgs:=List.rec (motive:=λ_=>Wgs) ⟨λ_ k=>k []⟩ (λx _ r=>⟨λe k=>(iG m x).f e λv=>r.f e λl=>k (v::l)⟩) l
def zA (t:i9):Option (ip SV):=match(prog.info? t).bind (·.zero)with
 |some v=>match cA v with
  |some (.v x)=>some [x]
  |some (.g l)=>some l
  |_=>none
 |none=>none
def size (t:i9):Option Nat:=match one t with
 |true=>some 1
 |false=>get kA t
def nu (x:SV):Bool:=SV.rec (motive:=λ_=>Bool) (λ_ _=>true) (λ_ _=>true) (λ_=>true) (λ_=>true) true (λ_ _=>true) true (λ_ _ _ _=>true) (λ_ _ _ _ _=>true) (λ_ _ _ _=>true) false (λ_=>true) (λ_ _=>true) (λ_=>true) true (λ_ _=>true) (λ_=>true) x
def Y4 (x:SV) (r:Rs):Rs:=ji (nu x) r
def arr (t:i9):Option (Nat×Nat):=match prog.underlying t with
 |some (.array n e)=>match size e with
  |some z=>some (n,z)
  |none=>none
 |_=>none
def vj (t:i9) (k:Nat):Option (Nat×i9):=match prog.underlying t with
 |some (.struct fs)=>match fs[k]? with
  |some f=>some (f.offset,f.type)
  |none=>none
 |_=>none
def elemOf (t:i9):Option (i9×Nat):=match prog.underlying t with
 |some (.slice e)=>match size e with
  |some z=>some (e,z)
  |none=>none
 |_=>none
def kn (k:kw):Nat:=IntKind.rec (motive:=λ_=>Nat) 0 1 2 3 4 5 6 7 k
def tj (k d:kw) (r:Rs):Rs:=ji (Nat.beq (kn k) (kn d)) r
def Zx (d:Mem) (c:Kt) (k:kw) (s:Nat):Rs:=IntKind.rec (motive:=λ_=>Nat->Rs) (λs=>ji (Nat.ble s 127) (c (.v (.n .i8 s)) d)) (λs=>ji (Nat.ble s 32767) (c (.v (.n .i16 s)) d)) (λs=>ji (Nat.ble s 2147483647) (c (.v (.n .i32 s)) d)) (λs=>ji (Nat.ble s 9223372036854775807) (c (.v (.n .i64 s)) d)) (λs=>fN (Nat.mod s 256) λs=>c (.v (.n .u8 s)) d) (λs=>fN (Nat.mod s 65536) λs=>c (.v (.n .u16 s)) d) (λs=>fN (Nat.mod s 4294967296) λs=>c (.v (.n .u32 s)) d) (λs=>fN (Nat.mod s 18446744073709551616) λs=>c (.v (.n .u64 s)) d) k s
def wrM (d:Mem) (c:Kt) (k:kw) (s:Nat):Rs:=IntKind.rec (motive:=λ_=>Nat->Rs) (λs=>ji (Nat.ble s 127) (c (.v (.m .i8 s)) d)) (λs=>ji (Nat.ble s 32767) (c (.v (.m .i16 s)) d)) (λs=>ji (Nat.ble s 2147483647) (c (.v (.m .i32 s)) d)) (λs=>ji (Nat.ble s 9223372036854775807) (c (.v (.m .i64 s)) d)) (λs=>fN (Nat.sub 255 (Nat.mod s 256)) λs=>c (.v (.n .u8 s)) d) (λs=>fN (Nat.sub 65535 (Nat.mod s 65536)) λs=>c (.v (.n .u16 s)) d) (λs=>fN (Nat.sub 4294967295 (Nat.mod s 4294967296)) λs=>c (.v (.n .u32 s)) d) (λs=>fN (Nat.sub 18446744073709551615 (Nat.mod s 18446744073709551616)) λs=>c (.v (.n .u64 s)) d) k s
def SO (d:Mem) (c:Kt) (k:kw) (s:Int):Rs:=Int.rec (motive:=λ_=>Rs) (λs=>fN s λs=>Zx d c k s) (λs=>fN s λs=>wrM d c k s) s
def N0 (x:AV) (f:kw->Int->Rs):Rs:=AV.rec (motive:=λ_=>Rs) (λx=>SV.rec (motive:=λ_=>Rs) (λk a=>f k (.ofNat a)) (λk a=>f k (.negSucc a)) (λ_=> .no) (λ_=> .no) .no (λ_ _=> .no) .no (λ_ _ _ _=> .no) (λ_ _ _ _ _=> .no) (λ_ _ _ _=> .no) .no (λ_=> .no) (λ_ _=> .no) (λ_=> .no) .no (λ_ _=> .no) (λ_=> .no) x) (λ_=> .no) (λ_=> .no) (λ_ _=> .no) x
def iiK (f:kw->Nat->Nat->Rs) (g:kw->Int->Int->Rs) (x y:AV):Rs:=AV.rec (motive:=λ_=>Rs) (λx=>SV.rec (motive:=λ_=>Rs) (λk a=>AV.rec (motive:=λ_=>Rs) (λy=>SV.rec (motive:=λ_=>Rs) (λd b=>tj k d (f k a b)) (λd b=>tj k d (g k (.ofNat a) (.negSucc b))) (λ_=> .no) (λ_=> .no) .no (λ_ _=> .no) .no (λ_ _ _ _=> .no) (λ_ _ _ _ _=> .no) (λ_ _ _ _=> .no) .no (λ_=> .no) (λ_ _=> .no) (λ_=> .no) .no (λ_ _=> .no) (λ_=> .no) y) (λ_=> .no) (λ_=> .no) (λ_ _=> .no) y) (λk a=>N0 y λd b=>tj k d (g k (.negSucc a) b)) (λ_=> .no) (λ_=> .no) .no (λ_ _=> .no) .no (λ_ _ _ _=> .no) (λ_ _ _ _ _=> .no) (λ_ _ _ _=> .no) .no (λ_=> .no) (λ_ _=> .no) (λ_=> .no) .no (λ_ _=> .no) (λ_=> .no) x) (λ_=> .no) (λ_=> .no) (λ_ _=> .no) x
def nnK (f:kw->Nat->Nat->Rs) (x y:AV):Rs:=uR x λk a=>uR y λ_ b=>f k a b
def nkK (f:kw->Nat->Nat->Rs) (x y:AV):Rs:=uR x λk a=>uR y λd b=>tj k d (f k a b)
def bK (d:Mem) (c:Kt) (b:Bool):Rs:=Bool.rec (motive:=λ_=>Rs) (c (.v (.b false)) d) (c (.v (.b true)) d) b
def nt (b:Bool):Bool:=Bool.rec (motive:=λ_=>Bool) true false b
def bI (a b:Int):Bool:=Int.rec (motive:=λ_=>Bool) (λm=>Int.rec (motive:=λ_=>Bool) (λn=>Nat.ble (Nat.add m 1) n) (λ_=>false) b) (λm=>Int.rec (motive:=λ_=>Bool) (λ_=>true) (λn=>Nat.ble (Nat.add n 1) m) b) a
def eI (a b:Int):Bool:=Int.rec (motive:=λ_=>Bool) (λm=>Int.rec (motive:=λ_=>Bool) (λn=>Nat.beq m n) (λ_=>false) b) (λm=>Int.rec (motive:=λ_=>Bool) (λ_=>false) (λn=>Nat.beq m n) b) a
def eU (a:ip Nat):ip Nat->Bool:=List.rec (motive:=λ_=>ip Nat->Bool) (λb=>List.rec (motive:=λ_=>Bool) true (λ_ _ _=>false) b) (λx _ d b=>List.rec (motive:=λ_=>Bool) false (λy r _=>Bool.rec (motive:=λ_=>Bool) false (d r) (Nat.beq x y)) b) a
def ltU (a:ip Nat):ip Nat->Bool:=List.rec (motive:=λ_=>ip Nat->Bool) (λb=>List.rec (motive:=λ_=>Bool) false (λ_ _ _=>true) b) (λx _ d b=>List.rec (motive:=λ_=>Bool) false (λy r _=>Bool.rec (motive:=λ_=>Bool) (Nat.ble (Nat.add x 1) y) (d r) (Nat.beq x y)) b) a
def eB (a b:Bool):Bool:=Bool.rec (motive:=λ_=>Bool) (nt b) b a
def eN (k d:kw) (b:Bool):Option Bool:=Bool.rec (motive:=λ_=>Option Bool) none (some b) (Nat.beq (kn k) (kn d))
def eF (f:Bool):SV->SV->Option Bool:=match f with
 |true=>λx y=>match x,y with
  | .s a,.s b=>some (eU a b)
  |_,_=>none
 |false=>λx y=>match x,y with
  | .n k a,.n d b=>eN k d (Nat.beq a b)
  | .m k a,.m d b=>eN k d (Nat.beq a b)
  | .n k _,.m d _=>eN k d false
  | .m k _,.n d _=>eN k d false
  |_,_=>none
def eT (fl:ip Bool):ip SV->ip SV->Option Bool:=List.rec (motive:=λ_=>ip SV->ip SV->Option Bool) (λa b=>match a,b with
 |[],[]=>some true
 |_,_=>none) (λf _ d a b=>match a,b with
 |x::a,y::b=>match eF f x y,d a b with
  |some p,some q=>some (p&&q)
  |_,_=>none
 |_,_=>none) fl
def oB (d:Mem) (c:Kt) (w:Bool) (x:Option Bool):Rs:=match x with
 |some b=>bK d c (eB w b)
 |none=> .no
def cmK (f:Int->Int->Bool) (m:ip Nat->ip Nat->Bool) (w:Bool) (d:Mem) (c:Kt) (x y:AV):Rs:=AV.rec (motive:=λ_=>Rs) (λx=>SV.rec (motive:=λ_=>Rs) (λk a=>N0 y λg b=>tj k g (bK d c (eB w (f (.ofNat a) b)))) (λk a=>N0 y λg b=>tj k g (bK d c (eB w (f (.negSucc a) b)))) (λ_=> .no) (λa=>Kv y λb=>bK d c (eB w (m a b))) .no (λ_ _=> .no) .no (λ_ _ _ _=> .no) (λ_ _ _ _ _=> .no) (λ_ _ _ _=> .no) .no (λa=>Zs y λb=>bK d c (eB w (f (.ofNat a) (.ofNat b)))) (λ_ _=> .no) (λ_=> .no) .no (λ_ _=> .no) (λ_=> .no) x) (λ_=> .no) (λ_=> .no) (λ_ _=> .no) x
def cmW (d:Int->Int->Bool) (g:ip Nat->ip Nat->Bool) (w:Bool) (m:Nat) (x y:i7):Wh:=⟨λ_ e n c=>(iG m x).f e λx=>(iG m y).f e λy=>cmK d g w n c x y⟩
def ltW (w:Bool) (m:Nat) (x y:i7):Wh:=cmW bI ltU w m x y
def onQ (x:AV) (f0:Rs) (f:Nat->Nat->Rs):Rs:=AV.rec (motive:=λ_=>Rs) (λx=>SV.rec (motive:=λ_=>Rs) (λ_ _=> .no) (λ_ _=> .no) (λ_=> .no) (λ_=> .no) f0 f .no (λ_ _ _ _=> .no) (λ_ _ _ _ _=> .no) (λ_ _ _ _=> .no) .no (λ_=> .no) (λ_ _=> .no) (λ_=> .no) .no (λ_ _=> .no) (λ_=> .no) x) (λ_=> .no) (λ_=> .no) (λ_ _=> .no) x
def eqQ (w:Bool) (d:Mem) (c:Kt) (x y:AV):Rs:=onQ x (onQ y (bK d c w) λ_ _=>bK d c (nt w)) λ_ _=>onQ y (bK d c (nt w)) λ_ _=> .no
def onJ (x:AV) (f:Rs):Rs:=AV.rec (motive:=λ_=>Rs) (λx=>SV.rec (motive:=λ_=>Rs) (λ_ _=> .no) (λ_ _=> .no) (λ_=> .no) (λ_=> .no) .no (λ_ _=> .no) .no (λ_ _ _ _=> .no) (λ_ _ _ _ _=> .no) (λ_ _ _ _=> .no) .no (λ_=> .no) (λ_ _=> .no) (λ_=> .no) f (λ_ _=> .no) (λ_=> .no) x) (λ_=> .no) (λ_=> .no) (λ_ _=> .no) x
def YJ (w:Bool) (m:Nat) (x y:i7):Wh:=match y with
 | .const .nilIface=>⟨λ_ e d c=>(iG m x).f e λx=>onJ x (bK d c w)⟩
 |_=>gS
def eqZ (w:Bool) (d:Mem) (c:Kt) (x y:AV):Rs:=LQ y (LQ x (bK d c w) (λ_ _ _ _=>bK d c (nt w)) (λ_ _ _ _ _=>bK d c (nt w)) .no (λ_=> .no) λ_ _=> .no) (λ_ _ _ _=> .no) (λ_ _ _ _ _=> .no) .no (λ_=> .no) λ_ _=> .no
def eqC (w:Bool) (d:Mem) (c:Kt) (x y:AV):Rs:=WU x (WU y (bK d c w) (bK d c (nt w))) (WU y (bK d c (nt w)) (bK d c w))
def flat (fs:ip Field):Nat->Option (ip Bool):=List.rec (motive:=λ_=>Nat->Option (ip Bool)) (λ_=>some []) (λf _ d k=>match Nat.beq f.offset k&&f.name != "_" &&prog.plainKey f.type,d (Nat.add k 1)with
 |true,some r=>match kindOf f.type,fC f.type with
  |some _,_=>some (false::r)
  |none,true=>some (true::r)
  |none,false=>none
 |_,_=>none) fs
def peq (t:i9):Option (ip Bool):=match prog.eqGuardType prog.depth t with
 |true=>none
 | false=>match prog.stoodInHeld t with
  |true=>none
  | false=>match prog.underlying t with
   |some (.struct fs)=>flat fs.toList 0
   |some (.array n e)=>match(kindOf e).isSome&&one e&&prog.plainKey e with
    |true=>some (List.replicate n false)
    |false=>none
   |_=>none
def eqG (fl:ip Bool) (w:Bool) (d:Mem) (c:Kt) (x y:AV):Rs:=VE x λx=>VE y λy=>oB d c w (eT fl x y)
def T5 (f:Mem->Kt->AV->AV->Rs) (m:Nat) (x y:i7):Wh:=⟨λ_ e d c=>(iG m x).f e λx=>(iG m y).f e λy=>f d c x y⟩
def Zl (w:Bool) (m:Nat) (t:i9) (x y:i7):Wh:=match prog.underlying t with
 |some .bool=>T5 (eqC w) m x y
 |some (.pointer _)=>T5 (eqQ w) m x y
 |some (.slice _)=>T5 (eqZ w) m x y
 |some (.interface _)=>YJ w m x y
 |some (.struct _)=>match peq t with
  |some fl=>T5 (eqG fl w) m x y
  |none=>gS
 |some (.array _ _)=>match peq t with
  |some fl=>T5 (eqG fl w) m x y
  |none=>gS
 |_=>cmW eI eU w m x y
def arW (f:Nat->Nat->Nat) (g:Int->Int->Int) (m:Nat) (x y:i7):Wh:=⟨λ_ e d c=>(iG m x).f e λx=>(iG m y).f e λy=>iiK (λk a b=>fN (f a b) λs=>Zx d c k s) (λk a b=>SO d c k (g a b)) x y⟩
def suK (d:Mem) (c:Kt) (k:kw) (a b:Nat):Rs:=zB (Nat.ble b a) (fN (Nat.sub a b) λs=>c (.v (.n k s)) d) (fN (Nat.sub (Nat.sub b a) 1) λs=>wrM d c k s)
def suW (m:Nat) (x y:i7):Wh:=⟨λ_ e d c=>(iG m x).f e λx=>(iG m y).f e λy=>iiK (suK d c) (λk a b=>SO d c k (Int.sub a b)) x y⟩
def dvW (f:Nat->Nat->Nat) (m:Nat) (x y:i7):Wh:=⟨λ_ e d c=>(iG m x).f e λx=>(iG m y).f e λy=>nkK (λk a b=>ji (Nat.ble 1 b) (fN (f a b) λs=>c (.v (.n k s)) d)) x y⟩
def ZZ (f:Nat->Nat->Nat) (m:Nat) (x y:i7):Wh:=⟨λ_ e d c=>(iG m x).f e λx=>(iG m y).f e λy=>nkK (λk a b=>fN (f a b) λs=>c (.v (.n k s)) d) x y⟩
def anN (a b:Nat):Nat:=Nat.xor a (Nat.land a b)
def kb (k:kw):Nat:=IntKind.rec (motive:=λ_=>Nat) 8 16 32 64 8 16 32 64 k
def shW (m:Nat) (x y:i7):Wh:=⟨λ_ e d c=>(iG m x).f e λx=>(iG m y).f e λy=>nnK (λk a b=>ji (Nat.ble b (kb k)) (fN (Nat.shiftLeft a b) λs=>Zx d c k s)) x y⟩
def srW (m:Nat) (x y:i7):Wh:=⟨λ_ e d c=>(iG m x).f e λx=>(iG m y).f e λy=>nnK (λk a b=>ji (Nat.ble b (kb k)) (fN (Nat.shiftRight a b) λs=>c (.v (.n k s)) d)) x y⟩
def adK (f:Mem) (c:Kt) (x y:AV):Rs:=AV.rec (motive:=λ_=>Rs) (λx=>SV.rec (motive:=λ_=>Rs) (λk a=>AV.rec (motive:=λ_=>Rs) (λy=>SV.rec (motive:=λ_=>Rs) (λd b=>tj k d (fN (Nat.add a b) λs=>Zx f c k s)) (λd b=>tj k d (SO f c k (Int.add (.ofNat a) (.negSucc b)))) (λ_=> .no) (λ_=> .no) .no (λ_ _=> .no) .no (λ_ _ _ _=> .no) (λ_ _ _ _ _=> .no) (λ_ _ _ _=> .no) .no (λ_=> .no) (λ_ _=> .no) (λ_=> .no) .no (λ_ _=> .no) (λ_=> .no) y) (λ_=> .no) (λ_=> .no) (λ_ _=> .no) y) (λk a=>N0 y λd b=>tj k d (SO f c k (Int.add (.negSucc a) b))) (λ_=> .no) (λa=>Kv y λb=>ji (Nat.ble (a++b).length maxLen) (fP (a++b) λs=>c (.v (.s s)) f)) .no (λ_ _=> .no) .no (λ_ _ _ _=> .no) (λ_ _ _ _ _=> .no) (λ_ _ _ _=> .no) .no (λ_=> .no) (λ_ _=> .no) (λ_=> .no) .no (λ_ _=> .no) (λ_=> .no) x) (λ_=> .no) (λ_=> .no) (λ_ _=> .no) x
def adW (m:Nat) (x y:i7):Wh:=⟨λ_ e d c=>(iG m x).f e λx=>(iG m y).f e λy=>adK d c x y⟩
def uns (k:kw):Bool:=IntKind.rec (motive:=λ_=>Bool) false false false false true true true true k
def D5 (d:Mem) (c:Kt) (k:kw):Rs:=ji (uns k) (U5 d ⟨0,0,0,.nil⟩ λid d=>c (.v (.x k id)) d)
def Xy (x:AV):Option kw:=match x with
 | .v (.x k _)=>some k
 |_=>none
def nkO (x:AV):Option kw:=match x with
 | .v (.x k _)=>some k
 | .v (.n k _)=>some k
 |_=>none
def xuK (f:Mem) (c:Kt) (old:Rs) (a b:AV):Rs:=match Xy a with
 |some k=>match nkO b with
  |some d=>tj k d (D5 f c k)
  |none=> .no
 | none=>match Xy b with
  |some k=>match nkO a with
   |some d=>tj k d (D5 f c k)
   |none=> .no
  |none=>old
def Y0 (m:Nat) (x y:i7) (w:Wh):Wh:=⟨λg e d c=>(iG m x).f e λa=>(iG m y).f e λb=>xuK d c (w.f g e d c) a b⟩
def xrK (f:Mem) (c:Kt) (old:Rs) (a b:AV):Rs:=match Xy a with
 |some k=>uR b λd n=>tj k d (ji (Nat.ble 1 n) (D5 f c k))
 |none=>old
def xrW (m:Nat) (x y:i7) (w:Wh):Wh:=⟨λg e d c=>(iG m x).f e λa=>(iG m y).f e λb=>xrK d c (w.f g e d c) a b⟩
def xsK (d:Mem) (c:Kt) (old:Rs) (a b:AV):Rs:=match Xy a with
 |some k=>uR b λ_ n=>ji (Nat.ble n (kb k)) (D5 d c k)
 |none=>old
def xsW (m:Nat) (x y:i7) (w:Wh):Wh:=⟨λg e d c=>(iG m x).f e λa=>(iG m y).f e λb=>xsK d c (w.f g e d c) a b⟩
def Ze (x:AV):Option (ip Nat):=match x with
 | .v (.sl l)=>some l
 |_=>none
def slS (x:AV):Option (ip Nat):=match x with
 | .v (.sl l)=>some l
 | .v (.s l)=>some l
 |_=>none
def slK (d:Mem) (c:Kt) (a b:AV):Rs:=match slS a,slS b with
 |some l,some r=>ji (Nat.ble (l++r).length maxLen) (fP (l++r) λl=>c (.v (.sl l)) d)
 |_,_=> .no
def laK (d:Mem) (c:Kt) (old:Rs) (a b:AV):Rs:=match Ze a,Ze b with
 |none,none=>old
 |_,_=>slK d c a b
def laW (m:Nat) (x y:i7) (w:Wh):Wh:=⟨λg e d c=>(iG m x).f e λa=>(iG m y).f e λb=>laK d c (w.f g e d c) a b⟩
def byX (d:Mem) (c:Kt) (q:Nat):Rs:=zB (Nat.ble 256 q) (fN (Nat.sub q 256) λid=>c (.v (.x .u8 id)) d) (c (.v (.n .u8 q)) d)
def biW (m:Nat) (t:i9) (op:BinOp) (x y:i7):Wh:=match op with
 | .add=>Y0 m x y (laW m x y (adW m x y))
 | .sub=>suW m x y
 | .mul=>Y0 m x y (arW Nat.mul Int.mul m x y)
 | .quo=>dvW Nat.div m x y
 | .rem=>xrW m x y (dvW Nat.mod m x y)
 | .and=>ZZ Nat.land m x y
 | .or=>Y0 m x y (ZZ Nat.lor m x y)
 | .xor=>Y0 m x y (ZZ Nat.xor m x y)
 | .andNot=>ZZ anN m x y
 | .shl=>xsW m x y (shW m x y)
 | .shr=>xsW m x y (srW m x y)
 | .eql=>Zl true m t x y
 | .neq=>Zl false m t x y
 | .lss=>ltW true m x y
 | .geq=>ltW false m x y
 | .gtr=>ltW true m y x
 | .leq=>ltW false m y x
def pkW (m:Nat) (x a b:i7):Wh:=⟨λ_ e d c=>(iG m x).f e λx=>(iG m a).f e λa=>(iG m b).f e λb=>WU x (c a d) (c b d)⟩
def fdW (m:Nat) (x:i7) (off:Option Nat):Wh:=match off with
 |some off=>cN off λoff=>⟨λ_ e d c=>(iG m x).f e λx=>MU x λid o=>fN (Nat.add o off) λo=>c (.v (.p id o)) d⟩
 |none=>gS
def ixS (f:Mem) (c:Kt) (d id z j n i:Nat):Rs:=ji (Nat.ble (Nat.add i 1) n) (fN (Nat.add (Nat.mul j z) (Nat.mul i d)) λo=>c (.v (.p id o)) f)
def ixW (m:Nat) (t:i9) (x i:i7):Wh:=match arr t with
 |some (n,z)=>cN z λz=>cN n λn=>⟨λ_ e g c=>(iG m x).f e λx=>(iG m i).f e λi=>MU x λid o=>uR i λ_ i=>ji (Nat.ble (Nat.add i 1) n) (fN (Nat.add o (Nat.mul i z)) λo=>c (.v (.p id o)) g)⟩
 |none=>match es t with
  |some d=>cN d λd=>⟨λ_ e g c=>(iG m x).f e λx=>(iG m i).f e λi=>uR i λ_ i=>LQ x .no (λid z j n=>ixS g c d id z j n i) (λid z j n _=>ixS g c d id z j n i) .no (λ_=> .no) λ_ _=> .no⟩
  |none=>gS
def unW (m:Nat) (op:UnOp) (x:i7):Wh:=match op with
 | .not=>⟨λ_ e d c=>(iG m x).f e λx=>WU x (c (.v (.b false)) d) (c (.v (.b true)) d)⟩
 | .neg=>⟨λ_ e d c=>(iG m x).f e λx=>N0 x λk n=>SO d c k (Int.neg n)⟩
 |_=>gS
def M8 {α:Type} (l:ip α) (i:Nat) (c:α->Rs):Rs:=List.rec (motive:=λ_=>Nat->Rs) (λ_=> .no) (λx _ d i=>Nat.rec (motive:=λ_=>Rs) (c x) (λi _=>d i) i) l i
def exW (m:Nat) (x:i7) (k:Nat):Wh:=⟨λ_ e d c=>(iG m x).f e λx=>onT x λl=>M8 l k λx=>TV.rec (motive:=λ_=>Rs) (λx=>c (.v x) d) (λl=>c (.g l) d) x⟩
def sub (l:ip SV) (o n:Nat):ip SV:=(l.drop o).take n
def flW (m:Nat) (x:i7) (f:Option (Nat×i9)):Wh:=match f with
 | some (o,u)=>match one u with
  |true=>cN o λo=>⟨λ_ e d c=>(iG m x).f e λx=>VE x λl=>M8 l o λx=>c (.v x) d⟩
  |false=>match get kA u with
   |some n=>cN o λo=>cN n λn=>⟨λ_ e d c=>(iG m x).f e λx=>VE x λl=>ji (Nat.ble (Nat.add o n) l.length) (fP (sub l o n) λl=>c (.g l) d)⟩
   |none=>gS
 |none=>gS
def elW (m:Nat) (t:i9) (x i:i7):Wh:=match prog.underlying t with
 | some (.array n el)=>match one el with
  |true=>cN n λn=>⟨λ_ e d c=>(iG m x).f e λx=>(iG m i).f e λi=>VE x λl=>uR i λ_ i=>ji (Nat.ble (Nat.add i 1) n) (M8 l i λx=>c (.v x) d)⟩
  |false=>match get kA el with
   |some z=>cN n λn=>cN z λz=>⟨λ_ e d c=>(iG m x).f e λx=>(iG m i).f e λi=>VE x λl=>uR i λ_ i=>ji (Nat.ble (Nat.add i 1) n) (ji (Nat.ble (Nat.mul n z) l.length) (fP (sub l (Nat.mul i z) z) λl=>c (.g l) d))⟩
   |none=>gS
 | some .string=>match fC t with
  |true=>⟨λ_ e d c=>(iG m x).f e λx=>(iG m i).f e λi=>match Ze x with
   |some l=>uR i λ_ i=>M8 l i λq=>byX d c q
   |none=>Kv x λl=>uR i λ_ i=>M8 l i λx=>c (.v (.n .u8 x)) d⟩
  |false=>gS
 |_=>gS
def put (l:ip SV) (o:Nat) (c:ip SV):ip SV:=l.take o++(c++l.drop (o+c.length))
def Zd (m:Nat) (off:Nat->Option (Nat×Nat)) (ps:ip (Nat×i7)):Wps:=List.rec (motive:=λ_=>Wps) ⟨λ_ l k=>k l⟩ (λp _ r=>match off p.1 with
 |some (o,z)=>⟨λe l k=>(iG m p.2).f e λv=>S0 v (λx=>Y4 x (ji (Nat.beq z 1) (ji (Nat.ble (Nat.add o 1) l.length) (fP (put l o [x]) λl=>r.f e l k)))) λg=>ji (Nat.beq g.length z) (ji (Nat.ble (Nat.add o z) l.length) (fP (put l o g) λl=>r.f e l k))⟩
 |none=>⟨λ_ _ _=> .no⟩) ps
def bdW (m:Nat) (off:Nat->Option (Nat×Nat)) (ps:ip (Nat×i7)) (z:Option (ip SV)):Wh:=match z with
 |some z=>T9 z λz=>⟨λ_ e d c=>(Zd m off ps).f e z λl=>c (.g l) d⟩
 |none=>gS
def aa0 (z:Nat) (i:Nat):Option (Nat×Nat):=some (Nat.mul i z,z)
def aab (t:i9) (i:Nat):Option (Nat×Nat):=match vj t i with
 |some (o,u)=>match size u with
  |some z=>some (o,z)
  |none=>none
 |none=>none
def buW (m:Nat) (t:i9) (ps:ip (Nat×i7)):Wh:=match arr t with
 |some (_,s)=>bdW m (aa0 s) ps (zA t)
 | none=>match prog.underlying t with
  |some (.struct _)=>match prog.built t []with
   |some _=>bdW m (aab t) ps (zA t)
   |none=>gS
  |_=>gS
def scK (l:ip AV) (k:ip SV->Rs):Rs:=List.rec (motive:=λ_=>(ip SV->Rs)->Rs) (λk=>k []) (λx _ d k=>S0 x (λx=>Y4 x (d λl=>k (x::l))) λ_=> .no) l k
def mfW (m:Nat) (fn:Fn) (a b:ip i7):Wh:=match fn with
 | .func f=>match a with
  |[]=>⟨λ_ e d c=>(Sl m b).f e λy=>scK y λl=>c (.f f l) d⟩
  |_=>gS
 |_=>gS
structure Wb where
 f:En->Nat->(Nat->Rs)->Rs
def NL (m:Nat) (x:Option i7):Wb:=match x with
 |none=>⟨λ_ d k=>k d⟩
 |some x=>⟨λe _ k=>(iG m x).f e λv=>uR v λ_ n=>k n⟩
def adj (d:Mem) (c:Kt) (l:ip Nat) (a b:Nat):Rs:=ji (Nat.ble a b) (ji (Nat.ble b l.length) (fP ((l.drop a).take (Nat.sub b a)) λl=>c (.v (.s l)) d))
def abd (d:Mem) (c:Kt) (id z j n a b:Nat):Rs:=ji (Nat.ble a b) (zB (Nat.ble b n) (zB (Nat.ble (Nat.add a 1) n) (fN (Nat.add j a) λi=>fN (Nat.sub b a) λr=>c (.v (.l id z i r)) d) (zB (Nat.beq a 0) (c (.v (.l id z j 0)) d) (c (.v (.le id z j a)) d))) (ji (Nat.ble (Nat.add a 1) b) (ji (Nat.ble 1 z) (Jk d id (Nat.sub (Nat.mul (Nat.add j b) z) 1) 1 λ_=>fN (Nat.add j a) λi=>fN (Nat.sub b a) λr=>c (.v (.l id z i r)) d))))
def Sj (d:Mem) (c:Kt) (id z j m a b:Nat):Rs:=ji (Nat.ble a b) (ji (Nat.ble b m) (zB (Nat.ble (Nat.add a 1) m) (fN (Nat.add j a) λi=>fN (Nat.sub b a) λr=>fN (Nat.sub m a) λq=>c (.v (.lx id z i r q)) d) (c (.v (.lx id z j 0 0)) d)))
def adb (d:Mem) (c:Kt) (a b:Nat):Rs:=ji (Nat.beq a 0) (ji (Nat.beq b 0) (c (.v .l0) d))
def Vc (z d:Nat) (r:Rs):Rs:=ji (Nat.beq z d) r
def slW (m:Nat) (t:i9) (x:i7) (lo hi u:Option i7):Wh:=match fC t with
 |true=>match u with
  |none=>⟨λ_ e d c=>(iG m x).f e λx=>(NL m lo).f e 0 λa=>Kv x λl=>fN l.length λn=>(NL m hi).f e n λb=>adj d c l a b⟩
  |some _=>gS
 | false=>match es t with
  | some g=>cN g λg=>match u with
   |none=>⟨λ_ e d c=>(iG m x).f e λx=>(NL m lo).f e 0 λa=>LQ x ((NL m hi).f e 0 λb=>adb d c a b) (λid z j n=>Vc z g ((NL m hi).f e n λb=>abd d c id z j n a b)) (λid z j n q=>Vc z g ((NL m hi).f e n λb=>Sj d c id z j q a b)) .no (λ_=> .no) λ_ _=> .no⟩
   |some u=>match hi with
    |some hi=>⟨λ_ e d c=>(iG m x).f e λx=>(NL m lo).f e 0 λa=>(NL m (some hi)).f e 0 λb=>(NL m (some u)).f e 0 λq=>LQ x .no (λid z j n=>Vc z g (ji (Nat.ble q n) (Sj d c id z j q a b))) (λid z j _ q0=>Vc z g (ji (Nat.ble q q0) (Sj d c id z j q a b))) .no (λ_=> .no) λ_ _=> .no⟩
    |none=>gS
  |none=>match arr t,u with
   |some (n,1),none=>cN n λn=>⟨λ_ e d c=>(iG m x).f e λx=>(NL m lo).f e 0 λa=>(NL m hi).f e n λb=>MU x λid o=>ji (Nat.ble n maxLen) (Sj d c id 1 o n a b)⟩
   |_,_=>gS
def lnK (d:Mem) (c:Kt) (n:Nat):Rs:=ji (Nat.ble n 9223372036854775807) (c (.v (.n .i64 n)) d)
def abQ (d:Mem) (c:Kt) (n:Nat):Rs:=fN n λn=>lnK d c n
def lnW (m:Nat) (t:i9) (x:i7):Wh:=match fC t with
 |true=>⟨λ_ e d c=>(iG m x).f e λx=>match Ze x with
  |some l=>abQ d c l.length
  |none=>Kv x λl=>abQ d c l.length⟩
 |false=>match es t with
  |some _=>⟨λ_ e d c=>(iG m x).f e λx=>LQ x (c (.v (.n .i64 0)) d) (λ_ _ _ n=>lnK d c n) (λ_ _ _ n _=>lnK d c n) (c (.v (.n .i64 0)) d) (λ_=> .no) λ_ _=> .no⟩
  |none=>gS
def mnW (up:Bool) (m:Nat) (x y:i7):Wh:=⟨λ_ e d c=>(iG m x).f e λx=>(iG m y).f e λy=>N0 x λk a=>N0 y λg b=>tj k g (zB (eB up (bI a b)) (c y d) (c x d))⟩
def Y9 (f:Mem) (z:Nat) (x:AV) (k:Nat->ip SV->Rs):Rs:=LQ x (k 0 []) (λid d j n=>Jk f id (Nat.mul j d) (Nat.mul n z) λl=>k n l) (λid d j n _=>Jk f id (Nat.mul j d) (Nat.mul n z) λl=>k n l) (k 0 []) (λ_=> .no) λ_ _=> .no
def stK (x:AV) (k:Nat->ip SV->Rs):Rs:=Kv x λs=>fN s.length λn=>fP (s.map λc=> .n .u8 c) λl=>k n l
def ldW (m:Nat) (t:i9) (x:i7):Wh:=match one t with
 |true=>⟨λ_ e u c=>(iG m x).f e λp=>MU p λid o=>NM u id λw=>yf w.d o w.m λx=>c (.v x) u⟩
 |false=>match get kA t with
  |some n=>cN n λn=>⟨λ_ e u c=>(iG m x).f e λp=>MU p λid o=>Jk u id o n λl=>c (.g l) u⟩
  |none=>gS
def SZ (g:Mem) (c:Kt) (id o:Nat) (x:SV):Rs:=NM g id λf=>zq f.d o x f.m λm=>zq dI id ⟨f.e,f.d,f.n,m⟩ g.h λh=>c (.v .u) ⟨g.n,h,g.mp⟩
def stW (m:Nat) (t:i9) (x y:i7):Wh:=match one t with
 |true=>⟨λ_ e d c=>(iG m x).f e λp=>(iG m y).f e λv=>MU p λid o=>S0 v (λx=>Y4 x (SZ d c id o x)) λ_=> .no⟩
 |false=>match get kA t with
  |some n=>cN n λn=>⟨λ_ e d c=>(iG m x).f e λp=>(iG m y).f e λv=>MU p λid o=>VE v λl=>ji (Nat.beq l.length n) (ji (Nat.ble 1 n) (SN d id o l λd=>c (.v .u) d))⟩
  |none=>gS
def ZV (t:i9) (z:Option (ip SV)):Wh:=match z with
 |some z=>T9 z λz=>⟨λ_ _ d c=>rb d t z λid d=>c (.v (.p id 0)) d⟩
 |none=>gS
def bxW (m:Nat) (t:i9) (x:i7):Wh:=⟨λ_ e d c=>(iG m x).f e λv=>S0 v (λx=>Y4 x (rb d t [x] λid d=>c (.v (.p id 0)) d)) λl=>rb d t l λid d=>c (.v (.p id 0)) d⟩
def an (a b:Bool):Bool:=Bool.rec (motive:=λ_=>Bool) false b a
def rep (l:ip SV) (n:Nat):ip SV:=Nat.rec (motive:=λ_=>ip SV) [] (λ_ d=>l++d) n
def rw0 (x:Option (i9×Nat)):Wh:=match x with
 |some (el,z)=>cN z λz=>⟨λ_ _ d c=>rb d el [] λid d=>c (.v (.lx id z 0 0 0)) d⟩
 |none=>gS
def ZJ (m:Nat) (n:Nat) (ps:ip (Nat×i7)) (x:Option (i9×Nat)):Wh:=match n,ps with
 |0,[]=>rw0 x
 | n,ps=>match x with
  | some (el,z)=>match zA el with
   |some zs=>match an (Nat.beq zs.length z) (an (Nat.ble 1 n) (an (Nat.ble 1 z) (Nat.ble (Nat.mul n z) 16777216)))with
    |false=>gS
    |true=>cN z λz=>cN n λn=>T9 (rep zs n) λl=>⟨λ_ e d c=>(Zd m (aa0 z) ps).f e l λl=>rb d el l λid d=>c (.v (.lx id z 0 n n)) d⟩
   |none=>gS
  |none=>gS
def ZQ (t:i9):Bool:=match prog.info? t with
 |some i=>Nat.ble i.bytes 1000000
 |none=>false
def mkK (d:Mem) (c:Kt) (el z:Nat) (zs:ip SV) (a b:AV):Rs:=uR a λ_ n=>uR b λ_ q=>ji (Nat.ble n q) (ji (Nat.ble q 65536) (fP (rep zs q) λl=>rb d el l λid d=>c (.v (.lx id z 0 n q)) d))
def mkW (m:Nat) (n q:i7) (x:Option (i9×Nat)):Wh:=match x with
 | some (el,z)=>match ZQ el,zA el with
  |true,some zs=>match Nat.beq zs.length z with
   |false=>gS
   |true=>cN z λz=>T9 zs λzs=>⟨λ_ e d c=>(iG m n).f e λa=>(iG m q).f e λb=>mkK d c el z zs a b⟩
  |_,_=>gS
 |none=>gS
def byK (l:ip SV) (k:ip Nat->Rs):Rs:=List.rec (motive:=λ_=>(ip Nat->Rs)->Rs) (λk=>k []) (λx _ d k=>uR (.v x) λq a=>tj q .u8 (d λr=>k (a::r))) l k
def cvI (m:Nat) (k:kw) (x:i7):Wh:=⟨λ_ e d c=>(iG m x).f e λv=>N0 v λ_ a=>SO d c k a⟩
def YE (m:Nat) (s d:i9) (x:i7):Wh:=match kindOf d with
 | some k=>match kindOf s with
  |some _=>cvI m k x
  |none=>match k,prog.underlying s with
   | .i64,some (.float .f64)=>⟨λ_ e g c=>(iG m x).f e λv=>Zs v λa=>c (.v (.n .i64 a)) g⟩
   |_,_=>gS
 | none=>match fC d with
  | true=>match fC s with
   |true=>⟨λ_ e g c=>(iG m x).f e λv=>Kv v λ_=>c v g⟩
   | false=>match elemOf s with
    |some (el,1)=>match kindOf el with
     |some .u8=>⟨λ_ e g c=>(iG m x).f e λv=>Y9 g 1 v λ_ l=>byK l λl=>ji (Nat.ble l.length maxLen) (c (.v (.s l)) g)⟩
     |_=>gS
    |_=>gS
  | false=>match elemOf d with
   | some (el,1)=>match kindOf el with
    | some .u8=>match fC s with
     |true=>⟨λ_ e g c=>(iG m x).f e λv=>Kv v λl=>fN l.length λn=>ji (Nat.ble 1 n) (fP (l.map λc=> .n .u8 c) λr=>rb g el r λid g=>c (.v (.l id 1 0 n)) g)⟩
     |false=>match Nat.beq s d with
      |true=>⟨λ_ e g c=>(iG m x).f e λv=>LQ v .no (λid _ _ _=>NM g id λt=>yf t.d 0 t.m λ_=>c v g) (λid _ _ _ _=>NM g id λt=>yf t.d 0 t.m λ_=>c v g) .no (λ_=> .no) λ_ _=> .no⟩
      |false=>gS
    |_=>gS
   |_=>match prog.underlying d,kindOf s with
    |some (.float .f64),some _=>⟨λ_ e g c=>(iG m x).f e λv=>uR v λ_ a=>ji (Nat.ble a 1099511627776) (c (.v (.fl a)) g)⟩
    |_,_=>gS
def apF (g:Mem) (c:Kt) (z id n q:Nat) (f:Ob) (new:ip SV):Rs:=Cx f.d f.n new f.m λt=>fN (Nat.add f.n new.length) λk=>SB g id λg=>U5 g ⟨f.e,f.d,k,t⟩ λid g=>fN (Nat.add n q) λn=>c (.v (.l id z 0 n)) g
def apS (f:Mem) (c:Kt) (el z id n q:Nat) (g:Ob) (new:ip SV):Rs:=Zt g.d g.m 0 (Nat.mul n z) λold=>fP (old++new) λl=>SB f id λf=>rb f el l λid f=>fN (Nat.add n q) λn=>c (.v (.l id z 0 n)) f
def apL (g:Mem) (c:Kt) (el z id n q:Nat) (new:ip SV):Rs:=NM g id λf=>ji (Nat.beq f.e el) (yf f.d 0 f.m λ_=>zB (an (Nat.beq f.n (Nat.mul n z)) (Nat.ble (Nat.add f.n new.length) (Nat.shiftLeft 1 f.d))) (apF g c z id n q f new) (apS g c el z id n q f new))
def apX (d:Mem) (c:Kt) (el z id j n k q:Nat) (new:ip SV):Rs:=zB (Nat.ble (Nat.add n q) k) (fN (Nat.mul (Nat.add j n) z) λo=>SN d id o new λd=>fN (Nat.add n q) λn=>c (.v (.lx id z j n k)) d) (Jk d id (Nat.mul j z) (Nat.mul n z) λold=>fP (old++new) λl=>rb d el l λid d=>fN (Nat.add n q) λn=>c (.v (.l id z 0 n)) d)
def apK (d:Mem) (c:Kt) (el z:Nat) (s:AV) (q:Nat) (new:ip SV):Rs:=LQ s (Nat.rec (motive:=λ_=>Rs) (c (.v .l0) d) (λ_ _=>ji (Nat.ble q 1000000) (rb d el new λid d=>c (.v (.l id z 0 q)) d)) q) (λid f j n=>ji (Nat.beq j 0) (Vc f z (ji (Nat.ble (Nat.add n q) 1000000) (Nat.rec (motive:=λ_=>Rs) (c s d) (λ_ _=>apL d c el z id n q new) q)))) (λid f j n k=>Vc f z (ji (Nat.ble (Nat.add n q) 1000000) (Nat.rec (motive:=λ_=>Rs) (c s d) (λ_ _=>apX d c el z id j n k q new) q))) .no (λ_=> .no) λ_ _=> .no
structure Ws where
 f:Mem->AV->(Nat->List SV->Rs)->Rs
def scW (el z:Nat) (t u:i9):Option Ws:=match fC u with
 |true=>match Nat.beq z 1,kindOf el with
  |true,some .u8=>some ⟨λ_=>stK⟩
  |_,_=>none
 |false=>match Nat.beq t u with
  |true=>some ⟨λd=>Y9 d z⟩
  |false=>none
def apW (m:Nat) (t u:i9) (x y:i7):Wh:=match elemOf t with
 | some (el,z)=>match ZQ el,zA el with
  |true,some zs=>match Nat.beq zs.length z,Nat.ble 1 z,scW el z t u with
   |true,true,some r=>cN z λz=>⟨λ_ e d c=>(iG m x).f e λs=>(iG m y).f e λy=>r.f d y λq new=>apK d c el z s q new⟩
   |_,_,_=>gS
  |_,_=>gS
 |none=>gS
def cpT (d:Mem) (c:Kt) (z id f j n q:Nat) (new:ip SV):Rs:=Vc f z (fN (Nat.min q n) λr=>Nat.rec (motive:=λ_=>Rs) (c (.v (.n .i64 0)) d) (λ_ _=>fP (new.take (Nat.mul r z)) λl=>fN (Nat.mul j z) λo=>SN d id o l λd=>lnK d c r) r)
def cpK (d:Mem) (c:Kt) (z:Nat) (s:AV) (q:Nat) (new:ip SV):Rs:=LQ s (c (.v (.n .i64 0)) d) (λid f j n=>cpT d c z id f j n q new) (λid f j n _=>cpT d c z id f j n q new) (c (.v (.n .i64 0)) d) (λ_=> .no) λ_ _=> .no
def cpW (m:Nat) (t u:i9) (x y:i7):Wh:=match elemOf t with
 |some (el,z)=>match Nat.ble 1 z,scW el z t u with
  |true,some r=>cN z λz=>⟨λ_ e d c=>(iG m x).f e λs=>(iG m y).f e λy=>r.f d y λq new=>cpK d c z s q new⟩
  |_,_=>gS
 |none=>gS
def clT (d:Mem) (c:Kt) (z:Nat) (zs:ip SV) (id f j n:Nat):Rs:=Vc f z (Nat.rec (motive:=λ_=>Rs) (c (.t []) d) (λ_ _=>fP (rep zs n) λl=>fN (Nat.mul j z) λo=>SN d id o l λd=>c (.t []) d) n)
def clW (m:Nat) (t:i9) (x:i7):Wh:=match elemOf t with
 | some (el,z)=>match zA el with
  |some zs=>match Nat.beq zs.length z,Nat.ble 1 z with
   |true,true=>cN z λz=>T9 zs λzs=>⟨λ_ e d c=>(iG m x).f e λx=>LQ x (c (.t []) d) (λid g j n=>clT d c z zs id g j n) (λid g j n _=>clT d c z zs id g j n) (c (.t []) d) (λ_=> .no) λ_ _=> .no⟩
   |_,_=>gS
  |none=>gS
 |none=>gS
def bfW (m:Nat) (b:Builtin) (a:ip i7) (ts:ip i9):Wh:=match b,a,ts with
 | .len,[x],[t]=>lnW m t x
 | .append,[x,y],[t,u]=>apW m t u x y
 | .copy,[x,y],[t,u]=>cpW m t u x y
 | .clear,[x],[t]=>clW m t x
 | .complex,[x,y],[_,_]=>⟨λ_ e d c=>(iG m x).f e λx=>(iG m y).f e λy=>Zs x λa=>Zs y λb=>c (.v (.cx a b)) d⟩
 | .real,[x],[_]=>⟨λ_ e d c=>(iG m x).f e λx=>onX x λa _=>c (.v (.fl a)) d⟩
 | .imag,[x],[_]=>⟨λ_ e d c=>(iG m x).f e λx=>onX x λ_ b=>c (.v (.fl b)) d⟩
 | .min,[x,y],[_,_]=>mnW false m x y
 | .max,[x,y],[_,_]=>mnW true m x y
 |_,_,_=>gS
def rvK (c:Kt) (r:Rs):Rs:=Rs.rec (motive:=λ_=>Rs) .no (λx _ d=>Ex.rec (motive:=λ_=>Rs) .no (λ_=> .no) (λ_=> .no) .no (λv=>c v d) x) r
def Rg:Option Nat:=some 246
def adR (d:Mem) (c:Kt) (x y z:AV):Rs:=uR x λk a=>tj k .u64 (uR y λk b=>tj k .u64 (uR z λk q=>tj k .u64 (ji (Nat.ble q 1) (fN (Nat.add (Nat.add a b) q) λs=>fN (Nat.mod s 18446744073709551616) λlo=>fN (Nat.div s 18446744073709551616) λhi=>c (.t [.v (.n .u64 lo),.v (.n .u64 hi)]) d))))
def ad3 (d:Mem) (c:Kt) (l:ip AV):Rs:=List.rec (motive:=λ_=>Rs) .no (λx l _=>List.rec (motive:=λ_=>Rs) .no (λy l _=>List.rec (motive:=λ_=>Rs) .no (λz l _=>List.rec (motive:=λ_=>Rs) (adR d c x y z) (λ_ _ _=> .no) l) l) l) l
def caW (m:Nat) (k:Callee) (a:ip i7) (ts:ip i9):Wh:=match k with
 | .value (.func f)=>match bit qR f with
  |true=>⟨λn e d c=>(Sl m a).f e λvs=>rvK c (n f vs d)⟩
  | false=>match Rg with
   |some q=>match Nat.beq q f with
    |true=>⟨λ_ e d c=>(Sl m a).f e λvs=>ad3 d c vs⟩
    |false=>gS
   |none=>gS
 | .value (.tmp t)=>⟨λn e d c=>(QX m t).f e λv=>(Sl m a).f e λvs=>onF v λg u=>ji (bit qR g) (fP (vs++u.map AV.v) λvs=>rvK c (n g vs d))⟩
 | .builtin b=>bfW m b a ts
 |_=>gS
def onM (x:AV) (f:Nat->Rs):Rs:=AV.rec (motive:=λ_=>Rs) (λx=>SV.rec (motive:=λ_=>Rs) (λ_ _=> .no) (λ_ _=> .no) (λ_=> .no) (λ_=> .no) .no (λ_ _=> .no) .no (λ_ _ _ _=> .no) (λ_ _ _ _ _=> .no) (λ_ _ _ _=> .no) .no (λ_=> .no) (λ_ _=> .no) f .no (λ_ _=> .no) (λ_=> .no) x) (λ_=> .no) (λ_=> .no) (λ_ _=> .no) x
def Io {α:Type} (k:Nat) (l:ip (Nat×α)):Option α:=List.rec (motive:=λ_=>Option α) none (λp _ d=>Bool.rec (motive:=λ_=>Option α) d (some p.2) (Nat.beq p.1 k)) l
def asK {α:Type} (x:Option α) (f:α->Rs):Rs:=match x with
 |some a=>f a
 |none=> .no
def ZP (v:Option i6):Bool:=match v with
 |some (.int .i64 (.ofNat n))=>Nat.beq n 0
 |_=>false
def mpT (t:i9):Bool:=match prog.underlying t with
 |some (.map f d)=>match kindOf f with
  |some .i64=>ZP ((prog.info? d).bind (·.zero))
  |_=>false
 |_=>false
def mpS (t:i9):Bool:=match prog.underlying t with
 |some (.map f d)=>match prog.underlying f with
  |some .string=>ZP ((prog.info? d).bind (·.zero))
  |_=>false
 |_=>false
def mkM (t:i9):Wh:=match mpT t||mpS t with
 |true=>⟨λ_ _ d c=>fN (Nat.add d.n 1) λn=>c (.v (.mp d.n)) ⟨n,d.h,(d.n,[])::d.mp⟩⟩
 |false=>gS
def lkK (d:Mem) (c:Kt) (a:Nat) (l:ip (Nat×Nat)):Rs:=match Io a l with
 |some v=>ji (Nat.ble v 9223372036854775807) (c (.t [.v (.n .i64 v),.v (.b true)]) d)
 |none=>c (.t [.v (.n .i64 0),.v (.b false)]) d
def lkW (m:Nat) (t:i9) (x y:i7):Wh:=match mpT t with
 |true=>⟨λ_ e d c=>(iG m x).f e λx=>(iG m y).f e λy=>onM x λid=>uR y λk a=>tj k .i64 (asK (Io id d.mp) λl=>lkK d c a l)⟩
 |false=>gS
def aa3 (l:ip (Nat×Nat)) (r:Rs):Rs:=List.rec (motive:=λ_=>Rs) r (λ_ _ _=> .no) l
def leW (m:Nat) (t:i9) (x y:i7):Wh:=match mpS t with
 |true=>⟨λ_ e d c=>(iG m x).f e λx=>(iG m y).f e λy=>onM x λid=>Kv y λ_=>asK (Io id d.mp) λl=>aa3 l (c (.v (.n .i64 0)) d)⟩
 |false=>gS
def muK (d:Mem) (c:Kt) (id a b:Nat) (l:ip (Nat×Nat)):Rs:=match Io a l with
 |some _=> .no
 |none=>fP (l++[(a,b)]) λl=>c (.v .u) ⟨d.n,d.h,(id,l)::d.mp⟩
def muW (m:Nat) (t:i9) (x y z:i7):Wh:=match mpT t with
 |true=>⟨λ_ e d c=>(iG m x).f e λx=>(iG m y).f e λy=>(iG m z).f e λz=>onM x λid=>uR y λk a=>tj k .i64 (uR z λk b=>tj k .i64 (asK (Io id d.mp) λl=>muK d c id a b l))⟩
 |false=>gS
def mvW (m:Nat) (x:i7):Wh:=⟨λ_ e d c=>(iG m x).f e λv=>c v d⟩
def JG (m:Nat) (op:Op):Wh:=match op with
 | .move x=>mvW m x
 | .assign x=>mvW m x
 | .pick x a b=>pkW m x a b
 | .nilCheck x=>⟨λ_ e u c=>(iG m x).f e λv=>MU v λid o=>c (.v (.p id o)) u⟩
 | .fieldAddr s x f=>match Nat.blt f 100 with
  |true=>fdW m x (fo s f)
  |false=>gS
 | .indexAddr t x i=>ixW m t x i
 | .binOp op t x y _=>biW m t op x y
 | .unOp op _ x=>unW m op x
 | .extract x k=>exW m x k
 | .field t x k=>flW m x (vj t k)
 | .index t x i=>elW m t x i
 | .build t ps=>buW m t ps.toList
 | .makeFunc fn a b=>mfW m fn a.toList b.toList
 | .slice t x lo hi g=>slW m t x lo hi g
 | .load t x=>ldW m t x
 | .store t x y=>stW m t x y
 | .alloc t=>ZV t (zA t)
 | .box t x=>bxW m t x
 | .buildSlice t n ps=>ZJ m n ps.toList (elemOf t)
 | .makeSlice t n q=>mkW m n q (elemOf t)
 | .convert s d x=>YE m s d x
 | .makeMap t none=>mkM t
 | .lookup t x y true=>lkW m t x y
 | .lookup t x y false=>leW m t x y
 | .mapUpdate t x y z=>muW m t x y z
 | .call cl=>caW m cl.callee cl.args.toList cl.argTypes.toList
 |_=>gS
structure Wd where
 f:En->AV->(En->Rs)->Rs
def Ig (m:Nat) (d:Option Nat):Wd:=match d with
 |none=>⟨λe _ c=>c e⟩
 |some d=>match kept m d with
  |true=>⟨λe v c=>JM d v e.vs λvs=>c ⟨vs,e.ts,e.hs,e.ms⟩⟩
  |false=>⟨λe v c=>c ⟨e.vs,(d,v)::e.ts,e.hs,e.ms⟩⟩
def bqK (x:AV) (want:Bool) (a b:Rs):Rs:=AV.rec (motive:=λ_=>Rs) (λx=>SV.rec (motive:=λ_=>Rs) (λ_ _=> .no) (λ_ _=> .no) (λq=>zB (eB q want) a b) (λ_=> .no) .no (λ_ _=> .no) .no (λ_ _ _ _=> .no) (λ_ _ _ _ _=> .no) (λ_ _ _ _=> .no) b (λ_=> .no) (λ_ _=> .no) (λ_=> .no) .no (λ_ _=> .no) (λ_=> .no) x) (λ_=> .no) (λ_=> .no) (λ_ _=> .no) x
def Sk (full:ip li) (j:Nat):Option Nat:=List.rec (motive:=λ_=>Nat->Option Nat) (λ_=>none) (λo _ d j=>Nat.rec (motive:=λ_=>Option Nat) o.dst (λj _=>d j) j) full j
def W7 (d:Option Nat) (op:Op):Bool:=match d,op with
 |none,.store .. =>true
 |some _,.store .. =>false
 |none,.mapUpdate .. =>true
 |some _,.mapUpdate .. =>false
 |some _,_=>true
 |none,.call cl=>match cl.callee with
  | .value _=>true
  | .builtin .append=>true
  | .builtin .copy=>true
  | .builtin .clear=>true
  |_=>false
 |none,_=>false
def ae0 (l:ip SV):Bool:=List.rec (motive:=λ_=>Bool) false (λx _ d=>match x with
 | .x _ _=>true
 |_=>d) l
def bz1 (x:SV) (f:Nat->Rs):Rs:=match x with
 | .n .u8 a=>f a
 | .x .u8 id=>fN (Nat.add 256 id) f
 |_=> .no
def bzK (l:ip SV) (k:ip Nat->Rs):Rs:=List.rec (motive:=λ_=>(ip Nat->Rs)->Rs) (λk=>k []) (λx _ d k=>bz1 x λq=>d λr=>k (q::r)) l k
def cuK (d:Mem) (c:Kt) (old:Rs) (l:ip SV):Rs:=match ae0 l with
 |true=>bzK l λr=>ji (Nat.ble r.length maxLen) (c (.v (.sl r)) d)
 |false=>old
def cuN (d:Mem) (c:Kt) (k:kw) (old:Rs) (v:AV):Rs:=match Xy v with
 |some _=>D5 d c k
 |none=>old
def cuB (s d:i9):Bool:=match fC d,fC s,elemOf s with
 |true,false,some (el,1)=>match kindOf el with
  |some .u8=>true
  |_=>false
 |_,_,_=>false
def cuW (m:Nat) (s d:i9) (x:i7) (W:Wh):Wh:=match kindOf d,kindOf s with
 |some k,some _=>⟨λn e g c=>(iG m x).f e λv=>cuN g c k (W.f n e g c) v⟩
 |none,_=>match cuB s d with
  |true=>⟨λn e g c=>(iG m x).f e λv=>Y9 g 1 v λ_ l=>cuK g c (W.f n e g c) l⟩
  |false=>W
 |_,_=>W
def Zi (m:Nat) (op:Op):Wh:=match op with
 | .convert s d x=>cuW m s d x (YE m s d x)
 |op=>JG m op
def noO:Wo:=⟨λ_ _ _ _=> .no⟩
def Td (m:Nat) (full:ip li) (o:li) (w:Wo):Wo:=match o.guard with
 |none=>w
 |some (j,want)=>match Sk full j with
  |some d=>⟨λn e g c=>(QX m d).f e λq=>bqK q want (w.f n e g c) ((Ig m o.dst).f e (.v .u) λe=>c e g)⟩
  |none=>noO
def orW (m:Nat) (full:ip li) (o:li):Wo:=match W7 o.dst o.op with
 |false=>noO
 |true=>Td m full o ⟨λg e d c=>(Zi m o.op).f g e d λv d=>(Ig m o.dst).f e v λe=>c e d⟩
abbrev Nt:=Nat×Nat×ip SV
structure Wl where
 f:En->Mem->(AV->Nt->Rs)->Rs
def ldH (m:Nat) (t:i9) (x:i7):Wl:=match one t with
 |true=>⟨λe u c=>(iG m x).f e λp=>MU p λid o=>NM u id λw=>yf w.d o w.m λy=>c (.v y) (id,o,[y])⟩
 |false=>match get kA t with
  |some n=>cN n λn=>⟨λe u c=>(iG m x).f e λp=>MU p λid o=>Jk u id o n λl=>c (.g l) (id,o,l)⟩
  |none=>⟨λ_ _ _=> .no⟩
def noL:Wl:=⟨λ_ _ _=> .no⟩
def cvN (d:Mem) (c:AV->Nt->Rs) (id z j n:Nat):Rs:=Vc z 1 (Jk d id j n λl=>byK l λr=>ji (Nat.ble r.length maxLen) (c (.v (.s r)) (id,j,l)))
def rdH (m:Nat) (op:Op):Wl:=match op with
 | .convert s _ x=>match fC s,elemOf s with
  |false,some (el,1)=>match kindOf el with
   |some .u8=>⟨λe d c=>(iG m x).f e λv=>LQ v .no (λid z j n=>cvN d c id z j n) (λid z j n _=>cvN d c id z j n) .no (λ_=> .no) λ_ _=> .no⟩
   |_=>noL
  |_,_=>noL
 |_=>noL
def qn (m:Nat) (hs:ip Nat) (full:ip li) (o:li):Wo:=match W7 o.dst o.op with
 |false=>noO
 | true=>match o.op with
  | .load t x=>match n4 hs o.dst with
   |true=>Td m full o ⟨λ_ e d c=>(ldH m t x).f e d λv n=>(Ig m o.dst).f e v λe=>c ⟨e.vs,e.ts,n::e.hs,e.ms⟩ d⟩
   |false=>Td m full o ⟨λg e d c=>(JG m (.load t x)).f g e d λv u=>(Ig m o.dst).f e v λe=>c e u⟩
  | op=>match cls fD fC op with
   | .w=>Td m full o ⟨λg e d c=>(JG m op).f g e d λv d=>(Ig m o.dst).f e v λe=>c ⟨e.vs,e.ts,e.hs,d::e.ms⟩ d⟩
   | .p=>Td m full o ⟨λg e d c=>(Zi m op).f g e d λv u=>(Ig m o.dst).f e v λe=>c e u⟩
   | .r=>match n4 hs o.dst with
    |true=>Td m full o ⟨λ_ e d c=>(rdH m op).f e d λv n=>(Ig m o.dst).f e v λe=>c ⟨e.vs,e.ts,n::e.hs,e.ms⟩ d⟩
    |false=>Td m full o ⟨λg e d c=>(JG m op).f g e d λv u=>(Ig m o.dst).f e v λe=>c e u⟩
   | .h=>noO
def lu (m:Nat) (hs:ip Nat) (full l:ip li):Wo:=List.rec (motive:=λ_=>Wo) ⟨λ_ e d c=>c e d⟩ (λo _ r=>⟨λg e d c=>(qn m hs full o).f g e d λe d=>r.f g e d c⟩) l
def sE (x y:SV):Bool:=match x,y with
 | .n k a,.n t b=>an (Nat.beq (kn k) (kn t)) (Nat.beq a b)
 | .m k a,.m t b=>an (Nat.beq (kn k) (kn t)) (Nat.beq a b)
 | .b a,.b b=>eB a b
 | .s a,.s b=>eU a b
 | .p0,.p0=>true
 | .p i a,.p j b=>an (Nat.beq i j) (Nat.beq a b)
 | .fl a,.fl b=>Nat.beq a b
 | .mp i,.mp j=>Nat.beq i j
 | .cx a b,.cx f b'=>an (Nat.beq a f) (Nat.beq b b')
 | .le i a b c,.le j f b' g=>an (Nat.beq i j) (an (Nat.beq a f) (an (Nat.beq b b') (Nat.beq c g)))
 | .l0,.l0=>true
 | .i0,.i0=>true
 | .x k i,.x t j=>an (Nat.beq (kn k) (kn t)) (Nat.beq i j)
 | .sl a,.sl b=>eU a b
 | .l i a b c,.l j f b' g=>an (Nat.beq i j) (an (Nat.beq a f) (an (Nat.beq b b') (Nat.beq c g)))
 | .lx i a b c d,.lx j f b' g u=>an (Nat.beq i j) (an (Nat.beq a f) (an (Nat.beq b b') (an (Nat.beq c g) (Nat.beq d u))))
 |_,_=>false
def lE (a:ip SV):ip SV->Bool:=List.rec (motive:=λ_=>ip SV->Bool) (λb=>match b with
 |[]=>true
 |_::_=>false) (λx _ d b=>match b with
 |[]=>false
 |y::r=>an (sE x y) (d r)) a
def ckM (ms:ip Mem) (n:Nt) (r:Rs):Rs:=List.rec (motive:=λ_=>Rs) r (λf _ d=>Jk f n.1 n.2.1 n.2.2.length λl=>ji (lE n.2.2 l) d) ms
def Js (d:Mem) (ms:ip Mem) (hs:ip Nt) (r:Rs):Rs:=List.rec (motive:=λ_=>Rs) r (λn _ f=>ji (Nat.ble (Nat.add n.1 1) d.n) (ckM (d::ms) n f)) hs
def tS (m:Nat) (full l:ip li):Wo:=List.rec (motive:=λ_=>Wo) ⟨λ_ e d c=>c e d⟩ (λo _ r=>⟨λg e d c=>(orW m full o).f g e d λe d=>r.f g e d c⟩) l
def sqK (g:En->Mem->Rs) (r:Rs):Rs:=Rs.rec (motive:=λ_=>Rs) .no (λx e d=>Ex.rec (motive:=λ_=>Rs) (g e d) (λn=> .mk (.ext n) e d) (λn=> .mk (.P8 n) e d) (.mk .ret e d) (λ_=> .no) x) r
def blK (id:Nat) (r:Rs):Rs:=Rs.rec (motive:=λ_=>Rs) .no (λx e d=>Ex.rec (motive:=λ_=>Rs) (.mk .pz e d) (λj=>zB (Nat.beq j id) (.mk .pz e d) (.mk (.ext j) e d)) (λn=> .mk (.P8 n) e d) (.mk .ret e d) (λ_=> .no) x) r
def lpK (f:En->Mem->Rs) (n:Nat):En->Mem->Rs:=Nat.rec (motive:=λ_=>En->Mem->Rs) (λ_ _=> .no) (λ_ d e g=>sqK d (f e g)) n
def Jf (g:Nat->En->Mem->Rs) (n:Nat):Rs->Rs:=Nat.rec (motive:=λ_=>Rs->Rs) (λ_=> .no) (λ_ f r=>Rs.rec (motive:=λ_=>Rs) .no (λx e d=>Ex.rec (motive:=λ_=>Rs) (.mk .pz e d) (λn=> .mk (.ext n) e d) (λl=>f (g l e d)) (.mk .ret e d) (λ_=> .no) x) r) n
def O3 (go:Code->Wc) (b:Code) (l:Nat):Wc:=match findLabel b l with
 |some ii=>go ii
 |none=>⟨λ_ _ _ _=> .no⟩
def noC:Wc:=⟨λ_ _ _ _=> .no⟩
def QL (io:Array li) (A:Array Nat) (i j:Nat):Bool:=match io[j]? with
 |none=>false
 | some o=>match cls fD fC o.op with
  | .w=>match Nat.ble (Nat.add j 1) i with
   |true=>!(A.getD i 0).testBit j
   |false=>!(A.getD j 0).testBit i
  |_=>false
def ldU (io:Array li) (A:Array Nat) (k:Nat):ip Nat:=(List.range k).filterMap λi=>match io[i]? with
 |none=>none
 | some o=>match o.op,o.dst with
  | .load ..,some d=>match(List.range io.size).any (QL io A i)with
   |true=>some d
   |false=>none
  | .convert s t _,some d=>match !fC s&&fC t&&(List.range io.size).any (QL io A i)with
   |true=>some d
   |false=>none
  |_,_=>none
def Oc (io:Array li) (k:Nat):ip Nat:=ldU io (Region.before io) k
def BC (op:Op):Bool:=match op with
 | .alloc _=>true
 | .buildSlice _ n _=>Nat.ble 1 n
 |_=>false
def tI (hs:ip Nat) (full:Array li) (A:Array Nat) (f:Nat) (post:ip Nat):ip Nat->ip (Nat×Bool)->Bool
 |l,[]=>qL fD fC hs full A l (f::post) []
 |l,(i,true)::pre=>(l.filter (lr full l)==[i,f]||l.filter (lr full l)==[f,i])&&(qL fD fC hs full A (l.erase f) (i::pre.map Prod.fst++post) []&&tI hs full A f post (l.erase i) pre)
 |l,(i,false)::pre=>(vG fD fC hs full A l i||l.filter (lr full l)==[i])&&tI hs full A f post (l.erase i) pre
def tK (l:ip li) (is:ip Nat):Option (ip li):=List.rec (motive:=λ_=>Option (ip li)) (some []) (λi _ d=>match l[i]?,d with
 |some o,some r=>some (o::r)
 |_,_=>none) is
def Gr (hs:ip Nat) (full:Array li) (A:Array Nat) (f:Nat):Nat->ip Nat->Option (ip (Nat×Bool)×ip Nat)
 |0,_=>none
 | n+1,l=>match l.find? λi=>!(i==f)&&vG fD fC hs full A l i with
  |some i=>match Gr hs full A f n (l.erase i)with
   |some (pre,post)=>some ((i,false)::pre,post)
   |none=>none
  | none=>match l.filter (lr full l)with
   |[a]=>if a==f then some ([],l.erase f)else match Gr hs full A f n (l.erase a)with
    |some (pre,post)=>some ((a,false)::pre,post)
    |none=>none
   |[a,b]=>match Gr hs full A f n (l.erase (if a==f then b else a))with
    |some (pre,post)=>some ((if a==f then b else a,true)::pre,post)
    |none=>none
   |_=>none
structure Pb where
 hs:List Nat
 pre:List (Oper×Bool)
 d:Nat
 d2:Nat
 f:Oper
 post:List Oper
def mQ (op:Op) (t:Nat):Bool:=op.operands.toList.any λx=>match x with
 | .tmp u=>Nat.beq u t
 |_=>false
def vY (d:Nat) (op:Op) (o:li):Bool:=match o.dst with
 |some t=>!(Nat.beq t d||mQ op t)
 |none=>true
def uC (d:Nat) (op:Op):ip (li×Bool)->Bool
 |[]=>true
 |(o,true)::r=>vY d op o&&r.all (λx=>vY d op x.1)&&uC d op r
 |(_,false)::r=>uC d op r
def Yv (hs:ip Nat) (io:Array li) (A:Array Nat) (f:Nat):Option Pb:=match io[f]? with
 | some ⟨some d,op,R,pos,af,none⟩=>match BC op&&!mQ op d,Gr hs io A f (io.size+1) (List.range io.size)with
  | true,some (pre,post)=>match tI hs io A f post (List.range io.size) pre,tK io.toList (pre.map Prod.fst),tK io.toList post with
   |true,some kZ,some g=>match uC d op (kZ.zip (pre.map Prod.snd))with
    |true=>some ⟨hs,kZ.zip (pre.map Prod.snd),d,d,⟨some d,op,R,pos,af,none⟩,g⟩
    |false=>none
   |_,_,_=>none
  |_,_=>none
 |_=>none
def xi (hs:ip Nat) (full:Array li) (A:Array Nat) (f g:Nat) (post:ip Nat):ip Nat->ip (Nat×Bool)->Bool
 |l,[]=>qL fD fC hs full A l (f::g::post) []
 |l,(i,true)::pre=>(l.filter (lr full l)==[i,f]||l.filter (lr full l)==[f,i])&&(tI hs full A g post (l.erase f) ((i,true)::pre)&&xi hs full A f g post (l.erase i) pre)
 |l,(i,false)::pre=>(vG fD fC hs full A l i||l.filter (lr full l)==[i])&&xi hs full A f g post (l.erase i) pre
def PM (d:Nat) (t:i9) (op:Op):Bool:=match op with
 | .convert s u (.tmp x)=>Nat.beq x d&&(Nat.beq s t&&(fC u&&(!fC s&&match elemOf s with
  |some (el,1)=>match kindOf el with
   |some .u8=>true
   |_=>false
  |_=>false)))
 |_=>false
def aal (io:Array li) (d:Nat) (t:i9):Option Nat:=(List.range io.size).find? λi=>match io[i]? with
 |some o=>PM d t o.op
 |none=>false
def Rj (d2:Nat):ip (li×Bool)->Bool
 |[]=>true
 |x::r=>(match x.1.dst with
  |some t=>!Nat.beq t d2
  |none=>true)&&Rj d2 r
def bsT (op:Op):Option i9:=match op with
 | .buildSlice t n _=>match Nat.ble 1 n with
  |true=>some t
  |false=>none
 |_=>none
def YL (hs0:ip Nat) (io:Array li) (A:Array Nat) (f:Nat):Option Pb:=match io[f]? with
 | some ⟨some d,op,R,pos,af,none⟩=>match bsT op,mQ op d with
  | some t,false=>match aal io d t with
   | some g=>match io[g]? with
    | some ⟨some d2,m,x,w,n,none⟩=>match PM d t m&&!Nat.beq d d2&&!mQ op d2,Gr (hs0.filter λt=>!Nat.beq t d2) io A f (io.size+1) (List.range io.size)with
     | true,some (pre,u::post)=>match Nat.beq u g&&!n4 (hs0.filter λt=>!Nat.beq t d2) (some d2)&&xi (hs0.filter λt=>!Nat.beq t d2) io A f g post (List.range io.size) pre,tK io.toList (pre.map Prod.fst),tK io.toList post with
      |true,some kZ,some v=>match uC d op (kZ.zip (pre.map Prod.snd))&&Rj d2 (kZ.zip (pre.map Prod.snd))with
       |true=>some ⟨hs0.filter λt=>!Nat.beq t d2,kZ.zip (pre.map Prod.snd),d,d2,⟨some d,op,R,pos,af,none⟩,⟨some d2,m,x,w,n,none⟩::v⟩
       |false=>none
      |_,_,_=>none
     |_,_=>none
    |_=>none
   |none=>none
  |_,_=>none
 |_=>none
inductive Rk where
 |bad|text
 |held (cut:Nat)
 |free (x:Pb)
 |FV (x:Pb)
def stP (l:ip li) (k:Nat):ip Nat:=List.rec (motive:=λ_=>Nat->ip Nat) (λk=>[k]) (λo _ d k=>match o.op with
 | .store .. =>k::d (Nat.add k 1)
 |_=>d (Nat.add k 1)) l k
def Fv (io:Array li) (l:ip Nat):Rk:=List.rec (motive:=λ_=>Rk) .bad (λk _ d=>cN k λk=>match px fD fC (Oc io k) k io (Region.before io)with
 |true=> .held k
 |false=>d) l
def pR (N:Nat) (drawn:Bool) (io:Array li):Rk:=match pH N io with
 |false=> .bad
 | true=>match drawn with
  |false=> .text
  | true=>match yV fD fC [] io (Region.before io)with
   |true=> .text
   | false=>match Fv io (stP io.toList 0)with
    | .bad=>match Dk io (Region.before io)with
     | true=>match(List.range io.size).findSome? (YL (Oc io io.size) io (Region.before io))with
      |some x=> .FV x
      |none=>match(List.range io.size).findSome? (Yv (Oc io io.size) io (Region.before io))with
       |some x=> .free x
       |none=> .bad
     |false=> .bad
    |x=>x
def mG (d:Nat) (l:mP):mP:=List.rec (motive:=λ_=>mP) [] (λx _ f=>Bool.rec (motive:=λ_=>mP) (x::f) f (Nat.beq x.1 d)) l
def kr (d:Nat) (e:En):En:=⟨mG d e.vs,mG d e.ts,e.hs,e.ms⟩
def nX (m:Nat) (hs:ip Nat) (full:ip li) (d d2:Nat) (l:ip (li×Bool)):Wo:=List.rec (motive:=λ_=>Wo) ⟨λ_ e g c=>c e g⟩ (λo _ r=>⟨λn e g c=>(qn m hs full o.1).f n (kr d (kr d2 e)) g λe g=>r.f n e g c⟩) l
def mI (N m:Nat) (d:Nat):Code->Wc:=Nat.rec (motive:=λ_=>Code->Wc) (λ_=>noC) (λ_ go c=>match c with
 | .skip=>⟨λ_ _ e g=> .mk .pz e g⟩
 | .label _=>⟨λ_ _ e g=> .mk .pz e g⟩
 | .region _ io drawn=>match pR N drawn io with
  | .text=>⟨λt _ e g=>(tS m io.toList io.toList).f t ⟨e.vs,[],[],[]⟩ g λe g=> .mk .pz e g⟩
  | .held k=>⟨λt _ e g=>(lu m (Oc io k) io.toList (io.toList.take k)).f t ⟨e.vs,[],[],[]⟩ g λe' u=>Js g e'.ms e'.hs ((tS m io.toList (io.toList.drop k)).f t e' u λe g=> .mk .pz e g)⟩
  | .free x=>⟨λt _ e g=>(nX m x.hs io.toList x.d x.d2 x.pre).f t ⟨e.vs,[],[],[]⟩ g λe' u=>(qn m x.hs io.toList x.f).f t e' u λe' u=>(lu m x.hs io.toList x.post).f t e' u λe' u=>Js g e'.ms e'.hs (.mk .pz e' u)⟩
  | .FV x=>⟨λt _ e g=>(nX m x.hs io.toList x.d x.d2 x.pre).f t ⟨e.vs,[],[],[]⟩ g λe' u=>(qn m x.hs io.toList x.f).f t e' u λe' u=>(lu m x.hs io.toList x.post).f t e' u λe' u=>Js g e'.ms e'.hs (.mk .pz e' u)⟩
  | .bad=>noC
 | .seq a b=>⟨λt n e g=>sqK ((go b).f t n) ((go a).f t n e g)⟩
 | .cond x a b=>⟨λt n e g=>(iG m x).f e λq=>WU q ((go a).f t n e g) ((go b).f t n e g)⟩
 | .block id b=>⟨λt n e g=>blK id ((go b).f t n e g)⟩
 | .loop b=>⟨λt n e g=>lpK ((go b).f t n) n e g⟩
 | .scope b=>⟨λt n e g=>Jf (λl=>(O3 go b l).f t n) n ((go b).f t n e g)⟩
 | .exit id=>⟨λ_ _ e g=> .mk (.ext id) e g⟩
 | .goto l=>⟨λ_ _ e g=> .mk (.P8 l) e g⟩
 | .ret=>⟨λ_ _ e g=> .mk .ret e g⟩
 |_=>noC) d
def paK (m:Nat) (l:ip AV) (c:mP->Rs):Rs:=List.rec (motive:=λ_=>Nat->(mP->Rs)->Rs) (λ_ c=>c []) (λx _ d k c=>fN (Nat.add k 1) λf=>d f λr=>zB (kept m k) (c ((k,x)::r)) (c r)) l 0 c
structure Wr where
 f:En->Mem->(AV->Rs)->Rs
structure Wrs where
 f:En->Mem->(List AV->Rs)->Rs
def reW (m:Nat) (r:ResultVar):Wr:=match r with
 | .tmp t=>⟨λe _ k=>(QX m t).f e k⟩
 | .cell a t=>match one t with
  |true=>⟨λe u k=>(QX m a).f e λp=>MU p λid o=>NM u id λw=>yf w.d o w.m λx=>k (.v x)⟩
  |false=>match get kA t with
   |some n=>cN n λn=>⟨λe u k=>(QX m a).f e λp=>MU p λid o=>Jk u id o n λl=>k (.g l)⟩
   |none=>⟨λ_ _ _=> .no⟩
def TJ (m:Nat) (l:ip ResultVar):Wrs:=List.rec (motive:=λ_=>Wrs) ⟨λ_ _ k=>k []⟩ (λx _ r=>⟨λe d k=>(reW m x).f e d λv=>r.f e d λl=>k (v::l)⟩) l
def tuK (l:ip AV) (k:ip TV->Rs):Rs:=List.rec (motive:=λ_=>(ip TV->Rs)->Rs) (λk=>k []) (λx _ d k=>S0 x (λx=>d λl=>k (.v x::l)) λg=>d λl=>k (.g g::l)) l k
def toK (e:En) (d:Mem) (l:ip AV):Rs:=List.rec (motive:=λ_=>Rs) (.mk (.val (.t [])) e d) (λx r _=>List.rec (motive:=λ_=>Rs) (.mk (.val x) e d) (λ_ _ _=>tuK (x::r) λl=> .mk (.val (.t l)) e d) r) l
def reK (w:Wrs) (r:Rs):Rs:=Rs.rec (motive:=λ_=>Rs) .no (λx e d=>Ex.rec (motive:=λ_=>Rs) (w.f e d λl=>toK e d l) (λ_=> .no) (λ_=> .no) (w.f e d λl=>toK e d l) (λ_=> .no) x) r
structure Wf where
 f:Cl->List AV->Mem->Rs
def lF:Nat:=1000000
inductive Fe where
 |code (fn:Func) (m:Nat)
 |qe (o:List AV->Mem->Rs)
def fnW (x:Option Fe):Wf:=match x with
 |some (.code fn m)=>match fn.body with
  |some c=>⟨λg vs d=>ji (Nat.ble vs.length fn.ntmps)<|paK m vs λl=>reK (TJ m fn.results.toList) ((mI fn.ntmps m 1000 c).f g lF ⟨l,[],[],[]⟩ d)⟩
  |none=>⟨λ_ _ _=> .no⟩
 |some (.qe o)=>⟨λ_ vs d=>o vs d⟩
 |none=>⟨λ_ _ _=> .no⟩
def UP (l:ip (Nat×Fe)) (f:Nat):Option Fe:=List.rec (motive:=λ_=>Option Fe) none (λx _ d=>match Nat.beq x.1 f with
 |true=>some x.2
 |false=>d) l
def run (g:ip (Nat×Fe)) (n:Nat):Cl:=Nat.rec (motive:=λ_=>Cl) (λ_ _ _=> .no) (λ_ d f vs m=>(fnW (UP g f)).f d vs m) n
def ok (r:Rs):Bool:=Rs.rec (motive:=λ_=>Bool) false (λx _ _=>Ex.rec (motive:=λ_=>Bool) false (λ_=>false) (λ_=>false) false (λv=>match v with
 | .v (.b b)=>b
 |_=>false) x) r
def gV (n:Nat) (k:Nat->Rs):fN n k=k n:=by
 cases n<;>rfl
def nQ {α:Type} (l:ip α) (k:ip α->Rs):fP l k=k l:=by
 induction l generalizing k with
 |nil=>rfl
 |cons x r d=>exact d λr=>k (x::r)
def iT {d:Type} (n:Nat) (k:Nat->d):cN n k=k n:=by
 cases n<;>rfl
def abC {d:Type} (l:ip Nat) (k:ip Nat->d):cU l k=k l:=by
 induction l generalizing k<;>simp_all [cN,cU,iT]
theorem WH {d:Type} (x:SV) (k:SV->d):cV x k=k x:=by
 cases x with
 |n i a=>exact iT a λa=>k (.n i a)
 |m i a=>exact iT a λa=>k (.m i a)
 |s l=>exact abC l λl=>k (.s l)
 |_=>rfl
theorem ru {d:Type} (l:ip SV) (k:ip SV->d):T9 l k=k l:=by
 induction l generalizing k with
 |nil=>rfl
 |cons x r f=>
  show cV x (λx=>T9 r λr=>k (x::r))=_
  grind [WH]
def fS {b:Bool} {x r:Rs} (h:ji b x=r) (d:r≠ .no):b=true/\x=r:=by
 cases b with
 |true=>exact⟨rfl,h⟩
 |false=>exact absurd h.symm d
theorem mc (b:Bool) (x y:Rs):zB b x y=if b=true then x else y:=by
 cases b<;>rfl
def h8 {α:Type}:Nat->Nat->Tr α->Option α
 |0,0,.leaf v=>some v
 |0,_,_=>none
 |_+1,_,.nil=>none
 |_+1,_,.leaf _=>none
 |d+1,k,.node l r=>if Nat.land k 1=0 then h8 d (Nat.shiftRight k 1) l else h8 d (Nat.shiftRight k 1) r
theorem mm {α:Type} {c:α->Rs} {res:Rs} (f:res≠ .no):∀{d k:Nat} {t:Tr α},yf d k t c=res->∃x,h8 d k t=some x/\c x=res
 |0,0,.nil,h=>absurd h.symm f
 |0,0,.leaf v,h=>⟨v,rfl,h⟩
 |0,0,.node _ _,h=>absurd h.symm f
 |0,_+1,_,h=>absurd h.symm f
 |_+1,_,.nil,h=>absurd h.symm f
 |_+1,_,.leaf _,h=>absurd h.symm f
 | d+1,k,.node l r,h=>by
  have g:Nat.rec (motive:=λ_=>Rs) (yf d (Nat.shiftRight k 1) l c) (λ_ _=>yf d (Nat.shiftRight k 1) r c) (Nat.land k 1)=res:=h;unfold h8;cases hk:Nat.land k 1 with
  |zero=>
   rw[hk]at g;rw[if_pos rfl];exact mm f (d:=d) g
  |succ n=>
   rw[hk]at g;rw[if_neg fy];exact mm f (d:=d) g
theorem wP {k d:Nat} (g:d≠k) (e:Nat.land d 1=Nat.land k 1):Nat.shiftRight d 1≠Nat.shiftRight k 1:=by
 intro h;have f:d% 2=k% 2:=by have:=e;simpa[zZ]using this
 have h1:d/2=k/2:=by have:=h;simpa[L7]using this
 omega
def Put {α:Type} (d k:Nat) (x:α) (t t':Tr α):Prop:=h8 d k t'=some x/\∀f,f≠k->h8 d f t'=h8 d f t
theorem sn {α:Type} {x:α} {res:Rs} (f:res≠ .no):∀{d k:Nat} {t:Tr α} {c:Tr α->Rs},zq d k x t c=res->∃t',Put d k x t t'/\(h8 d k t).isSome=true/\c t'=res
 |0,0,.nil,_,h=>absurd h.symm f
 |0,0,.leaf v,_,h=>⟨.leaf x,⟨rfl,λg hk=>by
  cases g with
  |zero=>exact absurd rfl hk
  |succ n=>rfl⟩,rfl,h⟩
 |0,0,.node _ _,_,h=>absurd h.symm f
 |0,_+1,_,_,h=>absurd h.symm f
 |_+1,_,.nil,_,h=>absurd h.symm f
 |_+1,_,.leaf _,_,h=>absurd h.symm f
 | d +1,k,.node l r,c,h=>by
  have m:Nat.rec (motive:=λ_=>Rs) (zq d (Nat.shiftRight k 1) x l λl=>c (.node l r)) (λ_ _=>zq d (Nat.shiftRight k 1) x r λr=>c (.node l r)) (Nat.land k 1)=res:=h
  have y:Nat.land k 1=0\/Nat.land k 1=1:=by
   have:Nat.land k 1=k% 2:=zZ k;omega
  rcases y with hk|hk
  .rw[hk]at m;obtain⟨t',⟨h1,w⟩,h3,u⟩:=sn f (d:=d) m;refine⟨.node t' r,⟨by grind [h8],λg B=>?_⟩,by grind [h8],u⟩
   grind [h8,wP]
  .rw[hk]at m;obtain⟨t',⟨h1,w⟩,h3,u⟩:=sn f (d:=d) m;refine⟨.node l t',⟨by grind [h8],λg B=>?_⟩,by grind [h8],u⟩;simp only[h8];split
   .rfl
   .rename_i e
    have e':Nat.land g 1=1:=by
     have:Nat.land g 1=g% 2:=zZ g;omega
    grind [wP]
theorem nG {α:Type} {x:α} {res:Rs} (u:res≠ .no):∀{d k:Nat} {t:Tr α} {c:Tr α->Rs},x7 d k x t c=res->∃t',Put d k x t t'/\c t'=res
 |0,0,t,c,h=>⟨.leaf x,⟨rfl,λf hk=>by
  cases f with
  |zero=>exact absurd rfl hk
  |succ n=>cases t<;>rfl⟩,h⟩
 |0,_+1,_,_,h=>absurd h.symm u
 |_+1,_,.leaf _,_,h=>absurd h.symm u
 | d +1,k,.nil,c,h=>by
  have g:Nat.rec (motive:=λ_=>Rs) (x7 d (Nat.shiftRight k 1) x .nil λl=>c (.node l .nil)) (λ_ _=>x7 d (Nat.shiftRight k 1) x .nil λr=>c (.node .nil r)) (Nat.land k 1)=res:=h
  have w:Nat.land k 1=0\/Nat.land k 1=1:=by
   have:Nat.land k 1=k% 2:=zZ k;omega
  have B:∀d f,h8 d f (Tr.nil:Tr α)=none:=λd f=>by
   cases d<;>cases f<;>rfl
  rcases w with hk|hk
  .rw[hk]at g;obtain⟨t',⟨h1,v⟩,m⟩:=nG u (d:=d) g;refine⟨.node t' .nil,⟨by grind [h8],λf y=>?_⟩,m⟩
   grind [h8,wP]
  .rw[hk]at g;obtain⟨t',⟨h1,v⟩,m⟩:=nG u (d:=d) g;refine⟨.node .nil t',⟨by grind [h8],λf y=>?_⟩,m⟩;simp only[h8];split
   .rw[B]
   .rename_i e
    have e':Nat.land f 1=1:=by
     have:Nat.land f 1=f% 2:=zZ f;omega
    grind [wP]
 | d +1,k,.node l r,c,h=>by
  have g:Nat.rec (motive:=λ_=>Rs) (x7 d (Nat.shiftRight k 1) x l λl=>c (.node l r)) (λ_ _=>x7 d (Nat.shiftRight k 1) x r λr=>c (.node l r)) (Nat.land k 1)=res:=h
  have w:Nat.land k 1=0\/Nat.land k 1=1:=by
   have:Nat.land k 1=k% 2:=zZ k;omega
  rcases w with hk|hk
  .rw[hk]at g;obtain⟨t',⟨h1,v⟩,m⟩:=nG u (d:=d) g;refine⟨.node t' r,⟨by grind [h8],λf y=>?_⟩,m⟩
   grind [h8,wP]
  .rw[hk]at g;obtain⟨t',⟨h1,v⟩,m⟩:=nG u (d:=d) g;refine⟨.node l t',⟨by grind [h8],λf y=>?_⟩,m⟩;simp only[h8];split
   .rfl
   .rename_i e
    have e':Nat.land f 1=1:=by
     have:Nat.land f 1=f% 2:=zZ f;omega
    grind [wP]
section
variable {res:Rs} (hr:res≠ .no)
include hr
theorem yK {d:Nat} {m:Tr SV}:∀{n o:Nat} {c:ip SV->Rs},Zt d m o n c=res->∃l,l.length=n/\(∀i,i<n->h8 d (o+i) m=l[i]?)/\c l=res
 |0,_,_,h=>⟨[],rfl,fM,h⟩
 |n+1,o,c,h=>by
  have f:yf d o m (λx=>fN (Nat.add o 1) λo=>Zt d m o n λl=>c (x::l))=res:=h;obtain⟨x,u,f⟩:=mm hr f;rw[gV]at f;obtain⟨l,t,g,f⟩:=yK f
  grind
def Az (d o:Nat) (l:ip SV) (m m':Tr SV):Prop:=∀k,h8 d k m'=if o<=k/\k<o+l.length then l[k-o]? else h8 d k m
omit hr in
theorem Az.cons {d o:Nat} {x:SV} {l:ip SV} {m m' f:Tr SV} (h1:Put d o x m m') (g:Az d (o+1) l m' f):Az d o (x::l) m f:=λk=>by
 rw[g k]
 by_cases hk:k=o
 .subst hk;rw[if_neg fy,if_pos iB,h1.1];simp
 .rw[h1.2 k hk]
  grind
theorem Lb {d:Nat}:∀{l:ip SV} {o:Nat} {m:Tr SV} {c:Tr SV->Rs},wrT d o l m c=res->∃m',Az d o l m m'/\(∀i,i<l.length->(h8 d (o+i) m).isSome=true)/\c m'=res
 |[],o,m,c,h=>⟨m,λk=>by grind,fM,h⟩
 | x::l,o,m,c,h=>by
  have f:zq d o x m (λm=>fN (Nat.add o 1) λo=>wrT d o l m c)=res:=h;obtain⟨m',h1,g,f⟩:=sn hr f;rw[gV]at f;obtain⟨t,h3,n,f⟩:=Lb f;refine⟨t,Az.cons h1 h3,λi hi=>?_,f⟩;cases i with
  |zero=>exact g
  | succ i=>
   have:=n i (by simpa using hi)
   have e:Nat.add o 1+i=o+(i+1):=by
    show o+1+i=o+(i+1)
    omega
   rw[e,h1.2 _ fy]at this;exact this
theorem sO {d:Nat}:∀{l:ip SV} {o:Nat} {m:Tr SV} {c:Tr SV->Rs},Cx d o l m c=res->∃m',Az d o l m m'/\c m'=res
 |[],o,m,c,h=>⟨m,λk=>by grind,h⟩
 |x::l,o,m,c,h=>by
  have f:x7 d o x m (λm=>fN (Nat.add o 1) λo=>Cx d o l m c)=res:=h;obtain⟨m',h1,f⟩:=nG hr f;rw[gV]at f;obtain⟨g,h3,f⟩:=sO f
  grind [Az.cons]
end
def jF (d:Mem) (id:Nat):Option Ob:=h8 dI id d.h
def ig (g:Mem) (id o:Nat):Option SV:=match jF g id with
 |some f=>h8 f.d o f.m
 |none=>none
theorem kG {α:Type} (d k:Nat):h8 d k (Tr.nil:Tr α)=none:=by
 cases d<;>cases k<;>rfl
section
variable {res:Rs} (hr:res≠ .no)
include hr
theorem pa {f:Mem} {id:Nat} {c:Ob->Rs} (h:NM f id c=res):∃d,jF f id=some d/\c d=res:=mm hr h
theorem mn {d:Mem} {id n:Nat} {c:ip SV->Rs} (h:Jk d id o n c=res):∃f l,jF d id=some f/\l.length=n/\(∀i,i<n->ig d id (o+i)=l[i]?)/\c l=res:=by
 obtain⟨f,h1,h⟩:=pa hr h;obtain⟨l,g,h3,h⟩:=yK hr h
 grind [ig]
theorem Uu {g:Mem} {id:Nat} {l:ip SV} {c:Mem->Rs} (h:SN g id o l c=res):∃f m' t,jF g id=some f/\Az f.d o l f.m m'/\(∀i,i<l.length->(h8 f.d (o+i) f.m).isSome=true)/\(t.n=g.n/\t.mp=g.mp)/\jF t id=some ⟨f.e,f.d,f.n,m'⟩/\(∀k,k≠id->jF t k=jF g k)/\c t=res:=by
 obtain⟨f,h1,h⟩:=pa hr h;obtain⟨m',v,h3,h⟩:=Lb hr h;obtain⟨t',u,_,h⟩:=sn hr h;exact⟨f,m',⟨g.n,t',g.mp⟩,h1,v,h3,⟨rfl,rfl⟩,u.1,u.2,h⟩
theorem zX {d:Mem} {m:Ob} {c:Nat->Mem->Rs} (h:U5 d m c=res):∃f,(f.n=d.n+1/\f.mp=d.mp)/\jF f d.n=some m/\(∀k,k≠d.n->jF f k=jF d k)/\c d.n f=res:=by
 obtain⟨_,h⟩:=fS h hr;obtain⟨t',g,h⟩:=nG hr h;rw[gV]at h;exact⟨⟨d.n+1,t',d.mp⟩,⟨rfl,rfl⟩,g.1,g.2,h⟩
theorem pB {f:Mem} {l:ip SV} {c:Nat->Mem->Rs} (h:rb f e l c=res):∃t g,(g.n=f.n+1/\g.mp=f.mp)/\t.e=e/\t.n=l.length/\(∀o,h8 t.d o t.m=l[o]?)/\jF g f.n=some t/\(∀k,k≠f.n->jF g k=jF f k)/\c f.n g=res:=by
 unfold rb at h;rw[gV,gV]at h;obtain⟨m,h1,h⟩:=sO hr h;obtain⟨g,u,h3,v,h⟩:=zX hr h;refine⟨_,g,u,rfl,rfl,λo=>?_,h3,v,h⟩;show h8 _ o m=_
 rw[h1 o,kG]
 grind
theorem Dn {d:Mem} {id:Nat} {c:Mem->Rs} (h:SB d id c=res):∃f,(f.n=d.n/\f.mp=d.mp)/\jF f id=some ⟨0,0,0,.nil⟩/\(∀k,k≠id->jF f k=jF d k)/\c f=res:=by
 obtain⟨t',h1,_,h⟩:=sn hr h;exact⟨⟨d.n,t',d.mp⟩,⟨rfl,rfl⟩,h1.1,h1.2,h⟩
end
def lC (t:Nat):mP->Option AV
 |[]=>none
 |x::r=>if x.1=t then some x.2 else lC t r
theorem ko (a b:Nat):(a=b/\Nat.beq a b=true)\/(a≠b/\Nat.beq a b=false):=by
 grind [Nat.beq,absurd,Nat.eq_of_beq_eq_true,Nat.beq_refl]
theorem wF {res:Rs} (g:res≠ .no) {t:Nat} {k:AV->Rs}:∀{l:mP},K6 t l k=res->∃a,lC t l=some a/\k a=res
 |[],h=>absurd h.symm g
 | x::r,h=>by
  have d:Bool.rec (motive:=λ_=>Rs) (K6 t r k) (k x.2) (Nat.beq x.1 t)=res:=h;rcases ko x.1 t with⟨e,f⟩|⟨e,f⟩
  .simp_all [lC]
  .rw[f]at d;obtain⟨a,h1,m⟩:=wF g (l:=r) d
   grind [lC]
theorem FL {t:Nat} {v:AV}:∀{l:mP} {c:mP->Rs},∃l',JM t v l c=c l'/\∀s,lC s l'=if s=t then some v else lC s l
 |[],c=>⟨[(t,v)],rfl,by grind [lC]⟩
 | x::r,c=>by
  have f:JM t v (x::r) c=Bool.rec (motive:=λ_=>Rs) (JM t v r λr=>c (x::r)) (c ((t,v)::r)) (Nat.beq x.1 t):=rfl;rcases ko x.1 t with⟨e,d⟩|⟨e,d⟩
  .rw[d]at f
   grind [lC]
  .rw[d]at f;obtain⟨l',h1,g⟩:=FL (t:=t) (v:=v) (l:=r) (c:=λr=>c (x::r))
   grind [lC]
structure At where
 b:Nat
 c:Nat
 z:Nat
abbrev Pl:=ip At
def jI (l:ip Nat):fL:=l.map UInt8.ofNat
def oP (ρ:Pl) (q:Nat):UInt8:=if q<256 then UInt8.ofNat q else match ρ[q-256]? with
 |some p=>UInt8.ofNat p.b
 |none=>0
def SR (ρ:Pl):SV->i6->Prop
 | .n k a,v=>v= .int k (Int.ofNat a)/\a<=jx k
 | .m k a,v=>v= .int k (Int.negSucc a)/\a<=jx k/\k.signed=true
 | .b x,v=>v= .bool x
 | .s l,v=>v= .U (jI l)/\(∀c∈l,c<256)/\l.length<=maxLen
 | .p0,v=>v= .pointer none
 | .p id o,v=>∃p,ρ[id]? =some p/\v= .pointer (some ⟨p.b,o,none⟩)
 | .l0,v=>v= .slice none 0 0
 | .l id z j n,v=>∃p,ρ[id]? =some p/\p.z=z/\j+n<=p.c/\p.c<=maxLen/\v= .S p.b (j*z) n (p.c-j)
 | .lx id z j n c,v=>∃p,ρ[id]? =some p/\n<=c/\c<=maxLen/\v= .S p.b (j*z) n c
 | .le id z j a,v=>∃p,ρ[id]? =some p/\p.c<=maxLen/\v= .slice (if p.c-j=a then some ⟨p.b,j*z,none⟩else some ⟨p.b,j*z+a*z,none⟩) 0 (p.c-j-a)
 | .u,v=>v=undef
 | .fl n,v=>v= .float .f64 (fw n)/\n<=1099511627776
 | .mp id,v=>∃p,ρ[id]? =some p/\v= .map (some p.b)
 | .i0,v=>v= .nilIface
 | .x k id,v=>∃p,ρ[id]? =some p/\v= .int k (Int.ofNat p.b)/\p.b<=jx k/\k.signed=false
 | .sl l,v=>v= .U (l.map (oP ρ))/\(∀q∈l,q<256\/∃p,ρ[q-256]? =some p/\p.b<256)/\l.length<=maxLen
 | .cx a b,v=>v= .complex .f64 (fw a) (fw b)/\a<=1099511627776/\b<=1099511627776
def SR.Ei {ρ:Pl} {id z j a:Nat} (h:SR ρ (.le id z j a) v):∃A c,v= .slice A 0 c/\c<=maxLen:=by
 obtain⟨p,_,h1,d⟩:=h
 grind
def SR.one {ρ:Pl} {x:SV} {u:i6} (h:SR ρ x u) (d:SR ρ x v):u=v:=by
 cases x with
 |n k a=>exact h.1.trans d.1.symm
 |m k a=>exact h.1.trans d.1.symm
 |b q=>exact h.trans d.symm
 |s l=>exact h.1.trans d.1.symm
 |p0=>exact h.trans d.symm
 |p id o=>
  obtain⟨p,h1,rfl⟩:=h;obtain⟨q,f,rfl⟩:=d
  grind
 |l0=>exact h.trans d.symm
 |l id z j n=>
  obtain⟨p,h1,_,_,_,rfl⟩:=h;obtain⟨q,f,_,_,_,rfl⟩:=d
  grind
 |lx id z j n c=>
  obtain⟨p,h1,_,_,rfl⟩:=h;obtain⟨q,f,_,_,rfl⟩:=d
  grind
 |le id z j a=>
  obtain⟨p,h1,_,rfl⟩:=h;obtain⟨q,f,_,rfl⟩:=d
  grind
 |u=>exact h.trans d.symm
 |fl n=>exact h.1.trans d.1.symm
 |cx a b=>exact h.1.trans d.1.symm
 |mp id=>
  obtain⟨p,h1,rfl⟩:=h;obtain⟨q,f,rfl⟩:=d
  grind
 |i0=>exact h.trans d.symm
 |x k id=>
  obtain⟨p,h1,rfl,_⟩:=h;obtain⟨q,f,rfl,_⟩:=d
  grind
 |sl l=>exact h.1.trans d.1.symm
def Up (ρ d:Pl):Prop:=∀(id:Nat) p,ρ[id]? =some p->d[id]? =some p
theorem Up.refl (ρ:Pl):Up ρ ρ:=λ_ _ h=>h
def Up.trans {a b c:Pl} (h:Up a b) (k:Up b c):Up a c:=λid p e=>k id p (h id p e)
theorem Up.snoc (ρ:Pl) (p:At):Up ρ (ρ++[p]):=λid q h=>by
 grind
theorem Tv {ρ d:Pl} (hu:Up ρ d) {q:Nat} (h:q<256\/∃p,ρ[q-256]? =some p/\p.b<256):oP d q=oP ρ q:=by
 unfold oP
 by_cases hq:q<256
 .simp[hq]
 .obtain⟨p,h1,_⟩:=h.resolve_left hq;simp[hq,h1,hu _ _ h1]
def SR.up {ρ f:Pl} (hu:Up ρ f) {x:SV} (h:SR ρ x v):SR f x v:=by
 cases x with
 |p id o=>obtain⟨p,h1,d⟩:=h;exact⟨p,hu _ _ h1,d⟩
 |l id z j n=>obtain⟨p,h1,d⟩:=h;exact⟨p,hu _ _ h1,d⟩
 |lx id z j n c=>obtain⟨p,h1,d⟩:=h;exact⟨p,hu _ _ h1,d⟩
 |le id z j a=>obtain⟨p,h1,d⟩:=h;exact⟨p,hu _ _ h1,d⟩
 |mp id=>obtain⟨p,h1,d⟩:=h;exact⟨p,hu _ _ h1,d⟩
 |x k id=>obtain⟨p,h1,d⟩:=h;exact⟨p,hu _ _ h1,d⟩
 |sl l=>
  obtain⟨h1,d,h3⟩:=h;refine⟨?_,λq hq=>(d q hq).imp_right λ⟨p,k1,k2⟩=>⟨p,hu _ _ k1,k2⟩,h3⟩
  grind [List.map_congr_left,Tv]
 |_=>exact h
def CR (ρ:Pl) (x:SV) (v:i6):Prop:=nu x=true/\SR ρ x v
def CR.up {ρ d:Pl} (hu:Up ρ d) {x:SV} {v:i6} (h:CR ρ x v):CR d x v:=⟨h.1,h.2.up hu⟩
theorem CR.cell {ρ:Pl} {x:SV} (h:CR ρ x v):v.oneCell'=true:=by
 obtain⟨h0,h⟩:=h;cases x with
 |n k a=>rw[h.1];rfl
 |m k a=>rw[h.1];rfl
 |b q=>rw[show v=_ from h];rfl
 |s l=>rw[h.1];rfl
 |p0=>rw[show v=_ from h];rfl
 |p id o=>obtain⟨p,_,rfl⟩:=h;rfl
 |l0=>rw[show v=_ from h];rfl
 |l id z j n=>obtain⟨p,_,_,_,_,rfl⟩:=h;rfl
 |lx id z j n c=>obtain⟨p,_,_,_,rfl⟩:=h;rfl
 |le id z j a=>obtain⟨p,_,_,rfl⟩:=h;rfl
 |u=>cases h0
 |fl n=>rw[h.1];rfl
 |cx a b=>rw[h.1];rfl
 |mp id=>obtain⟨p,_,rfl⟩:=h;rfl
 |i0=>rw[show v=_ from h];rfl
 |x k id=>obtain⟨p,_,rfl,_⟩:=h;rfl
 |sl l=>rw[h.1];rfl
def SR.cells {ρ:Pl} {x:SV} {v:i6} (h:SR ρ x v):v.cells= #[v]:=by
 cases x with
 |n k a=>rw[h.1];rfl
 |m k a=>rw[h.1];rfl
 |b q=>rw[show v=_ from h];rfl
 |s l=>rw[h.1];rfl
 |p0=>rw[show v=_ from h];rfl
 |p id o=>obtain⟨p,_,rfl⟩:=h;rfl
 |l0=>rw[show v=_ from h];rfl
 |l id z j n=>obtain⟨p,_,_,_,_,rfl⟩:=h;rfl
 |lx id z j n c=>obtain⟨p,_,_,_,rfl⟩:=h;rfl
 |le id z j a=>obtain⟨p,_,_,rfl⟩:=h;rfl
 |u=>rw[show v=_ from h];rfl
 |fl n=>rw[h.1];rfl
 |cx a b=>rw[h.1];rfl
 |mp id=>obtain⟨p,_,rfl⟩:=h;rfl
 |i0=>rw[show v=_ from h];rfl
 |x k id=>obtain⟨p,_,rfl,_⟩:=h;rfl
 |sl l=>rw[h.1];rfl
inductive j1 (ρ:Pl):List SV->List Value->Prop where
 |nil:j1 ρ [] []
 |cons {x v l vs}:CR ρ x v->j1 ρ l vs->j1 ρ (x::l) (v::vs)
def j1.cells {ρ:Pl} {l:ip SV} (h:j1 ρ l vs):∀u∈vs,u.oneCell'=true:=by
 induction h<;>grind [nil,cons,CR.cell]
def j1.up {ρ d:Pl} (hu:Up ρ d) {l:ip SV} {vs:ip i6} (h:j1 ρ l vs):j1 d l vs:=by
 induction h with
 |nil=>exact .nil
 |cons h1 _ f=>exact .cons (h1.up hu) f
theorem j1.len {ρ:Pl} {l:ip SV} (h:j1 ρ l vs):vs.length=l.length:=by
 induction h<;>grind
def j1.get {ρ:Pl} {l:ip SV} (h:j1 ρ l vs):∀(i:Nat) x,l[i]? =some x->∃v,vs[i]? =some v/\CR ρ x v:=by
 induction h<;>grind
def j1.app {ρ:Pl} {l l':ip SV} {d:ip i6} (h:j1 ρ l vs) (f:j1 ρ l' d):j1 ρ (l++l') (vs++d):=by
 induction h<;>grind [nil,cons]
def j1.take {ρ:Pl} {l:ip SV} {vs:ip i6} (h:j1 ρ l vs) (n:Nat):j1 ρ (l.take n) (vs.take n):=by
 induction h generalizing n with
 |nil=>simp;exact .nil
 |cons h1 _ d=>
  cases n with
  |zero=>exact .nil
  |succ n=>exact .cons h1 (d n)
def j1.drop {ρ:Pl} {l:ip SV} {vs:ip i6} (h:j1 ρ l vs) (n:Nat):j1 ρ (l.drop n) (vs.drop n):=by
 induction h generalizing n with
 |nil=>simp;exact .nil
 |cons h1 d f=>
  cases n with
  |zero=>exact .cons h1 d
  |succ n=>exact f n
theorem j1.of {ρ:Pl}:∀{l:ip SV} {vs:ip i6},vs.length=l.length->(∀(i:Nat) x,l[i]? =some x->∃v,vs[i]? =some v/\CR ρ x v)->j1 ρ l vs
 |[],[],_,_=> .nil
 |[],_::_,h,_=>by cases h
 |_::_,[],h,_=>by cases h
 |x::l,v::vs,d,h=>by
  obtain⟨g,e,h1⟩:=h 0 x rfl;injection e with e;subst e
  exact .cons h1 (j1.of (by simpa using d) λi y f=>h (i+1) y f)
def TR (ρ:Pl):TV->i6->Prop
 | .v x,v=>SR ρ x v
 | .g l,v=>∃vs,j1 ρ l vs/\v= .agg vs.toArray
inductive Tq (ρ:Pl):List TV->List Value->Prop where
 |nil:Tq ρ [] []
 |cons {x v l vs}:TR ρ x v->Tq ρ l vs->Tq ρ (x::l) (v::vs)
def AR (ρ:Pl):AV->i6->Prop
 | .v x,v=>SR ρ x v
 | .g l,v=>∃vs,j1 ρ l vs/\v= .agg vs.toArray
 | .t l,v=>∃vs,Tq ρ l vs/\v= .tuple vs.toArray
 | .f fn l,v=>∃vs,j1 ρ l vs/\v= .func (.func fn) #[] vs.toArray
def TR.up {ρ d:Pl} (hu:Up ρ d) {x:TV} {v:i6} (h:TR ρ x v):TR d x v:=by
 cases x with
 |v x=>exact SR.up hu h
 |g l=>obtain⟨vs,h1,f⟩:=h;exact⟨vs,h1.up hu,f⟩
def Tq.up {ρ d:Pl} (hu:Up ρ d) {l:ip TV} {vs:ip i6} (h:Tq ρ l vs):Tq d l vs:=by
 induction h with
 |nil=>exact .nil
 |cons h1 _ f=>exact .cons (h1.up hu) f
def AR.up {ρ m:Pl} (hu:Up ρ m) {x:AV} {v:i6} (h:AR ρ x v):AR m x v:=by
 cases x with
 |v x=>exact SR.up hu h
 |g l=>obtain⟨vs,h1,d⟩:=h;exact⟨vs,h1.up hu,d⟩
 |t l=>obtain⟨vs,h1,d⟩:=h;exact⟨vs,h1.up hu,d⟩
 |f fn l=>obtain⟨vs,h1,d⟩:=h;exact⟨vs,h1.up hu,d⟩
inductive Bz (ρ:Pl):List AV->List Value->Prop where
 |nil:Bz ρ [] []
 |cons {x v l vs}:AR ρ x v->Bz ρ l vs->Bz ρ (x::l) (v::vs)
def Bk (w:i5) (g:Nat) (t:i9) (cs:Array i6):Prop:=∃f:Nat×Nat,w.heap[g]? =some (.cells cs t f)/\(cs.size<=f.1\/f=(0,0))
def fW.bk {t:i9} (h:fW w g t cs):Bk w g t cs:=⟨(0,0),h,.inr rfl⟩
section
variable {w w':i5} {g:Nat} {t:i9} {cs:Array i6}
theorem Bk.lt (h:Bk w g t cs):g<w.heap.size:=by
 obtain⟨f,h,_⟩:=h
 grind
theorem Bk.cell (h:Bk w g t cs) (i:Nat):w.cell? ⟨g,i,none⟩=cs[i]? :=by
 obtain⟨f,h,_⟩:=h;simp[World.cell?,h]
def Bk.frozen (h:Bk w g t cs) {i:Nat} (hi:i<cs.size):w.frozen? ⟨g,i,none⟩=false:=by
 obtain⟨f,h,d⟩:=h
 grind [World.frozen?]
def Bk.one {t':i9} {d:Array i6} (h:Bk w g t cs) (m:Bk w g t' d):cs=d:=by
 obtain⟨f,h,_⟩:=h;obtain⟨f',m,_⟩:=m
 grind
def Bk.fr {S:Nat->Prop} (h:Bk w g t cs) (n:Fr S w w') (m:¬S g):Bk w' g t cs:=by
 have u:=h.lt;obtain⟨f,h,d⟩:=h;exact⟨f,(n.block g u m).trans h,d⟩
def Bk.ext (h:Bk w g t cs) (d:Ext w w'):Bk w' g t cs:=h.fr d λf=>f
end
def BO (S:Nat->Prop) (w:i5):Prop:=∀g,prog.globalNamed "internal/strconv.uint64pow10" =some g->g<w.heap.size/\¬S g/\Lib.TabIs prog w "internal/strconv.uint64pow10" .u64 Lib.pow10Tab
def BO.of {S d:Nat->Prop} (h:BO S w) (f:Fr S w w') (hs:∀b,d b->w.heap.size<=b\/S b):BO d w':=λg m=>by
 obtain⟨h1,n,h3⟩:=h g m;refine⟨BX h1 f.size,fM,?_⟩;unfold Lib.TabIs at h3|-;rw[<-h3];unfold World.var?;rw[m];simp only[Cy,f.block g h1 n]
def BO.init (h:Lib.TabIs prog w "internal/strconv.uint64pow10" .u64 Lib.pow10Tab):BO hJ w:=λg f=>by
 refine⟨?_,λd=>d,h⟩
 grind [Nat.lt_or_ge,Array.size,Lib.TabIs,World.var?,Array.getElem?_eq_none]
structure Fm where
 S:Nat->Prop
 w:World
 ok:BO S w
def Fm.may (F:Fm) (b:Nat):Prop:=F.w.heap.size<=b\/F.S b
theorem sk {α:Type} {k i:Nat} {x:α} {l:ip (Nat×α)}:Io k ((i,x)::l)=if i=k then some x else Io k l:=by
 show Bool.rec (motive:=λ_=>Option α) (Io k l) (some x) (Nat.beq i k)=_
 rcases ko i k with⟨h1,d⟩|⟨h1,d⟩<;>simp_all
def ints (l:ip (Nat×Nat)):ip (Int×Int):=l.map λq=>((q.1:Int),(q.2:Int))
def TE (w0:Fm) (ρ:Pl) (mp:ip (Nat×ip (Nat×Nat))) (w:i5):Prop:=(∀id l,Io id mp=some l->∃p,ρ[id]? =some p/\vO w p.b (ints l)/\w0.may p.b)/\∀id d l l' p f,id≠d->Io id mp=some l->Io d mp=some l'->ρ[id]? =some p->ρ[d]? =some f->p.b≠f.b
theorem TE.nil (w0:Fm) (ρ:Pl) (w:i5):TE w0 ρ [] w:=⟨λid l h=>(by cases h),λid d l l' p f _ h=>(by cases h)⟩
theorem TE.to {w0 w0':Fm} {ρ g:Pl} {mp:ip (Nat×ip (Nat×Nat))} (h:TE w0 ρ mp w) (hu:Up ρ g) (hm:∀b l,vO w b l->vO w' b l) (hw:∀b l,vO w b l->w0.may b->w0'.may b):TE w0' g mp w':=by
 have old:∀id l p,Io id mp=some l->g[id]? =some p->ρ[id]? =some p:=λid l p h1 d=>by
  obtain⟨q,h3,_⟩:=h.1 id l h1;have:=hu _ _ h3
  grind
 refine⟨λid l h1=>?_,λid n l l' p t m h1 d h3 f=>h.2 id n l l' p t m h1 d (old _ _ _ h1 h3) (old _ _ _ d f)⟩;obtain⟨p,d,h3,f⟩:=h.1 id l h1;exact⟨p,hu _ _ d,hm _ _ h3,hw _ _ h3 f⟩
def Bk.Kc {t:i9} {l:ip (Int×Int)} (h:Bk w g t cs) (d:vO w g l):False:=by
 obtain⟨f,h1,_⟩:=h;obtain⟨es,clock,m,_⟩:=d
 grind
structure MR (w0:Fm) (ρ:Pl) (σ:Mem) (w:World):Prop where
 len:ρ.length=σ.n
 gO:∀id ob,jF σ id=some ob->(∃o,(h8 ob.d o ob.m).isSome=true)->∃p cs,ρ[id]? =some p/\Bk w p.b ob.e cs/\p.c*p.z=cs.size/\(∀o x,h8 ob.d o ob.m=some x->∃v,cs[o]? =some v/\CR ρ x v)
 old:Fr w0.S w0.w w
 xF:∀id o p,(ig σ id o).isSome=true->ρ[id]? =some p->w0.may p.b
 pre:∀id ob,jF σ id=some ob->∀o,ob.n<=o->h8 ob.d o ob.m=none
 apart:∀id id' o o' p p',id≠id'->(ig σ id o).isSome=true->(ig σ id' o').isSome=true->ρ[id]? =some p->ρ[id']? =some p'->p.b≠p'.b
 AH:TE w0 ρ σ.mp w
def CO (m:Nat) (e:En) (t:Nat):Option AV:=match kept m t with
 |true=>lC t e.vs
 |false=>lC t e.ts
def ER (m:Nat) (ρ:Pl) (e:En) (Y:Env):Prop:=∀t a,CO m e t=some a->∃v,look Y t=some v/\AR ρ a v
def ER.up {m:Nat} {ρ d:Pl} {e:En} {Y:Env} (hu:Up ρ d) (h:ER m ρ e Y):ER m d e Y:=λt a g=>by
 obtain⟨v,h1,f⟩:=h t a g;exact⟨v,h1,f.up hu⟩
theorem kd {g:Mem} {id:Nat} {x:SV}:ig g id o=some x↔∃f,jF g id=some f/\h8 f.d o f.m=some x:=by
 grind [ig]
def MR.at_ {ρ:Pl} {f:Mem} {w0:Fm} (h:MR w0 ρ f w) {id:Nat} {x:SV} (g:ig f id o=some x):∃p d cs v,ρ[id]? =some p/\jF f id=some d/\Bk w p.b d.e cs/\p.c*p.z=cs.size/\cs[o]? =some v/\CR ρ x v:=by
 obtain⟨d,h1,m⟩:=kd.1 g;obtain⟨p,cs,h3,n,u,t⟩:=h.gO id d h1 fM
 grind
theorem MR.cell {ρ:Pl} {f:Mem} {w0:Fm} {w:i5} (h:MR w0 ρ f w) {id o:Nat} {x:SV} (n:ig f id o=some x) {p:At} (m:ρ[id]? =some p):∃v,w.cell? ⟨p.b,o,none⟩=some v/\CR ρ x v/\w.frozen? ⟨p.b,o,none⟩=false:=by
 obtain⟨q,t,cs,v,h1,_,d,_,h3,g⟩:=h.at_ n;rw[m]at h1;injection h1 with h1;subst h1
 exact⟨v,by rw[d.cell,h3],g,d.frozen fM⟩
def MR.ext {ρ:Pl} {σ:Mem} {w0:Fm} {w w':i5} (h:MR w0 ρ σ w) (hE:Ext w w'):MR w0 ρ σ w' where
 len:=h.len
 gO:=λid ob h1 h2=>by
  obtain⟨p,cs,h3,h4,h5⟩:=h.gO id ob h1 h2;exact⟨p,cs,h3,h4.ext hE,h5⟩
 old:=h.old.te hE
 xF:=h.xF
 pre:=h.pre
 apart:=h.apart
 AH:=h.AH.to (Up.refl ρ) (λ_ _ hb=>hb.ext hE) λ_ _ _ hb=>hb
def MR.as {w0:Fm} {ρ:Pl} {σ:Mem} {b:Nat} (h:MR w0 ρ σ w) (hF:Fr (λk=>k=b) w w') (h0:w0.may b) (hb:∀g t cs,Bk w g t cs->Bk w' g t cs) (hm:∀g l,vO w g l->vO w' g l):MR w0 ρ σ w' where
 len:=h.len
 gO:=λid ob h1 h2=>by
  obtain⟨p,cs,h3,h4,h5⟩:=h.gO id ob h1 h2
  grind
 old:=h.old.trans hF λj hj hh=>by
  have hh:j=b:=hh;subst hh;exact h0.resolve_left fy
 xF:=h.xF
 pre:=h.pre
 apart:=h.apart
 AH:=h.AH.to (Up.refl ρ) hm λ_ _ _ hb=>hb
def MR.below {ρ:Pl} {d:Mem} {w0:Fm} (h:MR w0 ρ d w) (id o:Nat) (p:At) (hs:(ig d id o).isSome=true) (g:ρ[id]? =some p):p.b<w.heap.size:=by
 obtain⟨x,m⟩:=rB.1 hs;obtain⟨q,_,_,_,h1,_,f,_⟩:=h.at_ m;rw[g]at h1;injection h1 with h1;subst h1
 exact f.lt
def MR.more {ρ:Pl} {f u:Mem} {w0:Fm} {S:Nat->Prop} {t:Ob} (h:MR w0 ρ f w) (c z:Nat) (aa:c*z=cs.size) (M:u.n=f.n+1/\u.mp=f.mp) (he:t.e=e) (ak:∀o,t.n<=o->h8 t.d o t.m=none) (ht:∀o x,h8 t.d o t.m=some x->∃v,cs[o]? =some v/\CR ρ x v) (ae:jF u f.n=some t) (hk:∀k,k≠f.n->jF u k=jF f k)
  (X:Bk w' g e cs) (I:Fr S w w') (ab:∀id o p,(ig f id o).isSome=true->ρ[id]? =some p->p.b≠g/\¬S p.b) (Y:∀b,S b->w0.may b) (ah:w0.may g) (Z:∀b l,vO w b l->¬S b:=by intro b l _ J;exact J):MR w0 (ρ++[⟨g,c,z⟩]) u w':=by
 have hu:=Up.snoc ρ ⟨g,c,z⟩;have ad:(ρ++[(⟨g,c,z⟩:At)])[f.n]? =some ⟨g,c,z⟩:=by rw[<-h.len];simp
 have hold:∀id o p,id≠f.n->(ig u id o).isSome=true->(ρ++[(⟨g,c,z⟩:At)])[id]? =some p->(ig f id o).isSome=true/\ρ[id]? =some p/\p.b≠g:=λid o p K hs E=>by
  have R:ig u id o=ig f id o:=by unfold ig;rw[hk id K]
  rw[R]at hs;obtain⟨x,B⟩:=rB.1 hs;obtain⟨q,F,cs,v,h1,_⟩:=h.at_ B
  grind
 refine⟨by simp[h.len,M.1],λid F h1 C=>?_,h.old.trans I λj ai J=>(Y j J).resolve_left fy,λid o p hs E=>?_,λid F h1=>?_,λid L o o' p N K hs ag E af=>?_,by rw[M.2];exact h.AH.to hu (λb l D=>D.fr I (Z b l D)) λ_ _ _ D=>D⟩
 .by_cases y:id=f.n
  .subst y;rw[ae]at h1;injection h1 with h1;subst h1
   refine⟨_,_,ad,by rw[he];exact X,aa,λo x B=>?_⟩;obtain⟨v,h3,H⟩:=ht o x B;exact⟨v,h3,H.up hu⟩
  .rw[hk id y]at h1;obtain⟨p,cs,h3,H,U,T⟩:=h.gO id F h1 C;obtain⟨o,aj⟩:=C;refine⟨p,cs,hu _ _ h3,H.fr I (ab id o p (by grind [ig]) h3).2,U,λo x B=>?_⟩;obtain⟨v,V,W⟩:=T o x B;exact⟨v,V,W.up hu⟩
 .by_cases y:id=f.n
  .grind
  .obtain⟨G,a2,_⟩:=hold id o p y hs E;exact h.xF id o p G a2
 .by_cases y:id=f.n
  .grind
  .rw[hk id y]at h1;exact h.pre id F h1
 .by_cases h1:id=f.n
  .grind
  .by_cases C:L=f.n
   .grind
   .obtain⟨G,a2,_⟩:=hold id o p h1 hs E;obtain⟨O,Q,_⟩:=hold L o' N C ag af;exact h.apart id L o o' p N K G O a2 Q
theorem MR.new {ρ:Pl} {f t:Mem} {w0:Fm} {l:ip SV} {g:Ob} (h:MR w0 ρ f w) (c z:Nat) (D:c*z=cs.size) (F:t.n=f.n+1/\t.mp=f.mp) (he:g.e=e) (hq:g.n=l.length) (ht:∀o,h8 g.d o g.m=l[o]?) (G:jF t f.n=some g) (hk:∀k,k≠f.n->jF t k=jF f k)
  (B:Bk w' w.heap.size e cs) (J:∀(o:Nat) v,vs[o]? =some v->cs[o]? =some v) (C:Ext w w') (E:j1 ρ l vs):MR w0 (ρ++[⟨w.heap.size,c,z⟩]) t w':=
 h.more c z D F he fM (λo x y=>by
  rw[ht o]at y;obtain⟨v,h3,I⟩:=E.get o x y
  grind) G hk B C (λid o p hs H=>⟨R7 (h.below id o p hs H),λu=>u⟩) (λb u=>u.elim) (.inl h.old.size)
def Az.mem {d:Nat} {l:ip SV} {m m':Tr SV} (h:Az d o l m m') (hs:∀i,i<l.length->(h8 d (o+i) m).isSome=true) (k:Nat) (hk:(h8 d k m').isSome=true):(h8 d k m).isSome=true:=by
 rw[h k]at hk
 grind
def MR.wr {ρ:Pl} {u v:Mem} {w0:Fm} {id:Nat} {l:ip SV} {f:Ob} {m':Tr SV} {p:At} {y:Array i6} (h:MR w0 ρ u w) (E:jF u id=some f) (F:Az f.d o l f.m m') (hs:∀i,i<l.length->(h8 f.d (o+i) f.m).isSome=true) (Q:v.n=u.n/\v.mp=u.mp) (J:jF v id=some ⟨f.e,f.d,f.n,m'⟩) (hk:∀k,k≠id->jF v k=jF u k)
  (B:ρ[id]? =some p) (O:Bk w p.b f.e cs) (V:Bk w' p.b f.e y) (ab:y.size=cs.size) (hc:∀k,y[k]? =if o<=k/\k<o+l.length then vs[k-o]? else cs[k]?) (I:Fr (λb=>b=p.b) w w') (X:j1 ρ l vs) (Y:0<l.length):MR w0 ρ v w':=by
 have h0:(ig u id o).isSome=true:=by
  have:=hs 0 Y;unfold ig;rw[E];simpa using this
 have back:∀i k,(ig v i k).isSome=true->(ig u i k).isSome=true:=λi k g=>by
  by_cases hi:i=id
  .subst hi;unfold ig at g|-;rw[J]at g;rw[E];exact F.mem hs k g
  grind [ig]
 refine⟨h.len.trans Q.1.symm,λi L h1 H=>?_,h.old.trans I λj af g=>(by
  have g:j=p.b:=g;subst g
  exact(h.xF id o p h0 B).resolve_left fy),λi k q hs hq=>h.xF i k q (back i k hs) hq,λi L h1 k D=>?_,λi R k S q ae Z T a2 a3 a4=>h.apart i R k S q ae Z (back i k T) (back R S a2) a3 a4,by rw[Q.2];exact h.AH.to (Up.refl ρ) (λb l C=>C.fr I λe=>O.Kc (e▸C)) λ_ _ _ C=>C⟩
 case refine_2=>
  by_cases hi:i=id
  .subst hi;rw[J]at h1;injection h1 with h1;subst h1
   show h8 f.d k m'=none
   cases g:h8 f.d k m' with
   |none=>rfl
   |some x=>
    have:=F.mem hs k (by rw[g];rfl);rw[h.pre i f E k D]at this;cases this
  .rw[hk i hi]at h1;exact h.pre i L h1 k D
 by_cases hi:i=id
 .subst hi;rw[J]at h1;injection h1 with h1;subst h1
  obtain⟨k0,D⟩:=H;have W:=F.mem hs k0 D;obtain⟨p2,N,t,G,U,M⟩:=h.gO i f E ⟨k0,W⟩;rw[B]at t;injection t with t;subst t
  have e:=G.one O;subst e;refine⟨p,y,B,V,by rw[ab];exact U,λk x ad=>?_⟩;have K:=F k;rw[show h8 f.d k m'=some x from ad]at K;rw[hc k];split at K
  .rename_i g;rw[if_pos g];exact X.get _ _ K.symm
  grind
 .rw[hk i hi]at h1;obtain⟨q,N,t,G,M⟩:=h.gO i L h1 H;obtain⟨k,ag⟩:=H;have aa:q.b≠p.b:=h.apart i id k o q p hi (by grind [ig]) h0 t B;exact⟨q,N,t,G.fr I aa,M⟩
def MR.kill {ρ:Pl} {f d:Mem} {w0:Fm} {id:Nat} {p:At} (h:MR w0 ρ f w) (C:d.n=f.n/\d.mp=f.mp) (F:jF d id=some ⟨0,0,0,.nil⟩) (hk:∀k,k≠id->jF d k=jF f k) (x:ρ[id]? =some p) (h0:(ig f id o).isSome=true):MR w0 ρ d w/\∀i k q,(ig d i k).isSome=true->ρ[i]? =some q->q.b≠p.b:=by
 have back:∀i k,(ig d i k).isSome=true->i≠id/\(ig f i k).isSome=true:=by grind [ig,h8,kG]
 refine⟨⟨h.len.trans C.1.symm,λi g h1 v=>?_,h.old,λi k q hs hq=>h.xF i k q (back i k hs).2 hq,λi g h1 k y=>?_,λi m k t q E D u a2 a3 a4=>h.apart i m k t q E D (back i k u).2 (back m t a2).2 a3 a4,by grind [AH]⟩,λi k q hs hq=>?_⟩
 .obtain⟨k,B⟩:=v;obtain⟨hi,_⟩:=back i k (by grind [ig]);rw[hk i hi]at h1;exact h.gO i g h1 ⟨k,B⟩
 .by_cases hi:i=id
  .grind [kG]
  .rw[hk i hi]at h1;exact h.pre i g h1 k y
 .obtain⟨hi,hs⟩:=back i k hs;exact h.apart i id k o q p hi hs h0 hq x
section
variable {res:Rs} (hr:res≠ .no)
include hr
theorem qu {m t:Nat} {e:En} {k:AV->Rs} (h:(QX m t).f e k=res):∃a,CO m e t=some a/\k a=res:=by
 unfold QX at h;unfold CO;cases hk:kept m t with
 |true=>rw[hk]at h;exact wF hr h
 |false=>rw[hk]at h;exact wF hr h
theorem iz {x:AV} {f:kw->Nat->Rs} (h:uR x f=res):∃k a,x= .v (.n k a)/\f k a=res:=by
 cases x with
 |v x=>cases x<;>first|exact⟨_,_,rfl,h⟩|exact absurd h.symm hr
 |_=>exact absurd h.symm hr
theorem uE {x:AV} {a b:Rs} (h:WU x a b=res):(x= .v (.b true)/\a=res)\/(x= .v (.b false)/\b=res):=by
 cases x with
 | v x=>
  cases x with
  |b q=>
   cases q with
   |true=>exact .inl ⟨rfl,h⟩
   |false=>exact .inr ⟨rfl,h⟩
  |_=>exact absurd h.symm hr
 |_=>exact absurd h.symm hr
theorem lG {x:AV} {f:ip Nat->Rs} (h:Kv x f=res):∃l,x= .v (.s l)/\f l=res:=by
 cases x with
 |v x=>cases x<;>first|exact⟨_,rfl,h⟩|exact absurd h.symm hr
 |_=>exact absurd h.symm hr
theorem lI {x:AV} {f:Nat->Nat->Rs} (h:MU x f=res):∃id o,x= .v (.p id o)/\f id o=res:=by
 cases x with
 |v x=>cases x<;>first|exact⟨_,_,rfl,h⟩|exact absurd h.symm hr
 |_=>exact absurd h.symm hr
theorem ql {x:AV} {f:ip SV->Rs} (h:VE x f=res):∃l,x= .g l/\f l=res:=by
 cases x<;>first|exact⟨_,rfl,h⟩|exact absurd h.symm hr
theorem Tf {x:AV} {f:ip TV->Rs} (h:onT x f=res):∃l,x= .t l/\f l=res:=by
 cases x<;>first|exact⟨_,rfl,h⟩|exact absurd h.symm hr
theorem T3 {x:AV} {f:Nat->ip SV->Rs} (h:onF x f=res):∃g l,x= .f g l/\f g l=res:=by
 cases x<;>first|exact⟨_,_,rfl,h⟩|exact absurd h.symm hr
theorem uD {x:AV} {f:SV->Rs} {g:ip SV->Rs} (h:S0 x f g=res):(∃y,x= .v y/\f y=res)\/∃l,x= .g l/\g l=res:=by
 cases x with
 |v y=>exact .inl ⟨y,rfl,h⟩
 |g l=>exact .inr ⟨l,rfl,h⟩
 |_=>exact absurd h.symm hr
theorem oT {x:AV} {f:kw->Int->Rs} (h:N0 x f=res):(∃k a,x= .v (.n k a)/\f k (.ofNat a)=res)\/∃k a,x= .v (.m k a)/\f k (.negSucc a)=res:=by
 cases x with
 |v x=>cases x<;>first|exact .inl ⟨_,_,rfl,h⟩|exact .inr ⟨_,_,rfl,h⟩|exact absurd h.symm hr
 |_=>exact absurd h.symm hr
end
theorem YX {n:Nat} (h:n<=1099511627776):fwB n=fw n:=by
 cases n with
 |zero=>rw[EZ];rfl
 |succ n=>
  rw[PU fy fy];rfl
def yQ {res:Rs} (d:res≠ .no) {x:AV} {f:Nat->Rs} (h:Zs x f=res):∃a,x= .v (.fl a)/\f a=res:=by
 cases x with
 |v x=>cases x<;>first|exact⟨_,rfl,h⟩|exact absurd h.symm d
 |_=>exact absurd h.symm d
def LY {res:Rs} (d:res≠ .no) {x:AV} {f:Nat->Nat->Rs} (h:onX x f=res):∃a b,x= .v (.cx a b)/\f a b=res:=by
 cases x with
 |v x=>cases x<;>first|exact⟨_,_,rfl,h⟩|exact absurd h.symm d
 |_=>exact absurd h.symm d
def UG {res:Rs} (d:res≠ .no) {x:AV} {f:Rs} (h:onJ x f=res):x= .v .i0/\f=res:=by
 cases x with
 |v x=>cases x<;>first|exact⟨rfl,h⟩|exact absurd h.symm d
 |_=>exact absurd h.symm d
def yX {ρ:Pl} {x:SV} (h:cS v=some x):SR ρ x v:=by
 unfold cS at h;split at h
 .injection h with h;subst h;rfl
 .split at h
  .rename_i d;injection h with h;subst h;exact⟨rfl,lX⟩
  .cases h
 .split at h
  .rename_i d;injection h with h;subst h
   rw[iU]at d;exact⟨rfl,lX,d.1⟩
  .cases h
 .split at h
  .rename_i d;injection h with h;subst h
   refine⟨?_,?_,by simp_all⟩
   .rename_i s _;obtain⟨l,rfl⟩:=W3 s
    have e:l.map (UInt8.ofNat∘UInt8.toNat)=l:=by
     rw[show(UInt8.ofNat∘UInt8.toNat)=id from funext lX];simp
    simp[jI,su,e]
   grind [UInt8.toNat_lt]
  .cases h
 .injection h with h;subst h;rfl
 .split at h
  .rename_i d;injection h with h;subst h
   rw[iU]at d;have f:=jg d.1;have g:=jq d.2;refine⟨?_,f⟩
   grind [YX]
  .cases h
 .injection h with h;subst h;rfl
 .injection h with h;subst h;exact⟨rfl,by decide,by decide⟩
 .injection h with h;subst h;rfl
 .cases h
def VL {x:SV} (h:cS v=some x):nu x=true:=by
 unfold cS at h;split at h<;>first|(injection h with h;subst h;rfl)|(split at h<;>first|(injection h with h;subst h;rfl)|cases h)|cases h
theorem AF {ρ:Pl}:∀{l:ip i6} {r:ip SV},cL l=some r->j1 ρ r l
 |[],r,h=>by injection h with h;subst h;exact .nil
 | v::l,r,h=>by
  have d:(match cS v,cL l with
   |some a,some r=>some (a::r)
   |_,_=>none)=some r:=h
  split at d
  .rename_i a g h1 f;injection d with d;subst d
   exact .cons ⟨VL h1,yX h1⟩ (AF f)
  .cases d
def R0 {ρ:Pl} {a:AV} (h:cA v=some a):AR ρ a v:=by
 unfold cA at h;split at h
 .rename_i cs;split at h
  .rename_i l d;injection h with h;subst h
   exact⟨cs.toList,AF d,by simp⟩
  .cases h
 .split at h
  .rename_i x f;injection h with h;subst h
   exact yX f
  .cases h
section
variable {res:Rs} (hr:res≠ .no)
include hr
theorem US {a:AV} {e:En} {k:AV->Rs} (h:(Z0 a).f e k=res):k a=res:=by
 unfold Z0 at h;cases a with
 |v x=>
  grind [cV,WH]
 |g l=>
  grind [T9,ru]
 |_=>exact absurd h.symm hr
theorem gq {m:Nat} {e:En} {k:AV->Rs} {ρ:Pl} {Y:Env} (y:ER m ρ e Y) (h:(iG m x).f e k=res):∃a v,gh Y x=some v/\AR ρ a v/\k a=res:=by
 unfold iG at h;cases x with
 |tmp t=>
  obtain⟨a,h1,u⟩:=qu hr h;obtain⟨v,h3,w⟩:=y t a h1;exact⟨a,v,h3,w,u⟩
 | const v=>
  cases n:cA v with
  |none=>
   grind [cA,Z0,noG,absurd]
  | some a=>
   have d:(match cA v with
    |some a=>Z0 a
    |none=>noG).f e k=res:=h
   rw[n]at d;exact⟨a,v,rfl,R0 n,US hr d⟩
 |global g=>exact absurd h.symm hr
 |func f=>exact⟨.f f [],_,rfl,⟨[],.nil,rfl⟩,h⟩
end
def Good (w0:Fm) (ρ:Pl) (c:Kt) (res:Rs) (Y:Env) (dst:Option Tmp):Env->i5->Prop:=λg w'=>∃v f d val,c v f=res/\Up ρ d/\AR d v val/\MR w0 d f w'/\g=gr.put Y dst val
section
variable {m:Nat} {ih:Cl} {e:En} {σ:Mem} {c:Kt} {res:Rs} {ρ:Pl} {Y:Env} {w0:Fm} {w:i5} {full:Array li} {d:Tmp} {R:i9} {pos:String} {af:Array Edge} (hr:res≠ .no) (hE:ER m ρ e Y) (hM:MR w0 ρ σ w)
include hr hE hM
theorem YV (h:(JG m (.move x)).f ih e σ c=res):xs prog fD fC [] gr.gS full (Good w0 ρ c res Y (some d)) [⟨some d,.move x,R,pos,af,none⟩] Y w:=by
 obtain⟨a,v,h1,g,h3⟩:=gq hr hE h;exact KI h1 ⟨a,σ,ρ,v,h3,Up.refl ρ,g,hM,rfl⟩
theorem QP (h:(JG m (.assign x)).f ih e σ c=res):xs prog fD fC [] gr.gS full (Good w0 ρ c res Y (some d)) [⟨some d,.assign x,R,pos,af,none⟩] Y w:=by
 obtain⟨a,v,h1,g,h3⟩:=gq hr hE h;exact Jv h1 ⟨a,σ,ρ,v,h3,Up.refl ρ,g,hM,rfl⟩
theorem KK (h:(JG m (.nilCheck x)).f ih e σ c=res):xs prog fD fC [] gr.gS full (Good w0 ρ c res Y (some d)) [⟨some d,.nilCheck x,R,pos,af,none⟩] Y w:=by
 obtain⟨a,v,h1,g,h3⟩:=gq hr hE h;obtain⟨id,o,rfl,h3⟩:=lI hr h3;have n:=g;obtain⟨p,t,rfl⟩:=g;exact Jb h1 ⟨_,σ,ρ,_,h3,Up.refl ρ,n,hM,rfl⟩
theorem X6 {a b:i7} (h:(JG m (.pick x a b)).f ih e σ c=res):xs prog fD fC [] gr.gS full (Good w0 ρ c res Y (some d)) [⟨some d,.pick x a b,R,pos,af,none⟩] Y w:=by
 obtain⟨q,v,h1,n,h⟩:=gq hr hE h;obtain⟨B,va,h3,u,h⟩:=gq hr hE h;obtain⟨b',C,t,y,h⟩:=gq hr hE h;rcases uE hr h with⟨rfl,h⟩|⟨rfl,h⟩
 .have g:v= .bool true:=n;subst g;exact IU h1 h3 t fx ⟨_,σ,ρ,_,h,Up.refl ρ,u,hM,rfl⟩
 .have g:v= .bool false:=n;subst g;exact IU h1 h3 t fx ⟨_,σ,ρ,_,h,Up.refl ρ,y,hM,rfl⟩
end
section
variable {σ:Mem} {c:Kt} {res:Rs} {ρ:Pl} (hr:res≠ .no)
include hr
theorem yx {s:Nat} (h:Zx σ c k s=res):∃v,c (.v v) σ=res/\SR ρ v (.int k (k.wrap (Int.ofNat s))):=by
 cases k
 case i8|i16|i32|i64=>
  obtain⟨d,h⟩:=fS h hr;have d:=jg d;refine⟨_,h,?_,d⟩
  grind [IntKind.wrap,IntKind.signed,IntKind.bits]
 case u8|u16|u32|u64=>
  have f:=(gV _ _).symm.trans h;refine⟨_,f,?_,?_⟩
  .simp[IntKind.wrap,IntKind.signed,IntKind.bits];exact(HQ s _).symm
  .exact Nat.le_of_lt_succ (rE s fU)
theorem Md {s:Nat} (h:wrM σ c k s=res):∃v,c (.v v) σ=res/\SR ρ v (.int k (k.wrap (Int.negSucc s))):=by
 cases k
 case i8|i16|i32|i64=>
  obtain⟨d,h⟩:=fS h hr;have d:=jg d;refine⟨_,h,?_,d,rfl⟩
  grind [IntKind.wrap,IntKind.signed,IntKind.bits]
 case u8|u16|u32|u64=>
  have f:=(gV _ _).symm.trans h;refine⟨_,f,?_,Nat.sub_le _ _⟩;have e:Int.negSucc s= -(s+1:Int):=rfl;refine congrArg (Value.int _) ?_;have g:∀n,Nat.mod s n=s% n:=λ_=>rfl
  grind [IntKind.wrap,IntKind.signed,IntKind.bits]
theorem vE {s:Int} (h:SO σ c k s=res):∃v,c (.v v) σ=res/\SR ρ v (.int k (k.wrap s)):=by
 cases s with
 |ofNat s=>exact yx hr ((gV _ _).symm.trans h)
 |negSucc s=>exact Md hr ((gV _ _).symm.trans h)
theorem iD {d:kw} {r:Rs} (h:tj k d r=res):k=d/\r=res:=by
 obtain⟨f,h⟩:=fS h hr;refine⟨?_,h⟩;cases k<;>cases d<;>first|rfl|cases f
theorem LX {f:kw->Nat->Nat->Rs} {g:kw->Int->Int->Rs} {x y:AV} {u:i6} (C:AR ρ x u) (B:AR ρ y v) (h:iiK f g x y=res):
  ∃k,(∃a b:Nat,u= .int k a/\v= .int k b/\a<=jx k/\b<=jx k/\f k a b=res)\/∃a b:Int,u= .int k a/\v= .int k b/\g k a b=res:=by
 cases x with
 | v x=>
  cases x with
  | n k a=>
   obtain⟨rfl,D⟩:=C;cases y with
   | v y=>
    cases y with
    |n w b=>
     obtain⟨d,t⟩:=iD hr (show tj k w (f k a b)=res from h);clear h;subst d;have h:=t;obtain⟨rfl,E⟩:=B
     grind
    |m w b=>
     obtain⟨d,t⟩:=iD hr (show tj k w (g k (.ofNat a) (.negSucc b))=res from h);clear h;subst d;have h:=t;obtain⟨rfl,_⟩:=B
     grind
    |_=>exact absurd h.symm hr
   |_=>exact absurd h.symm hr
  | m k a=>
   obtain⟨rfl,_⟩:=C;rcases oT hr (show N0 y (λw b=>tj k w (g k (.negSucc a) b))=res from h)with⟨w,b,rfl,h⟩|⟨w,b,rfl,h⟩
   .obtain⟨d,t⟩:=iD hr h;clear h;subst d;have h:=t;obtain⟨rfl,_⟩:=B
    grind
   .obtain⟨d,t⟩:=iD hr h;clear h;subst d;have h:=t;obtain⟨rfl,_⟩:=B
    grind
  |_=>exact absurd h.symm hr
 |_=>exact absurd h.symm hr
